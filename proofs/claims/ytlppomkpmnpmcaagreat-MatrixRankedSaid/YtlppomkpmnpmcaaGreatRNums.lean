/- lotteryref12: Numbers, Lowest, Highest, least, Fields. -/
import Derived.Test.YtlppomkpmnpmcaaGreatName
import Derived.Test.YtlppomkpmnpmcaaGreatGame
import Derived.Deep.RegionWith
import Derived.Deep.RegionHeld3
import Derived.Deep.DeepCutAuto
open Go.RowKit
set_option linter.unusedVariables false
set_option linter.unusedSimpArgs false
namespace Go.Proofs.YtlppomkpmnpmcaaGreat

/-- A slice of ints, the older memory as it was. -/
def ListV (l : List Int) (w : World) (e : Ending) (w' : World) : Prop := ∃ u, e = .returned u ∧ Rd I64 w' u l ∧ Below w.heap.size w w'

def leastI (a b : Int) : Int := if a < b then a else b
def numsL (g : GameD) : List Int := [g.price, g.main, g.of, g.bonus, g.bonusOf, g.extra, g.draws, g.system, g.days, g.at_, g.close, g.cancel, g.expiry, g.pool, g.reserve, g.round, g.cap, g.rolls]
def lowL (g : GameD) : List Int := [1, 1, if g.kind = 2 then 2 else g.main, 0, g.bonus, 0, 1, g.main, 1, 0, 0, 0, 1, 0, 0, 1, 0, 0]
def highL (g : GameD) : List Int := [1000000, 10, if g.kind = 2 then 10 else 80, if g.kind = 2 then 0 else 4, if g.bonus = 0 then 0 else 80, if g.kind = 2 then 0 else leastI 4 (wrap64 (g.of - g.main)), 32, if g.kind = 2 then g.main else leastI 14 g.of, 127, 1439, 1440, 10080, 3660, 10000, 10000, 1000000, 1000000000000, 64]

theorem Rd.at2 {w : World} {o : Obj} {t : TypeId} {l : List Int} {n : Nat} (hn : n = l.length) (hm : n ≤ 9223372036854775807) : Rd I64 ((w.alloc o).alloc (.cells (l.map I64).toArray t)) (.slice (some ⟨w.heap.size + 1, 0, none⟩) n n) l :=
  (Row.at2 w o t (l.map I64)).rdAll hn (Nat.le_refl _) hm

set_option maxHeartbeats 1000000 in
theorem numbers_any (g : GameD) (av tv : Value) (w : World) (hav : ∃ ao n cap, av = .slice ao n cap) (htv : ∃ ao n cap, tv = .slice ao n cap) :
    Calls Tryz.prog 54 #[gameVal g av tv] w (ListV (numsL g) w) := by
  obtain ⟨gname, gkind, gprice, gmain, gof, gbonus, gbonusOf, gextra, gdraws, gsystem, gdays, gat, gclose, gcancel, gexpiry, gpool, greserve, ground, gcap, grolls, ga, gt⟩ := g
  obtain ⟨a1, a2, a3, rfl⟩ := hav
  obtain ⟨b1, b2, b3, rfl⟩ := htv
  unfold gameVal
  (try simp only [])
  go_enter Tryz.func54, Tryz.ntmps54
  go_wp2
  go_ret
  exact ⟨_, rfl, Rd.at2 rfl (by decide), Bel.al (Bel.al (Below.refl _ _) _) _⟩

set_option maxHeartbeats 1000000 in
theorem lowest_any (g : GameD) (av tv : Value) (w : World) (hav : ∃ ao n cap, av = .slice ao n cap) (htv : ∃ ao n cap, tv = .slice ao n cap) :
    Calls Tryz.prog 56 #[gameVal g av tv] w (ListV (lowL g) w) := by
  obtain ⟨l, hl⟩ : ∃ l, l = lowL g := ⟨_, rfl⟩
  rw [← hl]
  unfold lowL at hl
  obtain ⟨gname, gkind, gprice, gmain, gof, gbonus, gbonusOf, gextra, gdraws, gsystem, gdays, gat, gclose, gcancel, gexpiry, gpool, greserve, ground, gcap, grolls, ga, gt⟩ := g
  obtain ⟨a1, a2, a3, rfl⟩ := hav
  obtain ⟨b1, b2, b3, rfl⟩ := htv
  unfold gameVal
  (try simp only [] at hl ⊢)
  by_cases hk : gkind = 2
  · subst hk
    rw [if_pos rfl] at hl
    replace hl := hide hl
    go_enter Tryz.func56, Tryz.ntmps56
    go_wp2
    go_ret
    rw [hl.out]
    exact ⟨_, rfl, Rd.at2 rfl (by decide), Bel.al (Bel.al (Below.refl _ _) _) _⟩
  · rw [if_neg hk] at hl
    have hkb : (gkind == 2) = false := by simpa using hk
    replace hk := hide hk
    replace hl := hide hl
    go_enter Tryz.func56, Tryz.ntmps56
    go_wp2
    go_ret
    rw [hl.out]
    exact ⟨_, rfl, Rd.at2 rfl (by decide), Bel.al (Bel.al (Below.refl _ _) _) _⟩

theorem least_any (a b : Int) (w : World) : Calls Tryz.prog 86 #[.int .i64 a, .int .i64 b] w (Pure (.int .i64 (leastI a b)) w) := by
  unfold leastI
  by_cases h : a < b
  · rw [if_pos h]
    go_enter Tryz.func86, Tryz.ntmps86
    go_wp2
    go_ret
    exact ⟨rfl, rfl⟩
  · rw [if_neg h]
    go_enter Tryz.func86, Tryz.ntmps86
    go_wp2
    go_ret
    exact ⟨rfl, rfl⟩

/-- Texts. -/
def TextV (n : Nat) (w : World) (e : Ending) (w' : World) : Prop := ∃ u ss, e = .returned u ∧ Rd Value.string w' u ss ∧ ss.length = n ∧ Below w.heap.size w w'

set_option maxHeartbeats 1000000 in
theorem fields_any (w : World) : Calls Tryz.prog 58 #[] w (TextV 18 w) := by
  go_enter Tryz.func58, Tryz.ntmps58
  go_wp2
  go_ret
  exact ⟨_, [⟨#[112, 114, 105, 99, 101]⟩, ⟨#[109, 97, 105, 110]⟩, ⟨#[111, 102]⟩, ⟨#[98, 111, 110, 117, 115]⟩, ⟨#[98, 111, 110, 117, 115, 111, 102]⟩, ⟨#[101, 120, 116, 114, 97]⟩, ⟨#[100, 114, 97, 119, 115]⟩, ⟨#[115, 121, 115, 116, 101, 109]⟩, ⟨#[100, 97, 121, 115]⟩, ⟨#[97, 116]⟩, ⟨#[99, 108, 111, 115, 101]⟩, ⟨#[99, 97, 110, 99, 101, 108]⟩, ⟨#[101, 120, 112, 105, 114, 121]⟩, ⟨#[112, 111, 111, 108]⟩, ⟨#[114, 101, 115, 101, 114, 118, 101]⟩, ⟨#[114, 111, 117, 110, 100]⟩, ⟨#[99, 97, 112]⟩, ⟨#[114, 111, 108, 108, 115]⟩], rfl, Row.rdAll (V := Value.string) (Row.newOf (cs := List.map Value.string [⟨#[112, 114, 105, 99, 101]⟩, ⟨#[109, 97, 105, 110]⟩, ⟨#[111, 102]⟩, ⟨#[98, 111, 110, 117, 115]⟩, ⟨#[98, 111, 110, 117, 115, 111, 102]⟩, ⟨#[101, 120, 116, 114, 97]⟩, ⟨#[100, 114, 97, 119, 115]⟩, ⟨#[115, 121, 115, 116, 101, 109]⟩, ⟨#[100, 97, 121, 115]⟩, ⟨#[97, 116]⟩, ⟨#[99, 108, 111, 115, 101]⟩, ⟨#[99, 97, 110, 99, 101, 108]⟩, ⟨#[101, 120, 112, 105, 114, 121]⟩, ⟨#[112, 111, 111, 108]⟩, ⟨#[114, 101, 115, 101, 114, 118, 101]⟩, ⟨#[114, 111, 117, 110, 100]⟩, ⟨#[99, 97, 112]⟩, ⟨#[114, 111, 108, 108, 115]⟩]) _ rfl) rfl (by decide) (by decide), rfl, Bel.al (Below.refl _ _) _⟩

set_option maxHeartbeats 2000000 in
set_option maxRecDepth 100000 in
theorem highest_any (g : GameD) (av tv : Value) (w : World) (hav : ∃ ao n cap, av = .slice ao n cap) (htv : ∃ ao n cap, tv = .slice ao n cap) :
    Calls Tryz.prog 57 #[gameVal g av tv] w (ListV (highL g) w) := by
  obtain ⟨l, hl⟩ : ∃ l, l = highL g := ⟨_, rfl⟩
  rw [← hl]
  unfold highL at hl
  obtain ⟨gname, gkind, gprice, gmain, gof, gbonus, gbonusOf, gextra, gdraws, gsystem, gdays, gat, gclose, gcancel, gexpiry, gpool, greserve, ground, gcap, grolls, ga, gt⟩ := g
  obtain ⟨a1, a2, a3, rfl⟩ := hav
  obtain ⟨b1, b2, b3, rfl⟩ := htv
  unfold gameVal
  (try simp only [] at hl ⊢)
  by_cases hk : gkind = 2
  · rw [if_pos hk, if_pos hk, if_pos hk, if_pos hk] at hl
    subst hk
    by_cases hb : gbonus = 0
    · rw [if_pos hb] at hl
      replace hl := hide hl
      subst hb
      go_enter Tryz.func57, Tryz.ntmps57
      go_upto_region 1 with (fail)
      obtain ⟨W, hW⟩ : ∃ W, W = (w.alloc (Obj.cells #[.string gname, .int .i64 2, .int .i64 gprice, .int .i64 gmain, .int .i64 gof, .int .i64 0, .int .i64 gbonusOf, .int .i64 gextra, .int .i64 gdraws, .int .i64 gsystem, .int .i64 gdays, .int .i64 gat, .int .i64 gclose, .int .i64 gcancel, .int .i64 gexpiry, .int .i64 gpool, .int .i64 greserve, .int .i64 ground, .int .i64 gcap, .int .i64 grolls, (.slice a1 a2 a3), (.slice b1 b2 b3)] 25)) := ⟨_, rfl⟩
      have bW : Below w.heap.size w W := by rw [hW]; exact Bel.al (Below.refl _ _) _
      have r0 : Row W (w.heap.size) 25 [.string gname, .int .i64 2, .int .i64 gprice, .int .i64 gmain, .int .i64 gof, .int .i64 0, .int .i64 gbonusOf, .int .i64 gextra, .int .i64 gdraws, .int .i64 gsystem, .int .i64 gdays, .int .i64 gat, .int .i64 gclose, .int .i64 gcancel, .int .i64 gexpiry, .int .i64 gpool, .int .i64 greserve, .int .i64 ground, .int .i64 gcap, .int .i64 grolls, (.slice a1 a2 a3), (.slice b1 b2 b3)] := by rw [hW]; exact Row.new _ _ _
      have c0_1 : W.cell? ⟨w.heap.size, 1, none⟩ = some (.int .i64 2) := Row.cell r0 (i := 1) (by simp)
      have c0_3 : W.cell? ⟨w.heap.size, 3, none⟩ = some (.int .i64 gmain) := Row.cell r0 (i := 3) (by simp)
      have c0_4 : W.cell? ⟨w.heap.size, 4, none⟩ = some (.int .i64 gof) := Row.cell r0 (i := 4) (by simp)
      have c0_5 : W.cell? ⟨w.heap.size, 5, none⟩ = some (.int .i64 0) := Row.cell r0 (i := 5) (by simp)
      have sW : w.heap.size < W.heap.size := by rw [hW]; simp
      rw [← hW]
      clear hW
      go_region_held3 (fun X => X.cell? ⟨w.heap.size, 4, none⟩ = some (.int .i64 gof) ∧ X.cell? ⟨w.heap.size, 3, none⟩ = some (.int .i64 gmain)) (go_keep) (first
        | (go_at_call 86; refine (least_any _ _ _).mono ?_; rintro e w' ⟨rfl, rfl⟩))
      go_wp2
      go_ret
      rw [hl.out]
      exact ⟨_, rfl, Rd.drew (Row.rdAll (V := I64) (Row.newOf _ rfl) rfl (by decide) (by decide)), Below.drew (Bel.al bW _)⟩
    · rw [if_neg hb] at hl
      replace hl := hide hl
      have hbb : (gbonus == 0) = false := by simpa using hb
      replace hb := hide hb
      go_enter Tryz.func57, Tryz.ntmps57
      go_upto_region 1 with (fail)
      obtain ⟨W, hW⟩ : ∃ W, W = (w.alloc (Obj.cells #[.string gname, .int .i64 2, .int .i64 gprice, .int .i64 gmain, .int .i64 gof, .int .i64 gbonus, .int .i64 gbonusOf, .int .i64 gextra, .int .i64 gdraws, .int .i64 gsystem, .int .i64 gdays, .int .i64 gat, .int .i64 gclose, .int .i64 gcancel, .int .i64 gexpiry, .int .i64 gpool, .int .i64 greserve, .int .i64 ground, .int .i64 gcap, .int .i64 grolls, (.slice a1 a2 a3), (.slice b1 b2 b3)] 25)) := ⟨_, rfl⟩
      have bW : Below w.heap.size w W := by rw [hW]; exact Bel.al (Below.refl _ _) _
      have r0 : Row W (w.heap.size) 25 [.string gname, .int .i64 2, .int .i64 gprice, .int .i64 gmain, .int .i64 gof, .int .i64 gbonus, .int .i64 gbonusOf, .int .i64 gextra, .int .i64 gdraws, .int .i64 gsystem, .int .i64 gdays, .int .i64 gat, .int .i64 gclose, .int .i64 gcancel, .int .i64 gexpiry, .int .i64 gpool, .int .i64 greserve, .int .i64 ground, .int .i64 gcap, .int .i64 grolls, (.slice a1 a2 a3), (.slice b1 b2 b3)] := by rw [hW]; exact Row.new _ _ _
      have c0_1 : W.cell? ⟨w.heap.size, 1, none⟩ = some (.int .i64 2) := Row.cell r0 (i := 1) (by simp)
      have c0_3 : W.cell? ⟨w.heap.size, 3, none⟩ = some (.int .i64 gmain) := Row.cell r0 (i := 3) (by simp)
      have c0_4 : W.cell? ⟨w.heap.size, 4, none⟩ = some (.int .i64 gof) := Row.cell r0 (i := 4) (by simp)
      have c0_5 : W.cell? ⟨w.heap.size, 5, none⟩ = some (.int .i64 gbonus) := Row.cell r0 (i := 5) (by simp)
      have sW : w.heap.size < W.heap.size := by rw [hW]; simp
      rw [← hW]
      clear hW
      go_region_held3 (fun X => X.cell? ⟨w.heap.size, 4, none⟩ = some (.int .i64 gof) ∧ X.cell? ⟨w.heap.size, 3, none⟩ = some (.int .i64 gmain)) (go_keep) (first
        | (go_at_call 86; refine (least_any _ _ _).mono ?_; rintro e w' ⟨rfl, rfl⟩))
      go_wp2
      go_ret
      rw [hl.out]
      exact ⟨_, rfl, Rd.drew (Row.rdAll (V := I64) (Row.newOf _ rfl) rfl (by decide) (by decide)), Below.drew (Bel.al bW _)⟩
  · rw [if_neg hk, if_neg hk, if_neg hk, if_neg hk] at hl
    have hkb : (gkind == 2) = false := by simpa using hk
    replace hk := hide hk
    by_cases hb : gbonus = 0
    · rw [if_pos hb] at hl
      replace hl := hide hl
      subst hb
      go_enter Tryz.func57, Tryz.ntmps57
      go_upto_region 1 with (fail)
      obtain ⟨W, hW⟩ : ∃ W, W = (w.alloc (Obj.cells #[.string gname, .int .i64 gkind, .int .i64 gprice, .int .i64 gmain, .int .i64 gof, .int .i64 0, .int .i64 gbonusOf, .int .i64 gextra, .int .i64 gdraws, .int .i64 gsystem, .int .i64 gdays, .int .i64 gat, .int .i64 gclose, .int .i64 gcancel, .int .i64 gexpiry, .int .i64 gpool, .int .i64 greserve, .int .i64 ground, .int .i64 gcap, .int .i64 grolls, (.slice a1 a2 a3), (.slice b1 b2 b3)] 25)) := ⟨_, rfl⟩
      have bW : Below w.heap.size w W := by rw [hW]; exact Bel.al (Below.refl _ _) _
      have r0 : Row W (w.heap.size) 25 [.string gname, .int .i64 gkind, .int .i64 gprice, .int .i64 gmain, .int .i64 gof, .int .i64 0, .int .i64 gbonusOf, .int .i64 gextra, .int .i64 gdraws, .int .i64 gsystem, .int .i64 gdays, .int .i64 gat, .int .i64 gclose, .int .i64 gcancel, .int .i64 gexpiry, .int .i64 gpool, .int .i64 greserve, .int .i64 ground, .int .i64 gcap, .int .i64 grolls, (.slice a1 a2 a3), (.slice b1 b2 b3)] := by rw [hW]; exact Row.new _ _ _
      have c0_1 : W.cell? ⟨w.heap.size, 1, none⟩ = some (.int .i64 gkind) := Row.cell r0 (i := 1) (by simp)
      have c0_3 : W.cell? ⟨w.heap.size, 3, none⟩ = some (.int .i64 gmain) := Row.cell r0 (i := 3) (by simp)
      have c0_4 : W.cell? ⟨w.heap.size, 4, none⟩ = some (.int .i64 gof) := Row.cell r0 (i := 4) (by simp)
      have c0_5 : W.cell? ⟨w.heap.size, 5, none⟩ = some (.int .i64 0) := Row.cell r0 (i := 5) (by simp)
      have sW : w.heap.size < W.heap.size := by rw [hW]; simp
      rw [← hW]
      clear hW
      go_region_held3 (fun X => X.cell? ⟨w.heap.size, 4, none⟩ = some (.int .i64 gof) ∧ X.cell? ⟨w.heap.size, 3, none⟩ = some (.int .i64 gmain)) (go_keep) (first
        | (go_at_call 86; refine (least_any _ _ _).mono ?_; rintro e w' ⟨rfl, rfl⟩))
      go_wp2
      go_ret
      rw [hl.out]
      exact ⟨_, rfl, Rd.drew (Row.rdAll (V := I64) (Row.newOf _ rfl) rfl (by decide) (by decide)), Below.drew (Bel.al bW _)⟩
    · rw [if_neg hb] at hl
      replace hl := hide hl
      have hbb : (gbonus == 0) = false := by simpa using hb
      replace hb := hide hb
      go_enter Tryz.func57, Tryz.ntmps57
      go_upto_region 1 with (fail)
      obtain ⟨W, hW⟩ : ∃ W, W = (w.alloc (Obj.cells #[.string gname, .int .i64 gkind, .int .i64 gprice, .int .i64 gmain, .int .i64 gof, .int .i64 gbonus, .int .i64 gbonusOf, .int .i64 gextra, .int .i64 gdraws, .int .i64 gsystem, .int .i64 gdays, .int .i64 gat, .int .i64 gclose, .int .i64 gcancel, .int .i64 gexpiry, .int .i64 gpool, .int .i64 greserve, .int .i64 ground, .int .i64 gcap, .int .i64 grolls, (.slice a1 a2 a3), (.slice b1 b2 b3)] 25)) := ⟨_, rfl⟩
      have bW : Below w.heap.size w W := by rw [hW]; exact Bel.al (Below.refl _ _) _
      have r0 : Row W (w.heap.size) 25 [.string gname, .int .i64 gkind, .int .i64 gprice, .int .i64 gmain, .int .i64 gof, .int .i64 gbonus, .int .i64 gbonusOf, .int .i64 gextra, .int .i64 gdraws, .int .i64 gsystem, .int .i64 gdays, .int .i64 gat, .int .i64 gclose, .int .i64 gcancel, .int .i64 gexpiry, .int .i64 gpool, .int .i64 greserve, .int .i64 ground, .int .i64 gcap, .int .i64 grolls, (.slice a1 a2 a3), (.slice b1 b2 b3)] := by rw [hW]; exact Row.new _ _ _
      have c0_1 : W.cell? ⟨w.heap.size, 1, none⟩ = some (.int .i64 gkind) := Row.cell r0 (i := 1) (by simp)
      have c0_3 : W.cell? ⟨w.heap.size, 3, none⟩ = some (.int .i64 gmain) := Row.cell r0 (i := 3) (by simp)
      have c0_4 : W.cell? ⟨w.heap.size, 4, none⟩ = some (.int .i64 gof) := Row.cell r0 (i := 4) (by simp)
      have c0_5 : W.cell? ⟨w.heap.size, 5, none⟩ = some (.int .i64 gbonus) := Row.cell r0 (i := 5) (by simp)
      have sW : w.heap.size < W.heap.size := by rw [hW]; simp
      rw [← hW]
      clear hW
      go_region_held3 (fun X => X.cell? ⟨w.heap.size, 4, none⟩ = some (.int .i64 gof) ∧ X.cell? ⟨w.heap.size, 3, none⟩ = some (.int .i64 gmain)) (go_keep) (first
        | (go_at_call 86; refine (least_any _ _ _).mono ?_; rintro e w' ⟨rfl, rfl⟩))
      go_wp2
      go_ret
      rw [hl.out]
      exact ⟨_, rfl, Rd.drew (Row.rdAll (V := I64) (Row.newOf _ rfl) rfl (by decide) (by decide)), Below.drew (Bel.al bW _)⟩
end Go.Proofs.YtlppomkpmnpmcaaGreat

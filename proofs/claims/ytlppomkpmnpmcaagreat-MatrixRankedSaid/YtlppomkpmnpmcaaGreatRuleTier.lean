/- rulecheck.checkTier. -/
import Derived.Test.YtlppomkpmnpmcaaGreatRuleSmall
import Derived.Deep.RegionHeld3
import Derived.Deep.DeepCutAuto
import Derived.Laws.Rows
open Go.RowKit
set_option linter.unusedVariables false
set_option linter.unusedSimpArgs false
namespace Go.Proofs.YtlppomkpmnpmcaaGreat

theorem tierE_choose {g : GameD} {t : TierD} (h : g.kind ≠ 2) : tierE g t = if chooseTE g t ≠ 0 then chooseTE g t else if inB t.kind 1 3 = false then 7 else if inB t.value 0 1000000000 = false then 2 else 0 := by
  unfold tierE; simp only [if_neg h]
theorem tierE_digits {g : GameD} {t : TierD} (h : g.kind = 2) : tierE g t = if digitsTE g t ≠ 0 then digitsTE g t else if inB t.kind 1 3 = false then 7 else if inB t.value 0 1000000000 = false then 2 else 0 := by
  unfold tierE; simp only [if_pos h]

theorem kind_no {k : Int} (h : ¬ (k = 1 ∨ k = 2 ∨ k = 3)) : inB k 1 3 = false := decide_eq_false (by omega)
theorem kind_yes {k : Int} (h : k = 1 ∨ k = 2 ∨ k = 3) : inB k 1 3 = true := decide_eq_true (by omega)

set_option maxHeartbeats 2000000 in
set_option maxRecDepth 100000 in
theorem checkTier_choose (g : GameD) (t : TierD) (av tv : Value) (w : World) (hk : g.kind ≠ 2) :
    Calls Tryz.prog 65 #[gameVal g av tv, tierVal t] w (IntB (tierE g t) w) := by
  rw [tierE_choose hk]
  obtain ⟨r, hr⟩ : ∃ r, r = (if chooseTE g t ≠ 0 then chooseTE g t else if inB t.kind 1 3 = false then 7 else if inB t.value 0 1000000000 = false then 2 else 0) := ⟨_, rfl⟩
  rw [← hr]
  have c1 := hide (fun w => chooseT_any g t av tv w)
  obtain ⟨c, hc⟩ : ∃ c, c = chooseTE g t := ⟨_, rfl⟩
  rw [← hc] at hr c1
  clear hc
  obtain ⟨gname, gkind, gprice, gmain, gof, gbonus, gbonusOf, gextra, gdraws, gsystem, gdays, gat, gclose, gcancel, gexpiry, gpool, greserve, ground, gcap, grolls, ga, gt⟩ := g
  obtain ⟨tmain, tbonus, textra, tmode, tkind, tvalue⟩ := t
  simp only [] at hk hr
  unfold gameVal tierVal at c1 ⊢
  simp only [] at c1 ⊢
  replace hr := hide hr
  go_enter Tryz.func65, Tryz.ntmps65
  have hkb : (gkind == 2) = false := by simpa using hk
  replace hk := hide hk
  go_upto_region 1 with (fail)
  obtain ⟨W, hW⟩ : ∃ W, W = ((w.alloc (Obj.cells #[.string gname, .int .i64 gkind, .int .i64 gprice, .int .i64 gmain, .int .i64 gof, .int .i64 gbonus, .int .i64 gbonusOf, .int .i64 gextra, .int .i64 gdraws, .int .i64 gsystem, .int .i64 gdays, .int .i64 gat, .int .i64 gclose, .int .i64 gcancel, .int .i64 gexpiry, .int .i64 gpool, .int .i64 greserve, .int .i64 ground, .int .i64 gcap, .int .i64 grolls, av, tv] 25)).alloc (Obj.cells #[.int .i64 tmain, .int .i64 tbonus, .int .i64 textra, .int .i64 tmode, .int .i64 tkind, .int .i64 tvalue] 46)) := ⟨_, rfl⟩
  have bW : Below w.heap.size w W := by rw [hW]; exact Bel.al (Bel.al (Below.refl _ _) _) _
  have r0 : Row W (w.heap.size) 25 [.string gname, .int .i64 gkind, .int .i64 gprice, .int .i64 gmain, .int .i64 gof, .int .i64 gbonus, .int .i64 gbonusOf, .int .i64 gextra, .int .i64 gdraws, .int .i64 gsystem, .int .i64 gdays, .int .i64 gat, .int .i64 gclose, .int .i64 gcancel, .int .i64 gexpiry, .int .i64 gpool, .int .i64 greserve, .int .i64 ground, .int .i64 gcap, .int .i64 grolls, av, tv] := by rw [hW]; exact Row.alloc (Row.new _ _ _) _
  have c0_1 : W.cell? ⟨w.heap.size, 1, none⟩ = some (.int .i64 gkind) := Row.cell r0 (i := 1) (by simp)
  have r1 : Row W (w.heap.size + 1) 46 [.int .i64 tmain, .int .i64 tbonus, .int .i64 textra, .int .i64 tmode, .int .i64 tkind, .int .i64 tvalue] := by rw [hW]; exact Row.at2 _ _ _ _
  have c1_4 : W.cell? ⟨w.heap.size + 1, 4, none⟩ = some (.int .i64 tkind) := Row.cell r1 (i := 4) (by simp)
  have c1_5 : W.cell? ⟨w.heap.size + 1, 5, none⟩ = some (.int .i64 tvalue) := Row.cell r1 (i := 5) (by simp)
  have sW : w.heap.size + 1 < W.heap.size := by rw [hW]; simp
  rw [← hW]
  clear hW
  go_wp2_with (first | (refine wpList_load_row rfl 25 _ rfl _ rfl _ _ _ _ r0 Tryz.underlying25 rfl (by kernel_rfl) ?_) | (refine wpList_load_row rfl 46 _ rfl _ rfl _ _ _ _ r1 Tryz.underlying46 rfl (by kernel_rfl) ?_) | fail)
  refine (c1.out _).mono ?_
  rintro e w1 ⟨rfl, hb1⟩
  have b1' : Below w.heap.size w w1 := Bel.to bW hb1
  have k4 := Bel.cellOf hb1 c1_4
  have k5 := Bel.cellOf hb1 c1_5
  clear hb1 c1 r0 r1 c0_1 c1_4 c1_5 bW sW
  by_cases hc0 : c = 0
  · have e1 : tkind = 1 ∨ tkind = 2 ∨ tkind = 3 ∨ ¬ (tkind = 1 ∨ tkind = 2 ∨ tkind = 3) := by omega
    subst hc0
    rcases e1 with rfl | rfl | rfl | h
    case inr.inr.inr =>
      have hf := hide (kind_no h)
      have n1 : (tkind != 1) = true := by simp; omega
      have n2 : (tkind != 2) = true := by simp; omega
      have n3 : (tkind != 3) = true := by simp; omega
      clear h
      go_wp2
      go_ret
      refine ⟨ret_int ?_, b1'⟩
      rw [hr.out, if_neg (by simp), if_pos hf.out]
    all_goals
      go_wp2_with (first | (go_at_call 63; refine (within_any _ _ _ _).mono ?_; rintro e w' ⟨rfl, rfl⟩) | fail)
      all_goals
        go_ret
        refine ⟨ret_int ?_, b1'⟩
        rw [hr.out, if_neg (by simp), if_neg (by rw [kind_yes (by omega)]; simp)]
        simp_all
  · have hcb : (c != 0) = true := by simpa using hc0
    go_wp2
    go_ret
    refine ⟨ret_int ?_, b1'⟩
    rw [hr.out, if_pos hc0]

set_option maxHeartbeats 2000000 in
set_option maxRecDepth 100000 in
theorem checkTier_digits (g : GameD) (t : TierD) (av tv : Value) (w : World) (hk : g.kind = 2) :
    Calls Tryz.prog 65 #[gameVal g av tv, tierVal t] w (IntB (tierE g t) w) := by
  rw [tierE_digits hk]
  obtain ⟨r, hr⟩ : ∃ r, r = (if digitsTE g t ≠ 0 then digitsTE g t else if inB t.kind 1 3 = false then 7 else if inB t.value 0 1000000000 = false then 2 else 0) := ⟨_, rfl⟩
  rw [← hr]
  have c1 := hide (fun w => digitsT_any g t av tv w)
  obtain ⟨c, hc⟩ : ∃ c, c = digitsTE g t := ⟨_, rfl⟩
  rw [← hc] at hr c1
  clear hc
  obtain ⟨gname, gkind, gprice, gmain, gof, gbonus, gbonusOf, gextra, gdraws, gsystem, gdays, gat, gclose, gcancel, gexpiry, gpool, greserve, ground, gcap, grolls, ga, gt⟩ := g
  obtain ⟨tmain, tbonus, textra, tmode, tkind, tvalue⟩ := t
  simp only [] at hk hr
  unfold gameVal tierVal at c1 ⊢
  simp only [] at c1 ⊢
  replace hr := hide hr
  go_enter Tryz.func65, Tryz.ntmps65
  have hkb : (gkind == 2) = true := by simpa using hk
  replace hk := hide hk
  go_upto_region 1 with (fail)
  obtain ⟨W, hW⟩ : ∃ W, W = ((w.alloc (Obj.cells #[.string gname, .int .i64 gkind, .int .i64 gprice, .int .i64 gmain, .int .i64 gof, .int .i64 gbonus, .int .i64 gbonusOf, .int .i64 gextra, .int .i64 gdraws, .int .i64 gsystem, .int .i64 gdays, .int .i64 gat, .int .i64 gclose, .int .i64 gcancel, .int .i64 gexpiry, .int .i64 gpool, .int .i64 greserve, .int .i64 ground, .int .i64 gcap, .int .i64 grolls, av, tv] 25)).alloc (Obj.cells #[.int .i64 tmain, .int .i64 tbonus, .int .i64 textra, .int .i64 tmode, .int .i64 tkind, .int .i64 tvalue] 46)) := ⟨_, rfl⟩
  have bW : Below w.heap.size w W := by rw [hW]; exact Bel.al (Bel.al (Below.refl _ _) _) _
  have r0 : Row W (w.heap.size) 25 [.string gname, .int .i64 gkind, .int .i64 gprice, .int .i64 gmain, .int .i64 gof, .int .i64 gbonus, .int .i64 gbonusOf, .int .i64 gextra, .int .i64 gdraws, .int .i64 gsystem, .int .i64 gdays, .int .i64 gat, .int .i64 gclose, .int .i64 gcancel, .int .i64 gexpiry, .int .i64 gpool, .int .i64 greserve, .int .i64 ground, .int .i64 gcap, .int .i64 grolls, av, tv] := by rw [hW]; exact Row.alloc (Row.new _ _ _) _
  have c0_1 : W.cell? ⟨w.heap.size, 1, none⟩ = some (.int .i64 gkind) := Row.cell r0 (i := 1) (by simp)
  have r1 : Row W (w.heap.size + 1) 46 [.int .i64 tmain, .int .i64 tbonus, .int .i64 textra, .int .i64 tmode, .int .i64 tkind, .int .i64 tvalue] := by rw [hW]; exact Row.at2 _ _ _ _
  have c1_4 : W.cell? ⟨w.heap.size + 1, 4, none⟩ = some (.int .i64 tkind) := Row.cell r1 (i := 4) (by simp)
  have c1_5 : W.cell? ⟨w.heap.size + 1, 5, none⟩ = some (.int .i64 tvalue) := Row.cell r1 (i := 5) (by simp)
  have sW : w.heap.size + 1 < W.heap.size := by rw [hW]; simp
  rw [← hW]
  clear hW
  go_wp2_with (first | (refine wpList_load_row rfl 25 _ rfl _ rfl _ _ _ _ r0 Tryz.underlying25 rfl (by kernel_rfl) ?_) | (refine wpList_load_row rfl 46 _ rfl _ rfl _ _ _ _ r1 Tryz.underlying46 rfl (by kernel_rfl) ?_) | fail)
  refine (c1.out _).mono ?_
  rintro e w1 ⟨rfl, hb1⟩
  have b1' : Below w.heap.size w w1 := Bel.to bW hb1
  have k4 := Bel.cellOf hb1 c1_4
  have k5 := Bel.cellOf hb1 c1_5
  clear hb1 c1 r0 r1 c0_1 c1_4 c1_5 bW sW
  by_cases hc0 : c = 0
  · have e1 : tkind = 1 ∨ tkind = 2 ∨ tkind = 3 ∨ ¬ (tkind = 1 ∨ tkind = 2 ∨ tkind = 3) := by omega
    subst hc0
    rcases e1 with rfl | rfl | rfl | h
    case inr.inr.inr =>
      have hf := hide (kind_no h)
      have n1 : (tkind != 1) = true := by simp; omega
      have n2 : (tkind != 2) = true := by simp; omega
      have n3 : (tkind != 3) = true := by simp; omega
      clear h
      go_wp2
      go_ret
      refine ⟨ret_int ?_, b1'⟩
      rw [hr.out, if_neg (by simp), if_pos hf.out]
    all_goals
      go_wp2_with (first | (go_at_call 63; refine (within_any _ _ _ _).mono ?_; rintro e w' ⟨rfl, rfl⟩) | fail)
      all_goals
        go_ret
        refine ⟨ret_int ?_, b1'⟩
        rw [hr.out, if_neg (by simp), if_neg (by rw [kind_yes (by omega)]; simp)]
        simp_all
  · have hcb : (c != 0) = true := by simpa using hc0
    go_wp2
    go_ret
    refine ⟨ret_int ?_, b1'⟩
    rw [hr.out, if_pos hc0]

theorem checkTier_any (g : GameD) (t : TierD) (av tv : Value) (w : World) :
    Calls Tryz.prog 65 #[gameVal g av tv, tierVal t] w (IntB (tierE g t) w) := by
  by_cases h : g.kind = 2
  · exact checkTier_digits g t av tv w h
  · exact checkTier_choose g t av tv w h
end Go.Proofs.YtlppomkpmnpmcaaGreat

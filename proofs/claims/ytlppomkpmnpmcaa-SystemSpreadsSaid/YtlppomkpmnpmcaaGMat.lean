/- Lemmas, merged out of smaller texts (wip/tools/merge.py). No condition. -/
import Derived.Deep.RegionHeld3
import Derived.Deep.MidRow
import Derived.Deep.DeepCutAuto
import Derived.BigQuiet
import Derived.Test.YtlppomkpmnpmcaaGLine
import Derived.Test.YtlppomkpmnpmcaaGNat
import Derived.Test.YtlppomkpmnpmcaaGCore

section
/- matrix.Rank. No condition. -/
open Go.RowKit
set_option linter.unusedVariables false
set_option linter.unusedSimpArgs false
namespace Go.Proofs.Ytlppomkpmnpmcaa

/-- Digits below q: the number is below q to the power of how many there are. -/
theorem digitsN_bd {q : Int} {l : List Int} (hq : 1 ≤ q) (h : ∀ x ∈ l, 0 ≤ x ∧ x ≤ q - 1) : 0 ≤ digitsN q l ∧ digitsN q l < q ^ l.length := by
  have key : ∀ (n : Nat) (l : List Int), l.length = n → (∀ x ∈ l, 0 ≤ x ∧ x ≤ q - 1) → 0 ≤ digitsN q l ∧ digitsN q l < q ^ l.length := by
    intro n
    induction n with
    | zero => intro l hl _; obtain rfl := List.eq_nil_of_length_eq_zero hl; exact ⟨by simp [digitsN], by simp [digitsN]⟩
    | succ n ih =>
      intro l hl h
      have hne : l ≠ [] := by intro e; subst e; simp at hl
      obtain ⟨m, x, rfl⟩ : ∃ m x, l = m ++ [x] := ⟨l.dropLast, l.getLast hne, (List.dropLast_concat_getLast hne).symm⟩
      obtain ⟨i1, i2⟩ := ih m (by simpa using hl) (fun y hy => h y (List.mem_append_left _ hy))
      have hx := h x (by simp)
      rw [digitsN_snoc, List.length_append, List.length_singleton, Int.pow_succ]
      have a1 : 0 ≤ digitsN q m * q := Int.mul_nonneg i1 (by omega)
      have a2 : (digitsN q m + 1) * q ≤ q ^ m.length * q := Int.mul_le_mul_of_nonneg_right (by omega) (by omega)
      rw [Int.add_mul] at a2
      omega
  exact key l.length l rfl h

theorem int_pow_ten {q : Int} {n : Nat} (h0 : 0 ≤ q) (h : q ≤ 10) (hn : n ≤ 10) : q ^ n ≤ 10000000000 := by
  obtain ⟨a, rfl⟩ := Int.eq_ofNat_of_zero_le h0
  have := pow_ten (a := a) (n := n) (by omega) hn
  have e : ((a : Int)) ^ n = ((a ^ n : Nat) : Int) := by simp
  rw [e]; omega

theorem rankV_in {n : Nat} {l : List Int} (hn : n ≤ 80) (hc : checkL n 0 l = 0) (hx : choose n l.length ≤ 9223372036854775807) (m : Int) (hm : m = n) : rankV m l = ((rankL n 0 l : Int), 0) := by
  subst hm
  unfold rankV
  rw [if_pos ⟨by omega, by omega⟩, if_neg (by omega), Int.toNat_natCast, if_pos hx]

set_option maxHeartbeats 4000000 in
set_option maxRecDepth 100000 in
theorem mrank_bad (g : GameD) (av tv mv bv : Value) (ms : List AddonM) (a b : List Int) (w : World) (h : GameR w av tv ms g) (hl : LineR w mv bv a b) (he : lineE g a b ≠ 0) :
    Calls Try.prog 35 #[gameVal g av tv, lineVal mv bv] w (IntC 0 (lineE g a b) w) := by
  have hc := hide (fun X (hX : GameR X av tv ms g) (hY : LineR X mv bv a b) => mlcheck_any g av tv mv bv ms a b X hX hY)
  have hh := hide h
  have hl' := hide hl
  obtain ⟨aa, ac, rfl, hal, ham⟩ := h.1.1.shape
  obtain ⟨ta, tc, rfl, htl, htm⟩ := h.2.2.shape
  obtain ⟨ma, mc, rfl, hma, hmc, -⟩ := hl.1.form
  obtain ⟨ba, bc, rfl, hba, hbc, -⟩ := hl.2.form
  clear h hl
  obtain ⟨c, hcc⟩ : ∃ c, c = lineE g a b := ⟨_, rfl⟩
  rw [← hcc] at hc he ⊢
  clear hcc
  have hcb : (c != 0) = true := by simpa using he
  replace he := hide he
  unfold gameVal lineVal
  go_enter Try.func35, Try.ntmps35
  go_upto_region 1 with (fail)
  obtain ⟨W, hW⟩ : ∃ W, W = ((w.alloc (Obj.cells #[.string g.name, .int .i64 g.kind, .int .i64 g.price, .int .i64 g.main, .int .i64 g.of, .int .i64 g.bonus, .int .i64 g.bonusOf, .int .i64 g.extra, .int .i64 g.draws, .int .i64 g.system, .int .i64 g.days, .int .i64 g.at_, .int .i64 g.close, .int .i64 g.cancel, .int .i64 g.expiry, .int .i64 g.pool, .int .i64 g.reserve, .int .i64 g.round, .int .i64 g.cap, .int .i64 g.rolls, (.slice aa ms.length ac), (.slice ta g.tiers.length tc)] 25)).alloc (Obj.cells #[(.slice ma a.length mc), (.slice ba b.length bc)] 35)) := ⟨_, rfl⟩
  have bW : Below w.heap.size w W := by rw [hW]; exact Bel.al (Bel.al (Below.refl _ _) _) _
  have r0 : GameAt W (w.heap.size) g ((.slice aa ms.length ac)) ((.slice ta g.tiers.length tc)) := by rw [hW]; exact Row.alloc (Row.new _ _ _) _
  have r1 : LineAt W (w.heap.size + 1) ((.slice ma a.length mc)) ((.slice ba b.length bc)) := by rw [hW]; exact Row.at2 _ _ _ _
  have sW : w.heap.size + 1 < W.heap.size := by rw [hW]; simp
  rw [← hW]
  clear hW
  go_wp2_with (first | (refine wpList_load_row rfl 25 _ rfl _ rfl _ _ _ _ r0 Try.underlying25 rfl (by kernel_rfl) ?_) | (refine wpList_load_row rfl 35 _ rfl _ rfl _ _ _ _ r1 Try.underlying35 rfl (by kernel_rfl) ?_) | fail)
  refine (hc.out _ (hh.out.below bW) (hl'.out.below bW)).mono ?_
  rintro e w1 ⟨rfl, hb1⟩
  have B1 := Bel.to bW hb1
  clear hb1
  go_wp2
  go_ret2
  exact ⟨rfl, B1⟩

set_option maxHeartbeats 4000000 in
set_option maxRecDepth 100000 in
theorem mrank_digits (g : GameD) (av tv mv bv : Value) (ms : List AddonM) (a b : List Int) (w : World) (h : GameR w av tv ms g) (hl : LineR w mv bv a b) (he : lineE g a b = 0) (hk : g.kind = 2) :
    Calls Try.prog 35 #[gameVal g av tv, lineVal mv bv] w (IntC (rankG g a b) 0 w) := by
  have hc := hide (fun X (hX : GameR X av tv ms g) (hY : LineR X mv bv a b) => mlcheck_any g av tv mv bv ms a b X hX hY)
  have hh := hide h
  have hl' := hide hl
  obtain ⟨aa, ac, rfl, hal, ham⟩ := h.1.1.shape
  obtain ⟨ta, tc, rfl, htl, htm⟩ := h.2.2.shape
  obtain ⟨ma, mc, rfl, hma, hmc, -⟩ := hl.1.form
  obtain ⟨ba, bc, rfl, hba, hbc, -⟩ := hl.2.form
  obtain ⟨e1, e2, e3, e4, e5, e6, e7⟩ := lineE_ok.1 he
  have hf := mat_facts (game_mat e1)
  rw [he] at hc
  have hr : rankG g a b = digitsN g.of a := if_pos hk
  rw [hr]
  have hlo : lowG g = 0 := if_pos hk
  have hhi : highG g = g.of - 1 := if_pos hk
  rw [hlo, hhi] at e4
  have hof1 : 2 ≤ g.of := by omega
  have hof2 : g.of ≤ 10 := by omega
  have hlen : a.length ≤ 10 := by omega
  have hkb : (g.kind == 2) = true := by simpa using hk
  have hmc' : mc ≤ 9223372036854775807 := by unfold maxLen at hmc; omega
  have hbd : ∀ i : Nat, i ≤ a.length → 0 ≤ digitsN g.of (a.take i) ∧ digitsN g.of (a.take i) ≤ 10000000000 := by
    intro i hi
    have h1 := digitsN_bd (q := g.of) (l := a.take i) (by omega) (fun x hx => e4 x (List.mem_of_mem_take hx))
    have h2 := int_pow_ten (q := g.of) (n := (a.take i).length) (by omega) hof2 (by rw [List.length_take]; omega)
    omega
  replace hbd := hide hbd
  replace e4 := hide e4
  replace hk := hide hk
  clear h hl he e1 e2 e3 e5 e6 e7 hf hr hlo hhi
  unfold gameVal lineVal
  go_enter Try.func35, Try.ntmps35
  go_upto_region 1 with (fail)
  obtain ⟨W, hW⟩ : ∃ W, W = ((w.alloc (Obj.cells #[.string g.name, .int .i64 g.kind, .int .i64 g.price, .int .i64 g.main, .int .i64 g.of, .int .i64 g.bonus, .int .i64 g.bonusOf, .int .i64 g.extra, .int .i64 g.draws, .int .i64 g.system, .int .i64 g.days, .int .i64 g.at_, .int .i64 g.close, .int .i64 g.cancel, .int .i64 g.expiry, .int .i64 g.pool, .int .i64 g.reserve, .int .i64 g.round, .int .i64 g.cap, .int .i64 g.rolls, (.slice aa ms.length ac), (.slice ta g.tiers.length tc)] 25)).alloc (Obj.cells #[(.slice ma a.length mc), (.slice ba b.length bc)] 35)) := ⟨_, rfl⟩
  have bW : Below w.heap.size w W := by rw [hW]; exact Bel.al (Bel.al (Below.refl _ _) _) _
  have r0 : GameAt W (w.heap.size) g ((.slice aa ms.length ac)) ((.slice ta g.tiers.length tc)) := by rw [hW]; exact Row.alloc (Row.new _ _ _) _
  have r1 : LineAt W (w.heap.size + 1) ((.slice ma a.length mc)) ((.slice ba b.length bc)) := by rw [hW]; exact Row.at2 _ _ _ _
  have sW : w.heap.size + 1 < W.heap.size := by rw [hW]; simp
  rw [← hW]
  clear hW
  go_wp2_with (first | (refine wpList_load_row rfl 25 _ rfl _ rfl _ _ _ _ r0 Try.underlying25 rfl (by kernel_rfl) ?_) | (refine wpList_load_row rfl 35 _ rfl _ rfl _ _ _ _ r1 Try.underlying35 rfl (by kernel_rfl) ?_) | fail)
  refine (hc.out _ (hh.out.below bW) (hl'.out.below bW)).mono ?_
  rintro e w1 ⟨rfl, hb1⟩
  have B1 := Bel.to bW hb1
  have d1 := (r0.keep hb1).kind
  have d4 := (r0.keep hb1).of
  have l0 := (r1.keep hb1).main
  have hrd := (hl'.out.below B1).1
  clear hb1 r0 r1 bW hh hc hl'
  go_wp2
  go_loopg [7, 27] a.length (fun gh t q wr => ∃ (i : Nat) (p : Int), gh = a.length - i ∧ i ≤ a.length ∧ q = .int .i64 i ∧ t = .int .i64 p ∧ wr = w1 ∧ p = digitsN g.of (a.take i))
  case atStart => exact ⟨0, 0, rfl, Nat.zero_le _, rfl, rfl, rfl, rfl⟩
  case round =>
    obtain ⟨i, p, hg, hi, rfl, rfl, rfl, hp⟩ := hrel
    replace hg := hide hg
    by_cases hlt : i < a.length
    · have hlt2 := hide hlt
      obtain ⟨b2, off, rfl, hbb, hcell⟩ := hrd.at_ hlt
      have i1 : (0 : Int) ≤ (i : Int) := by omega
      have i2 : (i : Int) < (a.length : Int) := by omega
      obtain ⟨x, hx, c1⟩ : ∃ x, x = a[i] ∧ wr.cell? ⟨b2, off + i, none⟩ = some (.int .i64 x) := ⟨_, rfl, hcell _ hlt⟩
      have hnext : p * g.of + x = digitsN g.of (a.take (i + 1)) := by
        rw [take_snoc a i hlt, digitsN_snoc, ← hp, hx]; rfl
      have hb1 := hbd.out i hi
      have hb2 := hbd.out (i + 1) hlt
      have hx1 := e4.out x (by rw [hx]; exact List.getElem_mem hlt)
      rw [← hp] at hb1
      rw [← hnext] at hb2
      have p1 : 0 ≤ p * g.of := Int.mul_nonneg hb1.1 (by omega)
      have p2 : p * g.of ≤ 10000000000 := by omega
      obtain ⟨hb2a, hb2b⟩ := hb2
      obtain ⟨hx1a, hx1b⟩ := hx1
      replace hnext := hide hnext
      replace hp := hide hp
      replace hx := hide hx
      clear hcell hb1
      go_wp2
      go_roundg (a.length - (i + 1))
      case measure => have := hg.out; have := hlt2.out; omega
      case rel => exact ⟨i + 1, p * g.of + x, rfl, by have := hlt2.out; omega, by go_num, rfl, rfl, hnext.out⟩
    · have hin : i = a.length := by omega
      rw [hin, List.take_length] at hp
      replace hp := hide hp
      replace hin := hide hin
      go_wp2
      go_ret2
      rw [← hp.out]
      exact ⟨rfl, B1⟩

/-- What a valid line of a choose game comes to. -/
theorem choose_facts {g : GameD} {a b : List Int} (he : lineE g a b = 0) (hk : g.kind ≠ 2) :
    checkL g.of.toNat 0 (sortI a) = 0 ∧ checkL g.bonusOf.toNat 0 (sortI b) = 0 ∧ g.of = ((g.of.toNat : Nat) : Int) ∧ g.main = ((g.main.toNat : Nat) : Int) ∧ g.bonusOf = ((g.bonusOf.toNat : Nat) : Int) ∧ g.bonus = ((g.bonus.toNat : Nat) : Int) ∧
    g.of.toNat ≤ 80 ∧ g.bonusOf.toNat ≤ 80 ∧ (sortI a).length = g.main.toNat ∧ (sortI b).length = g.bonus.toNat ∧ choose g.of.toNat g.main.toNat ≤ 1646492110120 ∧ bonusN g ≤ 1581580 ∧
    rankL g.of.toNat 0 (sortI a) < choose g.of.toNat g.main.toNat ∧ rankL g.bonusOf.toNat 0 (sortI b) < bonusN g := by
  obtain ⟨e1, e2, e3, e4, e5, e6, e7⟩ := lineE_ok.1 he
  have hf := mat_facts (game_mat e1)
  have hlo : lowG g = 1 := if_neg hk
  have hhi : highG g = g.of := if_neg hk
  rw [hlo, hhi] at e4
  have o1 : g.of = ((g.of.toNat : Nat) : Int) := by omega
  have o2 : g.bonusOf = ((g.bonusOf.toNat : Nat) : Int) := by omega
  have c1 := check_sortI (n := ((g.of.toNat : Nat) : Int)) (e6 hk) (fun x hx => by have := e4 x hx; omega)
  have c2 := check_sortI (n := ((g.bonusOf.toNat : Nat) : Int)) e7 (fun x hx => by have := e5 x hx; omega)
  have l1 : (sortI a).length = g.main.toNat := by rw [sortI_len]; omega
  have l2 : (sortI b).length = g.bonus.toNat := by rw [sortI_len]; omega
  have r1 := rankL_lt (n := g.of.toNat) (last := 0) (l := sortI a) (by omega) c1
  have r2 := rankL_lt (n := g.bonusOf.toNat) (last := 0) (l := sortI b) (by omega) c2
  rw [l1] at r1
  rw [l2] at r2
  exact ⟨c1, c2, o1, by omega, o2, by omega, by omega, by omega, l1, l2, choose_main (by omega) (by omega), choose_bonus (by omega) (by omega), r1, r2⟩

set_option maxHeartbeats 4000000 in
set_option maxRecDepth 100000 in
theorem mrank_choose (g : GameD) (av tv mv bv : Value) (ms : List AddonM) (a b : List Int) (w : World) (h : GameR w av tv ms g) (hl : LineR w mv bv a b) (he : lineE g a b = 0) (hk : g.kind ≠ 2) :
    Calls Try.prog 35 #[gameVal g av tv, lineVal mv bv] w (IntC (rankG g a b) 0 w) := by
  have hc := hide (fun X (hX : GameR X av tv ms g) (hY : LineR X mv bv a b) => mlcheck_any g av tv mv bv ms a b X hX hY)
  have hh := hide h
  have hl' := hide hl
  obtain ⟨aa, ac, rfl, hal, ham⟩ := h.1.1.shape
  obtain ⟨ta, tc, rfl, htl, htm⟩ := h.2.2.shape
  obtain ⟨ma, mc, rfl, hma, hmc, -⟩ := hl.1.form
  obtain ⟨ba, bc, rfl, hba, hbc, -⟩ := hl.2.form
  obtain ⟨c1, c2, o1, o2, o3, o4, n1, n2, l1, l2, b1, b2, r1, r2⟩ := choose_facts he hk
  have hs1 : a.length ≤ 1000 := by
    have := mat_facts (game_mat (lineE_ok.1 he).1); have := (lineE_ok.1 he).2.1; omega
  have hs2 : b.length ≤ 1000 := by
    have := mat_facts (game_mat (lineE_ok.1 he).1); have := (lineE_ok.1 he).2.2.1; omega
  rw [he] at hc
  have hr : rankG g a b = ((rankL g.of.toNat 0 (sortI a) * bonusN g + rankL g.bonusOf.toNat 0 (sortI b) : Nat) : Int) := if_neg hk
  rw [hr]
  have hkb : (g.kind == 2) = false := by simpa using hk
  have cC := hide (fun X (hX : LineR X (.slice ma a.length mc) (.slice ba b.length bc) a b) => mcanon_any _ _ a b X hX hs1 hs2)
  have cM := hide (fun X u (hX : Rd I64 X u (sortI a)) => rank_any u (sortI a) g.of X hX)
  have cB := hide (fun X u (hX : Rd I64 X u (sortI b)) => rank_any u (sortI b) g.bonusOf X hX)
  have cN := hide (count_any g.bonusOf g.bonus)
  rw [rankV_in n1 c1 (by rw [l1]; omega) g.of o1] at cM
  rw [rankV_in n2 c2 (by rw [l2]; have : choose g.bonusOf.toNat g.bonus.toNat ≤ 1581580 := b2; omega) g.bonusOf o3] at cB
  rw [countV_fit o3 o4 n2 (by have : choose g.bonusOf.toNat g.bonus.toNat ≤ 1581580 := b2; omega)] at cN
  obtain ⟨ra, hra⟩ : ∃ r, r = rankL g.of.toNat 0 (sortI a) := ⟨_, rfl⟩
  obtain ⟨rb, hrb⟩ : ∃ r, r = rankL g.bonusOf.toNat 0 (sortI b) := ⟨_, rfl⟩
  obtain ⟨N, hN⟩ : ∃ r, r = bonusN g := ⟨_, rfl⟩
  rw [← hra] at cM r1 ⊢
  rw [← hrb] at cB r2 ⊢
  rw [← hN] at b2 r2 ⊢
  rw [show choose g.bonusOf.toNat g.bonus.toNat = N from hN.symm] at cN
  have p1 : ra * N ≤ 1646492110120 * 1581580 := Nat.mul_le_mul (by omega) b2
  have q1 : (ra : Int) * (N : Int) = ((ra * N : Nat) : Int) := by simp
  have q2 : (0 : Int) ≤ (ra : Int) * (N : Int) := by omega
  have q3 : (ra : Int) * (N : Int) ≤ 2604058991523589600 := by omega
  have q4 : (rb : Int) ≤ 1581580 := by omega
  have q5 : (ra : Int) * (N : Int) + (rb : Int) = ((ra * N + rb : Nat) : Int) := by simp
  replace q5 := hide q5
  replace hk := hide hk
  clear h hl he c1 c2 o1 o2 o3 o4 n1 n2 l1 l2 b1 b2 r1 r2 hs1 hs2 hr hra hrb hN p1 q1
  unfold gameVal lineVal at *
  go_enter Try.func35, Try.ntmps35
  go_upto_region 1 with (fail)
  obtain ⟨W, hW⟩ : ∃ W, W = ((w.alloc (Obj.cells #[.string g.name, .int .i64 g.kind, .int .i64 g.price, .int .i64 g.main, .int .i64 g.of, .int .i64 g.bonus, .int .i64 g.bonusOf, .int .i64 g.extra, .int .i64 g.draws, .int .i64 g.system, .int .i64 g.days, .int .i64 g.at_, .int .i64 g.close, .int .i64 g.cancel, .int .i64 g.expiry, .int .i64 g.pool, .int .i64 g.reserve, .int .i64 g.round, .int .i64 g.cap, .int .i64 g.rolls, (.slice aa ms.length ac), (.slice ta g.tiers.length tc)] 25)).alloc (Obj.cells #[(.slice ma a.length mc), (.slice ba b.length bc)] 35)) := ⟨_, rfl⟩
  have bW : Below w.heap.size w W := by rw [hW]; exact Bel.al (Bel.al (Below.refl _ _) _) _
  have r0 : GameAt W (w.heap.size) g ((.slice aa ms.length ac)) ((.slice ta g.tiers.length tc)) := by rw [hW]; exact Row.alloc (Row.new _ _ _) _
  have r1 : LineAt W (w.heap.size + 1) ((.slice ma a.length mc)) ((.slice ba b.length bc)) := by rw [hW]; exact Row.at2 _ _ _ _
  have sW : w.heap.size + 1 < W.heap.size := by rw [hW]; simp
  rw [← hW]
  clear hW
  go_wp2_with (first | (refine wpList_load_row rfl 25 _ rfl _ rfl _ _ _ _ r0 Try.underlying25 rfl (by kernel_rfl) ?_) | (refine wpList_load_row rfl 35 _ rfl _ rfl _ _ _ _ r1 Try.underlying35 rfl (by kernel_rfl) ?_) | fail)
  refine (hc.out _ (hh.out.below bW) (hl'.out.below bW)).mono ?_
  rintro e w1 ⟨rfl, hb1⟩
  have B1 := Bel.to bW hb1
  have r0 := r0.keep hb1
  have r1 := r1.keep hb1
  have d1 := r0.kind
  clear hb1
  go_wp2_with (first | (refine wpList_load_row rfl 35 _ rfl _ rfl _ _ _ _ r1 Try.underlying35 rfl (by kernel_rfl) ?_) | fail)
  refine (cC.out _ (hl'.out.below B1)).mono ?_
  rintro e w2 ⟨u, v, rfl, ⟨hu, hv⟩, hb2⟩
  have B2 := Bel.to B1 hb2
  have r0 := r0.keep hb2
  have z0 : w.heap.size < w2.heap.size := by have := hb2.size; have := B1.size; have := World.block_lt_of_cell? _ _ d1; simp at this; omega
  clear hb2 r1 d1 B1
  obtain ⟨u1, u2, u3, rfl⟩ := Rd.shape hu
  obtain ⟨v1, v2, v3, rfl⟩ := Rd.shape hv
  unfold lineVal
  go_upto_region 13 with (fail)
  obtain ⟨Z, hZ⟩ : ∃ Z, Z = (w2.alloc (Obj.cells #[(.slice u1 u2 u3), (.slice v1 v2 v3)] 35)) := ⟨_, rfl⟩
  have bZ : Below w2.heap.size w2 Z := by rw [hZ]; exact Bel.al (Below.refl _ _) _
  have rZ0 : LineAt Z (w2.heap.size) ((.slice u1 u2 u3)) ((.slice v1 v2 v3)) := by rw [hZ]; exact Row.new _ _ _
  have sZ : w2.heap.size < Z.heap.size := by rw [hZ]; simp
  rw [← hZ]
  clear hZ
  have d4 := (r0.keep bZ).of
  have d5 := (r0.keep bZ).bonus
  have d6 := (r0.keep bZ).bonusOf
  have l0 := rZ0.main
  have l1 := rZ0.bonus
  have hu2 := hu.below bZ
  have hv2 := hv.below bZ
  have B3 := Bel.to B2 bZ
  clear r0 rZ0 hu hv B2 bZ
  go_wp2_with fail
  refine (cM.out _ _ hu2).mono ?_
  rintro e w3 ⟨rfl, hb3⟩
  have B3 := Bel.to B3 hb3
  have d5 := Bel.cellOf hb3 d5
  have d6 := Bel.cellOf hb3 d6
  have l1 := Bel.cellOf hb3 l1
  have hv3 := hv2.below hb3
  clear hb3 hu2 hv2 d4 l0
  go_wp2_with fail
  refine (cN.out _).mono ?_
  rintro e w4 ⟨rfl, hb4⟩
  have B3 := Bel.to B3 hb4
  have d6 := Bel.cellOf hb4 d6
  have l1 := Bel.cellOf hb4 l1
  have hv4 := hv3.below hb4
  clear hb4 hv3 d5
  go_wp2_with fail
  refine (cB.out _ _ hv4).mono ?_
  rintro e w5 ⟨rfl, hb5⟩
  have B3 := Bel.to B3 hb5
  clear hb5 hv4 d6 l1
  go_wp2
  go_ret2
  rw [q5.out]
  exact ⟨rfl, B3⟩

theorem mrank_any (g : GameD) (av tv mv bv : Value) (ms : List AddonM) (a b : List Int) (w : World) (h : GameR w av tv ms g) (hl : LineR w mv bv a b) :
    Calls Try.prog 35 #[gameVal g av tv, lineVal mv bv] w (IntC (rankP g a b).1 (rankP g a b).2 w) := by
  unfold rankP
  by_cases he : lineE g a b = 0
  · rw [if_pos he]
    by_cases hk : g.kind = 2
    · exact mrank_digits g av tv mv bv ms a b w h hl he hk
    · exact mrank_choose g av tv mv bv ms a b w h hl he hk
  · rw [if_neg he]
    exact mrank_bad g av tv mv bv ms a b w h hl he
end Go.Proofs.Ytlppomkpmnpmcaa
end

section
/- matrix.Unrank. No condition. -/
open Go.RowKit
set_option linter.unusedVariables false
set_option linter.unusedSimpArgs false
namespace Go.Proofs.Ytlppomkpmnpmcaa

/-- A line and a code. -/
def LineC (a b : List Int) (c : Int) (w : World) (e : Ending) (w' : World) : Prop := ∃ u v, e = .returned (.tuple #[lineVal u v, .int .i64 c]) ∧ LineR w' u v a b ∧ Below w.heap.size w w'

set_option maxHeartbeats 2000000 in
set_option maxRecDepth 100000 in
theorem munrank_bad (g : GameD) (av tv : Value) (ms : List AddonM) (r : Int) (w : World) (h : GameR w av tv ms g) (he : gameE g ≠ 0) :
    Calls Try.prog 32 #[gameVal g av tv, .int .i64 r] w (LineC [] [] (gameE g) w) := by
  have hc := hide (fun X (hX : GameR X av tv ms g) => mcount_any g av tv ms X hX)
  have hcp : countP g = (0, gameE g) := if_neg he
  rw [hcp] at hc
  have hh := hide h
  obtain ⟨aa, ac, rfl, hal, ham⟩ := h.1.1.shape
  obtain ⟨ta, tc, rfl, htl, htm⟩ := h.2.2.shape
  clear h
  obtain ⟨c, hcc⟩ : ∃ c, c = gameE g := ⟨_, rfl⟩
  rw [← hcc] at hc he ⊢
  clear hcc hcp
  have hcb : (c != 0) = true := by simpa using he
  replace he := hide he
  unfold gameVal
  go_enter Try.func32, Try.ntmps32
  go_upto_region 1 with (fail)
  obtain ⟨W, hW⟩ : ∃ W, W = ((w.alloc (Obj.cells #[.string g.name, .int .i64 g.kind, .int .i64 g.price, .int .i64 g.main, .int .i64 g.of, .int .i64 g.bonus, .int .i64 g.bonusOf, .int .i64 g.extra, .int .i64 g.draws, .int .i64 g.system, .int .i64 g.days, .int .i64 g.at_, .int .i64 g.close, .int .i64 g.cancel, .int .i64 g.expiry, .int .i64 g.pool, .int .i64 g.reserve, .int .i64 g.round, .int .i64 g.cap, .int .i64 g.rolls, (.slice aa ms.length ac), (.slice ta g.tiers.length tc)] 25)).alloc (Obj.cells #[(.slice none 0 0), (.slice none 0 0)] 35)) := ⟨_, rfl⟩
  have bW : Below w.heap.size w W := by rw [hW]; exact Bel.al (Bel.al (Below.refl _ _) _) _
  have r0 : GameAt W (w.heap.size) g ((.slice aa ms.length ac)) ((.slice ta g.tiers.length tc)) := by rw [hW]; exact Row.alloc (Row.new _ _ _) _
  have r1 : LineAt W (w.heap.size + 1) ((.slice none 0 0)) ((.slice none 0 0)) := by rw [hW]; exact Row.at2 _ _ _ _
  have sW : w.heap.size + 1 < W.heap.size := by rw [hW]; simp
  rw [← hW]
  clear hW
  go_wp2_with (first | (refine wpList_load_row rfl 25 _ rfl _ rfl _ _ _ _ r0 Try.underlying25 rfl (by kernel_rfl) ?_) | fail)
  refine (hc.out _ (hh.out.below bW)).mono ?_
  rintro e w1 ⟨rfl, hb1⟩
  have B1 := Bel.to bW hb1
  have r0 := r0.keep hb1
  have r1 := r1.keep hb1
  have z1 : w.heap.size + 1 < w1.heap.size := by have := hb1.size; omega
  clear hb1
  have x0 := LineAt.main r1
  have x1 := LineAt.bonus r1
  have x2 := Row.frozen r1 0
  have x3 := Row.frozen r1 1
  have rL : LineAt ((w1.setCell ⟨w.heap.size + 1, 0, none⟩ (.slice none 0 0)).setCell ⟨w.heap.size + 1, 1, none⟩ (.slice none 0 0)) (w.heap.size + 1) (.slice none 0 0) (.slice none 0 0) := LineAt.store r1 _ _
  have y0 := hide rL.main
  have y1 := hide rL.bonus
  have B9 := Bel.st (Bel.st B1 (p := ⟨w.heap.size + 1, 0, none⟩) (by simp) (.slice none 0 0)) (p := ⟨w.heap.size + 1, 1, none⟩) (by simp) (.slice none 0 0)
  clear rL
  go_wp2
  exact bodyPost_ret (v := .tuple #[.agg #[.slice none 0 0, .slice none 0 0], .int .i64 c]) (by simp [results, Try.results32, go_sem, y0.out, y1.out]) rfl ⟨_, _, rfl, ⟨Rd.nil, Rd.nil⟩, B9⟩

set_option maxHeartbeats 2000000 in
set_option maxRecDepth 100000 in
theorem munrank_range (g : GameD) (av tv : Value) (ms : List AddonM) (r : Int) (w : World) (h : GameR w av tv ms g) (he : gameE g = 0) (hr : r < 0 ∨ (countG g : Int) ≤ r) :
    Calls Try.prog 32 #[gameVal g av tv, .int .i64 r] w (LineC [] [] 2 w) := by
  have hc := hide (fun X (hX : GameR X av tv ms g) => mcount_any g av tv ms X hX)
  have hcp : countP g = ((countG g : Int), 0) := if_pos he
  rw [hcp] at hc
  have hh := hide h
  obtain ⟨aa, ac, rfl, hal, ham⟩ := h.1.1.shape
  obtain ⟨ta, tc, rfl, htl, htm⟩ := h.2.2.shape
  clear h
  obtain ⟨c, hcc⟩ : ∃ c, c = countG g := ⟨_, rfl⟩
  rw [← hcc] at hc hr
  clear hcc hcp he
  have hcase : r < 0 ∨ (¬ r < 0 ∧ (c : Int) ≤ r) := by omega
  clear hr
  rcases hcase with hr | ⟨hr, hr2⟩
  all_goals
    unfold gameVal
    go_enter Try.func32, Try.ntmps32
    go_upto_region 1 with (fail)
    obtain ⟨W, hW⟩ : ∃ W, W = ((w.alloc (Obj.cells #[.string g.name, .int .i64 g.kind, .int .i64 g.price, .int .i64 g.main, .int .i64 g.of, .int .i64 g.bonus, .int .i64 g.bonusOf, .int .i64 g.extra, .int .i64 g.draws, .int .i64 g.system, .int .i64 g.days, .int .i64 g.at_, .int .i64 g.close, .int .i64 g.cancel, .int .i64 g.expiry, .int .i64 g.pool, .int .i64 g.reserve, .int .i64 g.round, .int .i64 g.cap, .int .i64 g.rolls, (.slice aa ms.length ac), (.slice ta g.tiers.length tc)] 25)).alloc (Obj.cells #[(.slice none 0 0), (.slice none 0 0)] 35)) := ⟨_, rfl⟩
    have bW : Below w.heap.size w W := by rw [hW]; exact Bel.al (Bel.al (Below.refl _ _) _) _
    have r0 : GameAt W (w.heap.size) g ((.slice aa ms.length ac)) ((.slice ta g.tiers.length tc)) := by rw [hW]; exact Row.alloc (Row.new _ _ _) _
    have r1 : LineAt W (w.heap.size + 1) ((.slice none 0 0)) ((.slice none 0 0)) := by rw [hW]; exact Row.at2 _ _ _ _
    have sW : w.heap.size + 1 < W.heap.size := by rw [hW]; simp
    rw [← hW]
    clear hW
    go_wp2_with (first | (refine wpList_load_row rfl 25 _ rfl _ rfl _ _ _ _ r0 Try.underlying25 rfl (by kernel_rfl) ?_) | fail)
    refine (hc.out _ (hh.out.below bW)).mono ?_
    rintro e w1 ⟨rfl, hb1⟩
    have B1 := Bel.to bW hb1
    have r0 := r0.keep hb1
    have r1 := r1.keep hb1
    have z1 : w.heap.size + 1 < w1.heap.size := by have := hb1.size; omega
    clear hb1
    have x0 := LineAt.main r1
    have x1 := LineAt.bonus r1
    have x2 := Row.frozen r1 0
    have x3 := Row.frozen r1 1
    have rL : LineAt ((w1.setCell ⟨w.heap.size + 1, 0, none⟩ (.slice none 0 0)).setCell ⟨w.heap.size + 1, 1, none⟩ (.slice none 0 0)) (w.heap.size + 1) (.slice none 0 0) (.slice none 0 0) := LineAt.store r1 _ _
    have y0 := hide rL.main
    have y1 := hide rL.bonus
    have B9 := Bel.st (Bel.st B1 (p := ⟨w.heap.size + 1, 0, none⟩) (by simp) (.slice none 0 0)) (p := ⟨w.heap.size + 1, 1, none⟩) (by simp) (.slice none 0 0)
    clear rL
    go_wp2
    exact bodyPost_ret (v := .tuple #[.agg #[.slice none 0 0, .slice none 0 0], .int .i64 2]) (by simp [results, Try.results32, go_sem, y0.out, y1.out]) rfl ⟨_, _, rfl, ⟨Rd.nil, Rd.nil⟩, B9⟩

set_option maxHeartbeats 4000000 in
set_option maxRecDepth 100000 in
theorem munrank_digits (g : GameD) (av tv : Value) (ms : List AddonM) (r : Nat) (w : World) (h : GameR w av tv ms g) (he : gameE g = 0) (hk : g.kind = 2) (hr : r < countG g) :
    Calls Try.prog 32 #[gameVal g av tv, .int .i64 (r : Int)] w (LineC (digitsL g.of.toNat g.main.toNat r) [] 0 w) := by
  have hc := hide (fun X (hX : GameR X av tv ms g) => mcount_any g av tv ms X hX)
  have hcp : countP g = ((countG g : Int), 0) := if_pos he
  rw [hcp] at hc
  have hh := hide h
  obtain ⟨aa, ac, rfl, hal, ham⟩ := h.1.1.shape
  obtain ⟨ta, tc, rfl, htl, htm⟩ := h.2.2.shape
  clear h
  have hf := mat_facts (game_mat he)
  obtain ⟨f1, f2, f3, f4, f5, f6, f7, f8, f9, f10, f11⟩ := hf
  obtain ⟨e1, e2⟩ := f7 hk
  have hcg : countG g ≤ 10000000000 := by
    have : countG g = g.of.toNat ^ g.main.toNat := if_pos hk
    rw [this]
    exact pow_ten (by omega) (by omega)
  obtain ⟨c, hcc⟩ : ∃ c, c = countG g := ⟨_, rfl⟩
  rw [← hcc] at hc hr hcg
  have hkb : (g.kind == 2) = true := by simpa using hk
  obtain ⟨n, hn⟩ : ∃ n : Nat, g.main = n := ⟨g.main.toNat, by omega⟩
  obtain ⟨q, hq⟩ : ∃ n : Nat, g.of = n := ⟨g.of.toNat, by omega⟩
  rw [hn, hq, Int.toNat_natCast, Int.toNat_natCast]
  have hq2 : 2 ≤ q := by omega
  have hq10 : q ≤ 10 := by omega
  have hn1 : 1 ≤ n := by omega
  have hn10 : n ≤ 10 := by omega
  have hrc : (r : Int) < (c : Int) := by omega
  replace hn := hide hn
  replace hq := hide hq
  replace hk := hide hk
  clear hcc hcp he f1 f2 f3 f4 f5 f6 f7 f8 f9 f10 f11 e1 e2
  unfold gameVal
  go_enter Try.func32, Try.ntmps32
  go_upto_region 1 with (fail)
  obtain ⟨W, hW⟩ : ∃ W, W = ((w.alloc (Obj.cells #[.string g.name, .int .i64 g.kind, .int .i64 g.price, .int .i64 g.main, .int .i64 g.of, .int .i64 g.bonus, .int .i64 g.bonusOf, .int .i64 g.extra, .int .i64 g.draws, .int .i64 g.system, .int .i64 g.days, .int .i64 g.at_, .int .i64 g.close, .int .i64 g.cancel, .int .i64 g.expiry, .int .i64 g.pool, .int .i64 g.reserve, .int .i64 g.round, .int .i64 g.cap, .int .i64 g.rolls, (.slice aa ms.length ac), (.slice ta g.tiers.length tc)] 25)).alloc (Obj.cells #[(.slice none 0 0), (.slice none 0 0)] 35)) := ⟨_, rfl⟩
  have bW : Below w.heap.size w W := by rw [hW]; exact Bel.al (Bel.al (Below.refl _ _) _) _
  have r0 : GameAt W (w.heap.size) g ((.slice aa ms.length ac)) ((.slice ta g.tiers.length tc)) := by rw [hW]; exact Row.alloc (Row.new _ _ _) _
  have r1 : LineAt W (w.heap.size + 1) ((.slice none 0 0)) ((.slice none 0 0)) := by rw [hW]; exact Row.at2 _ _ _ _
  have sW : w.heap.size + 1 < W.heap.size := by rw [hW]; simp
  rw [← hW]
  clear hW
  go_wp2_with (first | (refine wpList_load_row rfl 25 _ rfl _ rfl _ _ _ _ r0 Try.underlying25 rfl (by kernel_rfl) ?_) | fail)
  refine (hc.out _ (hh.out.below bW)).mono ?_
  rintro e w1 ⟨rfl, hb1⟩
  have B1 := Bel.to bW hb1
  have r0 := r0.keep hb1
  have r1 := r1.keep hb1
  have z1 : w.heap.size + 1 < w1.heap.size := by have := hb1.size; omega
  clear hb1
  have d1 := r0.kind
  have d3 := r0.main
  have d4 := r0.of
  rw [hn.out] at d3
  rw [hq.out] at d4
  clear r0 bW hh hc
  go_wp2_with (with_reducible refine wpList_make_row _ rfl _ _ 26 rfl 3 (.int .i64 0) 8 Try.underlying26 infoInt rfl .i64 .i64 _ _ n n rfl rfl rfl rfl (Nat.le_refl _) (by omega) (by omega) ?_; intro w2 hrow hb2 hz2; have d4 := Bel.cellOf hb2 d4; have d3 := Bel.cellOf hb2 d3)
  have r1 := r1.keep hb2
  have B2 := Bel.to B1 hb2
  have hrow0 : Row w2 w1.heap.size 3 ((List.replicate n (0 : Int) ++ []).map I64) := by
    rw [List.append_nil, List.map_replicate]; exact hrow
  have z2 : w1.heap.size < w2.heap.size := by omega
  have hG0 := Gb.refl w2 (some w1.heap.size)
  obtain ⟨gb, hgb⟩ : ∃ gb, gb = w1.heap.size := ⟨_, rfl⟩
  rw [← hgb] at hrow0 hG0 z1 z2 ⊢
  have hgw : w.heap.size ≤ gb := by omega
  clear hrow hb2 hz2 B1 hgb d1
  go_wp2
  go_loopg [1, 9] (n + 1) (fun gh rr t wr => ∃ (k R : Nat) (D : List Int) (x : Int), gh = k + 1 ∧ k ≤ n ∧ rr = .int .i64 (R : Int) ∧ t = .int .i64 x ∧ R ≤ 10000000000 ∧ w2.grownBy wr (some gb) ∧ Row wr gb 3 ((List.replicate k (0 : Int) ++ D).map I64) ∧ Hid (x = (k : Int) - 1) ∧ Hid (digitsL q k R ++ D = digitsL q n r))
  case atStart =>
    refine ⟨n, r, [], (n : Int) - 1, rfl, Nat.le_refl _, rfl, rfl, by omega, hG0, hrow0, rfl, ?_⟩
    show _ = _
    rw [List.append_nil]
  case round =>
    obtain ⟨k, R, D, x, hg, hkn, rfl, rfl, hR, hgr, hrow, hx, hD⟩ := hrel
    replace hg := hide hg
    have d4 := Gb.cellOf hgr d4 (by omega)
    cases k with
    | zero =>
      have hx0 : x = -1 := by have := hx.out; omega
      subst hx0
      have hD0 : D = digitsL q n r := by have := hD.out; rw [digitsL, List.nil_append] at this; exact this
      have hrd : Rd I64 wr (.slice (some ⟨gb, 0, none⟩) n n) D := by
        rw [List.replicate_zero, List.nil_append] at hrow
        exact hrow.rdAll (by rw [hD0, digitsL_len]) (Nat.le_refl _) (by omega)
      have r1 := Row.grown r1 hgr (by intro e; injection e with e; omega)
      have B3 := Gb.bel B2 hgr hgw
      replace hD0 := hide hD0
      replace hD := hide hD
      have x0 := LineAt.main r1
      have x1 := LineAt.bonus r1
      have x2 := Row.frozen r1 0
      have x3 := Row.frozen r1 1
      have rL : LineAt ((wr.setCell ⟨w.heap.size + 1, 0, none⟩ (.slice (some ⟨gb, 0, none⟩) n n)).setCell ⟨w.heap.size + 1, 1, none⟩ (.slice none 0 0)) (w.heap.size + 1) (.slice (some ⟨gb, 0, none⟩) n n) (.slice none 0 0) := LineAt.store r1 _ _
      have y0 := hide rL.main
      have y1 := hide rL.bonus
      have B9 := Bel.st (Bel.st B3 (p := ⟨w.heap.size + 1, 0, none⟩) (by simp) (.slice (some ⟨gb, 0, none⟩) n n)) (p := ⟨w.heap.size + 1, 1, none⟩) (by simp) (.slice none 0 0)
      clear rL
      go_wp2
      have hrd2 := (hrd.setCell (p := ⟨w.heap.size + 1, 0, none⟩) (by simp [Value.ownBlock]; omega) (.slice (some ⟨gb, 0, none⟩) n n)).setCell (p := ⟨w.heap.size + 1, 1, none⟩) (by simp [Value.ownBlock]; omega) (.slice none 0 0)
      rw [hD0.out] at hrd2
      exact bodyPost_ret (v := .tuple #[.agg #[.slice (some ⟨gb, 0, none⟩) n n, .slice none 0 0], .int .i64 0]) (by simp [results, Try.results32, go_sem, y0.out, y1.out]) rfl ⟨_, _, rfl, ⟨hrd2, Rd.nil⟩, B9⟩
    | succ j =>
      have hxj : x = (j : Int) := by have := hx.out; omega
      subst hxj
      have hD1 : digitsL q j (R / q) ++ (((R % q : Nat) : Int) :: D) = digitsL q n r := by
        have := hD.out; rw [digitsL, List.append_assoc] at this; exact this
      have hset : (List.replicate (j + 1) (0 : Int) ++ D).set j ((R % q : Nat) : Int) = List.replicate j 0 ++ (((R % q : Nat) : Int) :: D) := by
        rw [List.replicate_succ', List.append_assoc, List.set_append_right _ _ (by simp)]
        simp
      have hrow2 := hrow.setV j (((R % q : Nat) : Int))
      rw [hset] at hrow2
      have hgr2 := Gb.set (g := gb) hgr (p := ⟨gb, j, none⟩) (.inl rfl) (I64 ((R % q : Nat) : Int))
      have hlen : ((List.replicate (j + 1) (0 : Int) ++ D).map I64).length = n := by
        have := congrArg List.length hD.out
        rw [List.length_append, digitsL_len, digitsL_len] at this
        rw [List.length_map, List.length_append, List.length_replicate]; exact this
      have ce := Row.cell hrow (i := j) (by omega)
      have cf := Row.frozen hrow j
      have j1 : (0 : Int) ≤ (j : Int) := by omega
      have j2 : (j : Int) < (n : Int) := by omega
      have m1 : (R : Int) % (q : Int) = ((R % q : Nat) : Int) := by simp
      have m2 : (R : Int) / (q : Int) = ((R / q : Nat) : Int) := by simp
      have m3 : R / q ≤ 10000000000 := Nat.le_trans (Nat.div_le_self _ _) hR
      obtain ⟨R2, hR2⟩ : ∃ R2, R2 = R / q := ⟨_, rfl⟩
      rw [← hR2] at m2 m3 hD1
      have q0 : ((q : Int) == 0) = false := by simp; omega
      have q1 : (q : Int) ≠ 0 := by omega
      rw [show I64 ((R % q : Nat) : Int) = .int .i64 ((R : Int) % (q : Int)) by rw [m1]] at hrow2 hgr2
      replace m1 := hide m1
      replace m2 := hide m2
      replace hR2 := hide hR2
      replace m3 := hide m3
      replace hD1 := hide hD1
      replace hset := hide hset
      replace hlen := hide hlen
      go_wp2
      go_roundg (j + 1)
      case measure => have := hg.out; omega
      case rel => exact ⟨j, R2, _ :: D, (j : Int) - 1, rfl, by omega, by rw [m2.out]; first | rfl | (rw [IntWalk.wrap64_in _ (by have := m3.out; omega)]), rfl, m3.out, hgr2, hrow2, rfl, hD1⟩

/-- What the two parts of a rank come to. -/
theorem unrank_facts {g : GameD} {r : Nat} (he : gameE g = 0) (hk : g.kind ≠ 2) (hr : r < countG g) :
    0 < bonusN g ∧ bonusN g ≤ 1581580 ∧ r / bonusN g < choose g.of.toNat g.main.toNat ∧ r % bonusN g < bonusN g ∧ choose g.of.toNat g.main.toNat ≤ 1646492110120 ∧
    g.of = ((g.of.toNat : Nat) : Int) ∧ g.main = ((g.main.toNat : Nat) : Int) ∧ g.bonusOf = ((g.bonusOf.toNat : Nat) : Int) ∧ g.bonus = ((g.bonus.toNat : Nat) : Int) ∧
    g.of.toNat ≤ 80 ∧ g.bonusOf.toNat ≤ 80 ∧ g.main.toNat ≤ g.of.toNat ∧ g.bonus.toNat ≤ g.bonusOf.toNat ∧ r ≤ 2604058991523589600 := by
  have hf := mat_facts (game_mat he)
  have hc : countG g = choose g.of.toNat g.main.toNat * bonusN g := if_neg hk
  rw [hc] at hr
  have hN : 0 < bonusN g := choose_pos (by omega)
  have b1 : choose g.of.toNat g.main.toNat ≤ 1646492110120 := choose_main (by omega) (by omega)
  have b2 : bonusN g ≤ 1581580 := choose_bonus (by omega) (by omega)
  have b3 := Nat.mul_le_mul b1 b2
  refine ⟨hN, b2, ?_, Nat.mod_lt _ hN, b1, by omega, by omega, by omega, by omega, by omega, by omega, by omega, by omega, by omega⟩
  exact Nat.div_lt_of_lt_mul (by rw [Nat.mul_comm]; exact hr)

theorem unrankV_in {r n k : Nat} (hn : n ≤ 80) (hk : k ≤ n) (hx : choose n k ≤ 9223372036854775807) (hr : r < choose n k) (x a b : Int) (e1 : x = r) (e2 : a = n) (e3 : b = k) : unrankV x a b = (unrankL n 1 r k, 0) := by
  subst e1 e2 e3
  unfold unrankV
  rw [if_pos ⟨by omega, by omega, by omega, by omega⟩]
  simp only [Int.toNat_natCast]
  rw [if_pos hx, if_pos ⟨by omega, by omega⟩]

set_option maxHeartbeats 4000000 in
set_option maxRecDepth 100000 in
theorem munrank_choose (g : GameD) (av tv : Value) (ms : List AddonM) (r : Nat) (w : World) (h : GameR w av tv ms g) (he : gameE g = 0) (hk : g.kind ≠ 2) (hr : r < countG g) :
    Calls Try.prog 32 #[gameVal g av tv, .int .i64 (r : Int)] w (LineC (unrankG g r).1 (unrankG g r).2 0 w) := by
  have hc := hide (fun X (hX : GameR X av tv ms g) => mcount_any g av tv ms X hX)
  have hcp : countP g = ((countG g : Int), 0) := if_pos he
  rw [hcp] at hc
  have hh := hide h
  obtain ⟨aa, ac, rfl, hal, ham⟩ := h.1.1.shape
  obtain ⟨ta, tc, rfl, htl, htm⟩ := h.2.2.shape
  clear h
  obtain ⟨n1, n2, f1, f2, f3, o1, o2, o3, o4, m1, m2, m3, m4, hrb⟩ := unrank_facts he hk hr
  have hug : unrankG g r = (unrankL g.of.toNat 1 (r / bonusN g) g.main.toNat, unrankL g.bonusOf.toNat 1 (r % bonusN g) g.bonus.toNat) := if_neg hk
  rw [hug]
  have cN := hide (count_any g.bonusOf g.bonus)
  rw [countV_fit o3 o4 m2 (Nat.le_trans n2 (by omega))] at cN
  obtain ⟨N, hN⟩ : ∃ N, N = bonusN g := ⟨_, rfl⟩
  rw [show choose g.bonusOf.toNat g.bonus.toNat = N from hN.symm] at cN
  rw [← hN] at n1 n2 f1 f2 ⊢
  obtain ⟨a, ha⟩ : ∃ a, a = r / N := ⟨_, rfl⟩
  obtain ⟨b, hb⟩ : ∃ b, b = r % N := ⟨_, rfl⟩
  rw [← ha] at f1 ⊢
  rw [← hb] at f2 ⊢
  have cU := hide (unrank_any (a : Int) g.of g.main)
  rw [unrankV_in m1 m3 (by omega) f1 _ _ _ rfl o1 o2] at cU
  have cV := hide (unrank_any (b : Int) g.bonusOf g.bonus)
  rw [unrankV_in m2 m4 (show choose g.bonusOf.toNat g.bonus.toNat ≤ 9223372036854775807 by rw [show choose g.bonusOf.toNat g.bonus.toNat = N from hN.symm]; omega) (by rw [show choose g.bonusOf.toNat g.bonus.toNat = N from hN.symm]; exact f2) _ _ _ rfl o3 o4] at cV
  have t1 : Int.tdiv (r : Int) (N : Int) = (a : Int) := by rw [Int.tdiv_eq_ediv_of_nonneg (by omega), ha]; simp
  have t2 : Int.tmod (r : Int) (N : Int) = (b : Int) := by rw [Int.tmod_eq_emod_of_nonneg (by omega), hb]; simp
  have t3 : (r : Int) / (N : Int) = (a : Int) := by rw [ha]; simp
  have t4 : (r : Int) % (N : Int) = (b : Int) := by rw [hb]; simp
  have ba : a ≤ 1646492110120 := by omega
  have bb : b ≤ 1581580 := by omega
  have q0 : ((N : Int) == 0) = false := by simp; omega
  have q1 : (N : Int) ≠ 0 := by omega
  have q2 : N ≠ 0 := by omega
  have q3 : (N == 0) = false := by simp; omega
  have t5 : IntKind.i64.wrap (a : Int) = (a : Int) := IntWalk.i64_in _ (by omega)
  have t6 : IntKind.i64.wrap (b : Int) = (b : Int) := IntWalk.i64_in _ (by omega)
  obtain ⟨c, hcc⟩ : ∃ c, c = countG g := ⟨_, rfl⟩
  rw [← hcc] at hc hr
  have hrc : (r : Int) < (c : Int) := by omega
  have hkb : (g.kind == 2) = false := by simpa using hk
  obtain ⟨L1, hL1⟩ : ∃ L, L = unrankL g.of.toNat 1 a g.main.toNat := ⟨_, rfl⟩
  obtain ⟨L2, hL2⟩ : ∃ L, L = unrankL g.bonusOf.toNat 1 b g.bonus.toNat := ⟨_, rfl⟩
  rw [← hL1] at cU ⊢
  rw [← hL2] at cV ⊢
  replace hk := hide hk
  clear hcc hcp he hN ha hb hL1 hL2 o1 o2 o3 o4 m1 m2 m3 m4 f1 f2 f3 hug
  unfold gameVal
  go_enter Try.func32, Try.ntmps32
  go_upto_region 1 with (fail)
  obtain ⟨W, hW⟩ : ∃ W, W = ((w.alloc (Obj.cells #[.string g.name, .int .i64 g.kind, .int .i64 g.price, .int .i64 g.main, .int .i64 g.of, .int .i64 g.bonus, .int .i64 g.bonusOf, .int .i64 g.extra, .int .i64 g.draws, .int .i64 g.system, .int .i64 g.days, .int .i64 g.at_, .int .i64 g.close, .int .i64 g.cancel, .int .i64 g.expiry, .int .i64 g.pool, .int .i64 g.reserve, .int .i64 g.round, .int .i64 g.cap, .int .i64 g.rolls, (.slice aa ms.length ac), (.slice ta g.tiers.length tc)] 25)).alloc (Obj.cells #[(.slice none 0 0), (.slice none 0 0)] 35)) := ⟨_, rfl⟩
  have bW : Below w.heap.size w W := by rw [hW]; exact Bel.al (Bel.al (Below.refl _ _) _) _
  have r0 : GameAt W (w.heap.size) g ((.slice aa ms.length ac)) ((.slice ta g.tiers.length tc)) := by rw [hW]; exact Row.alloc (Row.new _ _ _) _
  have r1 : LineAt W (w.heap.size + 1) ((.slice none 0 0)) ((.slice none 0 0)) := by rw [hW]; exact Row.at2 _ _ _ _
  have sW : w.heap.size + 1 < W.heap.size := by rw [hW]; simp
  rw [← hW]
  clear hW
  go_wp2_with (first | (refine wpList_load_row rfl 25 _ rfl _ rfl _ _ _ _ r0 Try.underlying25 rfl (by kernel_rfl) ?_) | fail)
  refine (hc.out _ (hh.out.below bW)).mono ?_
  rintro e w1 ⟨rfl, hb1⟩
  have B1 := Bel.to bW hb1
  have r0 := r0.keep hb1
  have r1 := r1.keep hb1
  have d1 := r0.kind
  have d3 := r0.main
  have d4 := r0.of
  have d5 := r0.bonus
  have d6 := r0.bonusOf
  clear hb1 hh hc bW
  go_wp2_with fail
  refine (cN.out _).mono ?_
  rintro e w2 ⟨rfl, hb2⟩
  have B2 := Bel.to B1 hb2
  have r1 := r1.keep hb2
  have d3 := Bel.cellOf hb2 d3
  have d4 := Bel.cellOf hb2 d4
  have d5 := Bel.cellOf hb2 d5
  have d6 := Bel.cellOf hb2 d6
  clear hb2 B1 d1 r0
  go_wp2
  go_region_held3 (fun X => X.cell? ⟨w.heap.size, 4, none⟩ = some (.int .i64 g.of) ∧ X.cell? ⟨w.heap.size, 3, none⟩ = some (.int .i64 g.main)) (go_keep) (first
    | (go_at_call 62; (with_reducible refine (cU.out _).mono ?_); rintro e w3 ⟨u1, rfl, hu1, hb3⟩; obtain ⟨s1, k1, p1, rfl⟩ := Rd.shape hu1; have d3 : w3.cell? ⟨w.heap.size, 3, none⟩ = some (.int .i64 g.main) := Bel.cellOf hb3 d3; have d4 : w3.cell? ⟨w.heap.size, 4, none⟩ = some (.int .i64 g.of) := Bel.cellOf hb3 d4))
  have B3 := Bel.to B2 (Bel.to (Below.drew (Below.refl _ _)) hb3)
  have d5 : w3.cell? ⟨w.heap.size, 5, none⟩ = some (.int .i64 g.bonus) := Bel.cellOf hb3 d5
  have d6 : w3.cell? ⟨w.heap.size, 6, none⟩ = some (.int .i64 g.bonusOf) := Bel.cellOf hb3 d6
  have r1 : LineAt w3 (w.heap.size + 1) (.slice none 0 0) (.slice none 0 0) := (show LineAt w2.drew _ _ _ from r1).keep hb3
  clear hb3 B2
  go_wp2
  go_region_held3 (fun X => X.cell? ⟨w.heap.size, 6, none⟩ = some (.int .i64 g.bonusOf) ∧ X.cell? ⟨w.heap.size, 5, none⟩ = some (.int .i64 g.bonus)) (go_keep) (first
    | (go_at_call 62; (with_reducible refine (cV.out _).mono ?_); rintro e w4 ⟨u2, rfl, hu2, hb4⟩; obtain ⟨s2, k2, p2, rfl⟩ := Rd.shape hu2; have d5 : w4.cell? ⟨w.heap.size, 5, none⟩ = some (.int .i64 g.bonus) := Bel.cellOf hb4 d5; have d6 : w4.cell? ⟨w.heap.size, 6, none⟩ = some (.int .i64 g.bonusOf) := Bel.cellOf hb4 d6))
  have B4 := Bel.to B3 (Bel.to (Below.drew (Below.refl _ _)) hb4)
  have r1 : LineAt w4 (w.heap.size + 1) (.slice none 0 0) (.slice none 0 0) := (show LineAt w3.drew _ _ _ from r1).keep hb4
  have hu1 := Rd.below (Rd.drew hu1) hb4
  clear hb4 B3 d3 d4 d5 d6
  have x0 := LineAt.main r1
  have x1 := LineAt.bonus r1
  have x2 := Row.frozen r1 0
  have x3 := Row.frozen r1 1
  have rL : LineAt ((w4.setCell ⟨w.heap.size + 1, 0, none⟩ (.slice s1 k1 p1)).setCell ⟨w.heap.size + 1, 1, none⟩ (.slice s2 k2 p2)) (w.heap.size + 1) (.slice s1 k1 p1) (.slice s2 k2 p2) := LineAt.store r1 _ _
  have y0 := hide rL.main
  have y1 := hide rL.bonus
  have B9 := Bel.st (Bel.st B4 (p := ⟨w.heap.size + 1, 0, none⟩) (by simp) (.slice s1 k1 p1)) (p := ⟨w.heap.size + 1, 1, none⟩) (by simp) (.slice s2 k2 p2)
  have hv1 := (hu1.setNe x0 (fun _ h => by cases h) (.slice s1 k1 p1)).setNe (p := ⟨w.heap.size + 1, 1, none⟩) (c := .slice none 0 0) (by go_simp) (fun _ h => by cases h) (.slice s2 k2 p2)
  have hv2 := (hu2.setNe x0 (fun _ h => by cases h) (.slice s1 k1 p1)).setNe (p := ⟨w.heap.size + 1, 1, none⟩) (c := .slice none 0 0) (by go_simp) (fun _ h => by cases h) (.slice s2 k2 p2)
  clear rL
  go_wp2
  exact bodyPost_ret (v := .tuple #[.agg #[.slice s1 k1 p1, .slice s2 k2 p2], .int .i64 0]) (by simp [results, Try.results32, go_sem, y0.out, y1.out]) rfl ⟨_, _, rfl, ⟨hv1, hv2⟩, B9⟩

theorem munrank_any (g : GameD) (av tv : Value) (ms : List AddonM) (r : Int) (w : World) (h : GameR w av tv ms g) :
    Calls Try.prog 32 #[gameVal g av tv, .int .i64 r] w (LineC (unrankP g r).1.1 (unrankP g r).1.2 (unrankP g r).2 w) := by
  unfold unrankP
  by_cases he : gameE g = 0
  · rw [if_neg (by simpa using he)]
    by_cases hr : r < 0 ∨ (countG g : Int) ≤ r
    · rw [if_pos hr]
      exact munrank_range g av tv ms r w h he hr
    · rw [if_neg hr]
      obtain ⟨R, rfl⟩ := Int.eq_ofNat_of_zero_le (show 0 ≤ r by omega)
      rw [Int.toNat_natCast]
      by_cases hk : g.kind = 2
      · have := munrank_digits g av tv ms R w h he hk (by omega)
        have e : unrankG g R = (digitsL g.of.toNat g.main.toNat R, []) := if_pos hk
        rw [e]; exact this
      · exact munrank_choose g av tv ms R w h he hk (by omega)
  · rw [if_pos (by simpa using he)]
    exact munrank_bad g av tv ms r w h he
end Go.Proofs.Ytlppomkpmnpmcaa
end

section
/- Words for a region that draws its order and reads whole structs: what the blocks hold. No condition. -/
open Go.RowKit
set_option linter.unusedVariables false
set_option linter.unusedSimpArgs false
namespace Go.Proofs.Ytlppomkpmnpmcaa

/-- Each block on the list holds the cells beside it, from its head on. -/
def Rng (X : World) (l : List (Nat × List Value)) : Prop := ∀ p ∈ l, X.rangeAt p.1 0 p.2

theorem Rng.nil (X : World) : Rng X [] := fun _ h => by cases h
theorem Rng.cons {X : World} {b : Nat} {t : TypeId} {cs : List Value} {l : List (Nat × List Value)} (h : Row X b t cs) (hl : Rng X l) : Rng X ((b, cs) :: l) := by
  intro p hp
  rcases List.mem_cons.1 hp with rfl | hp
  · intro j v hv
    rw [Nat.zero_add]
    exact (Row.cell? h j).trans hv
  · exact hl p hp
theorem Rng.keep {X Y : World} {l : List (Nat × List Value)} (h : Rng X l) (hb : Below X.heap.size X Y) : Rng Y l := fun p hp j v hv => Bel.cellOf hb (h p hp j v hv)
theorem Rng.drew {X : World} {l : List (Nat × List Value)} (h : Rng X l) : Rng X.drew l := h
theorem Rng.at0 {X : World} {b : Nat} {cs : List Value} {l : List (Nat × List Value)} (h : Rng X ((b, cs) :: l)) : X.rangeAt b 0 cs := h (b, cs) (.head _)
theorem Rng.at1 {X : World} {p : Nat × List Value} {b : Nat} {cs : List Value} {l : List (Nat × List Value)} (h : Rng X (p :: (b, cs) :: l)) : X.rangeAt b 0 cs := h (b, cs) (.tail _ (.head _))
theorem Rng.at2 {X : World} {p q : Nat × List Value} {b : Nat} {cs : List Value} {l : List (Nat × List Value)} (h : Rng X (p :: q :: (b, cs) :: l)) : X.rangeAt b 0 cs := h (b, cs) (.tail _ (.tail _ (.head _)))

theorem Rng.cell0 {X : World} {b : Nat} {cs : List Value} {l : List (Nat × List Value)} (h : Rng X ((b, cs) :: l)) (j : Nat) (v : Value) (hv : cs[j]? = some v) : X.cell? ⟨b, j, none⟩ = some v := by
  have := h.at0 j v hv
  rwa [Nat.zero_add] at this
theorem Rng.cell1 {X : World} {p : Nat × List Value} {b : Nat} {cs : List Value} {l : List (Nat × List Value)} (h : Rng X (p :: (b, cs) :: l)) (j : Nat) (v : Value) (hv : cs[j]? = some v) : X.cell? ⟨b, j, none⟩ = some v := by
  have := h.at1 j v hv
  rwa [Nat.zero_add] at this
theorem Rng.far {X : World} {l : List (Nat × List Value)} (h : Rng X l) {q : Addr} (hq : ∀ p ∈ l, p.1 ≠ q.block) (u : Value) : Rng (X.setCell q u) l := by
  intro p hp j v hv
  exact cell_far (h p hp j v hv) (hq p hp) u
theorem GameAt.drew {X : World} {b : Nat} {g : GameD} {av tv : Value} (h : GameAt X b g av tv) : GameAt X.drew b g av tv := h
theorem LineAt.drew {X : World} {b : Nat} {mv bv : Value} (h : LineAt X b mv bv) : LineAt X.drew b mv bv := h
theorem Below.drewSelf (X : World) : Below X.heap.size X X.drew := Below.drew (Below.refl _ _)
end Go.Proofs.Ytlppomkpmnpmcaa
end

section
/- lotteryref13.Unrank. No condition. -/
open Go.RowKit
set_option linter.unusedVariables false
set_option linter.unusedSimpArgs false
namespace Go.Proofs.Ytlppomkpmnpmcaa

set_option maxHeartbeats 2000000 in
set_option maxRecDepth 100000 in
theorem qunrank_bad (g : GameD) (av tv : Value) (ms : List AddonM) (r : Int) (w : World) (h : GameR w av tv ms g) (he : gameE g ≠ 0) :
    Calls Try.prog 33 #[gameVal g av tv, .int .i64 r] w (LineC [] [] (gameE g) w) := by
  have hc := hide (fun X (hX : GameR X av tv ms g) => rcount13_any g av tv ms X hX)
  have hcp : countP g = (0, gameE g) := if_neg he
  rw [hcp] at hc
  have hh := hide h
  obtain ⟨aa, ac, rfl, hal, ham⟩ := h.1.1.shape
  obtain ⟨ta, tc, rfl, htl, htm⟩ := h.2.2.shape
  clear h
  obtain ⟨c, hcc⟩ : ∃ c, c = gameE g := ⟨_, rfl⟩
  rw [← hcc] at hc he ⊢
  clear hcc hcp
  have hcb : (c != 0) = true := by simpa using he
  replace he := hide he
  unfold gameVal
  go_enter Try.func33, Try.ntmps33
  go_upto_region 1 with (fail)
  obtain ⟨W, hW⟩ : ∃ W, W = ((w.alloc (Obj.cells #[.string g.name, .int .i64 g.kind, .int .i64 g.price, .int .i64 g.main, .int .i64 g.of, .int .i64 g.bonus, .int .i64 g.bonusOf, .int .i64 g.extra, .int .i64 g.draws, .int .i64 g.system, .int .i64 g.days, .int .i64 g.at_, .int .i64 g.close, .int .i64 g.cancel, .int .i64 g.expiry, .int .i64 g.pool, .int .i64 g.reserve, .int .i64 g.round, .int .i64 g.cap, .int .i64 g.rolls, (.slice aa ms.length ac), (.slice ta g.tiers.length tc)] 25)).alloc (Obj.cells #[(.slice none 0 0), (.slice none 0 0)] 35)) := ⟨_, rfl⟩
  have bW : Below w.heap.size w W := by rw [hW]; exact Bel.al (Bel.al (Below.refl _ _) _) _
  have r0 : GameAt W (w.heap.size) g ((.slice aa ms.length ac)) ((.slice ta g.tiers.length tc)) := by rw [hW]; exact Row.alloc (Row.new _ _ _) _
  have r1 : LineAt W (w.heap.size + 1) ((.slice none 0 0)) ((.slice none 0 0)) := by rw [hW]; exact Row.at2 _ _ _ _
  have sW : w.heap.size + 1 < W.heap.size := by rw [hW]; simp
  rw [← hW]
  clear hW
  go_wp2_with (first | (refine wpList_load_row rfl 25 _ rfl _ rfl _ _ _ _ r0 Try.underlying25 rfl (by kernel_rfl) ?_) | fail)
  refine (hc.out _ (hh.out.below bW)).mono ?_
  rintro e w1 ⟨rfl, hb1⟩
  have B1 := Bel.to bW hb1
  have r0 := r0.keep hb1
  have r1 := r1.keep hb1
  have z1 : w.heap.size + 1 < w1.heap.size := by have := hb1.size; omega
  clear hb1
  have x0 := LineAt.main r1
  have x1 := LineAt.bonus r1
  have x2 := Row.frozen r1 0
  have x3 := Row.frozen r1 1
  have rL : LineAt ((w1.setCell ⟨w.heap.size + 1, 0, none⟩ (.slice none 0 0)).setCell ⟨w.heap.size + 1, 1, none⟩ (.slice none 0 0)) (w.heap.size + 1) (.slice none 0 0) (.slice none 0 0) := LineAt.store r1 _ _
  have y0 := hide rL.main
  have y1 := hide rL.bonus
  have B9 := Bel.st (Bel.st B1 (p := ⟨w.heap.size + 1, 0, none⟩) (by simp) (.slice none 0 0)) (p := ⟨w.heap.size + 1, 1, none⟩) (by simp) (.slice none 0 0)
  clear rL
  go_wp2
  exact bodyPost_ret (v := .tuple #[.agg #[.slice none 0 0, .slice none 0 0], .int .i64 c]) (by simp [results, Try.results33, go_sem, y0.out, y1.out]) rfl ⟨_, _, rfl, ⟨Rd.nil, Rd.nil⟩, B9⟩

set_option maxHeartbeats 2000000 in
set_option maxRecDepth 100000 in
theorem qunrank_range (g : GameD) (av tv : Value) (ms : List AddonM) (r : Int) (w : World) (h : GameR w av tv ms g) (he : gameE g = 0) (hr : r < 0 ∨ (countG g : Int) ≤ r) :
    Calls Try.prog 33 #[gameVal g av tv, .int .i64 r] w (LineC [] [] 2 w) := by
  have hc := hide (fun X (hX : GameR X av tv ms g) => rcount13_any g av tv ms X hX)
  have hcp : countP g = ((countG g : Int), 0) := if_pos he
  rw [hcp] at hc
  have hh := hide h
  obtain ⟨aa, ac, rfl, hal, ham⟩ := h.1.1.shape
  obtain ⟨ta, tc, rfl, htl, htm⟩ := h.2.2.shape
  clear h
  obtain ⟨c, hcc⟩ : ∃ c, c = countG g := ⟨_, rfl⟩
  rw [← hcc] at hc hr
  clear hcc hcp he
  have hcase : r < 0 ∨ (¬ r < 0 ∧ (c : Int) ≤ r) := by omega
  clear hr
  rcases hcase with hr | ⟨hr, hr2⟩
  all_goals
    unfold gameVal
    go_enter Try.func33, Try.ntmps33
    go_upto_region 1 with (fail)
    obtain ⟨W, hW⟩ : ∃ W, W = ((w.alloc (Obj.cells #[.string g.name, .int .i64 g.kind, .int .i64 g.price, .int .i64 g.main, .int .i64 g.of, .int .i64 g.bonus, .int .i64 g.bonusOf, .int .i64 g.extra, .int .i64 g.draws, .int .i64 g.system, .int .i64 g.days, .int .i64 g.at_, .int .i64 g.close, .int .i64 g.cancel, .int .i64 g.expiry, .int .i64 g.pool, .int .i64 g.reserve, .int .i64 g.round, .int .i64 g.cap, .int .i64 g.rolls, (.slice aa ms.length ac), (.slice ta g.tiers.length tc)] 25)).alloc (Obj.cells #[(.slice none 0 0), (.slice none 0 0)] 35)) := ⟨_, rfl⟩
    have bW : Below w.heap.size w W := by rw [hW]; exact Bel.al (Bel.al (Below.refl _ _) _) _
    have r0 : GameAt W (w.heap.size) g ((.slice aa ms.length ac)) ((.slice ta g.tiers.length tc)) := by rw [hW]; exact Row.alloc (Row.new _ _ _) _
    have r1 : LineAt W (w.heap.size + 1) ((.slice none 0 0)) ((.slice none 0 0)) := by rw [hW]; exact Row.at2 _ _ _ _
    have sW : w.heap.size + 1 < W.heap.size := by rw [hW]; simp
    rw [← hW]
    clear hW
    go_wp2_with (first | (refine wpList_load_row rfl 25 _ rfl _ rfl _ _ _ _ r0 Try.underlying25 rfl (by kernel_rfl) ?_) | fail)
    refine (hc.out _ (hh.out.below bW)).mono ?_
    rintro e w1 ⟨rfl, hb1⟩
    have B1 := Bel.to bW hb1
    have r0 := r0.keep hb1
    have r1 := r1.keep hb1
    have z1 : w.heap.size + 1 < w1.heap.size := by have := hb1.size; omega
    clear hb1
    have x0 := LineAt.main r1
    have x1 := LineAt.bonus r1
    have x2 := Row.frozen r1 0
    have x3 := Row.frozen r1 1
    have rL : LineAt ((w1.setCell ⟨w.heap.size + 1, 0, none⟩ (.slice none 0 0)).setCell ⟨w.heap.size + 1, 1, none⟩ (.slice none 0 0)) (w.heap.size + 1) (.slice none 0 0) (.slice none 0 0) := LineAt.store r1 _ _
    have y0 := hide rL.main
    have y1 := hide rL.bonus
    have B9 := Bel.st (Bel.st B1 (p := ⟨w.heap.size + 1, 0, none⟩) (by simp) (.slice none 0 0)) (p := ⟨w.heap.size + 1, 1, none⟩) (by simp) (.slice none 0 0)
    clear rL
    go_wp2
    exact bodyPost_ret (v := .tuple #[.agg #[.slice none 0 0, .slice none 0 0], .int .i64 2]) (by simp [results, Try.results33, go_sem, y0.out, y1.out]) rfl ⟨_, _, rfl, ⟨Rd.nil, Rd.nil⟩, B9⟩

set_option maxHeartbeats 4000000 in
set_option maxRecDepth 100000 in
theorem qunrank_digits (g : GameD) (av tv : Value) (ms : List AddonM) (r : Nat) (w : World) (h : GameR w av tv ms g) (he : gameE g = 0) (hk : g.kind = 2) (hr : r < countG g) :
    Calls Try.prog 33 #[gameVal g av tv, .int .i64 (r : Int)] w (LineC (digitsL g.of.toNat g.main.toNat r) [] 0 w) := by
  have hc := hide (fun X (hX : GameR X av tv ms g) => rcount13_any g av tv ms X hX)
  have hcp : countP g = ((countG g : Int), 0) := if_pos he
  rw [hcp] at hc
  have hh := hide h
  obtain ⟨aa, ac, rfl, hal, ham⟩ := h.1.1.shape
  obtain ⟨ta, tc, rfl, htl, htm⟩ := h.2.2.shape
  clear h
  have hf := mat_facts (game_mat he)
  obtain ⟨f1, f2, f3, f4, f5, f6, f7, f8, f9, f10, f11⟩ := hf
  obtain ⟨e1, e2⟩ := f7 hk
  have hcg : countG g ≤ 10000000000 := by
    have : countG g = g.of.toNat ^ g.main.toNat := if_pos hk
    rw [this]
    exact pow_ten (by omega) (by omega)
  obtain ⟨c, hcc⟩ : ∃ c, c = countG g := ⟨_, rfl⟩
  rw [← hcc] at hc hr hcg
  have hkb : (g.kind == 2) = true := by simpa using hk
  obtain ⟨n, hn⟩ : ∃ n : Nat, g.main = n := ⟨g.main.toNat, by omega⟩
  obtain ⟨q, hq⟩ : ∃ n : Nat, g.of = n := ⟨g.of.toNat, by omega⟩
  rw [hn, hq, Int.toNat_natCast, Int.toNat_natCast]
  have hq2 : 2 ≤ q := by omega
  have hq10 : q ≤ 10 := by omega
  have hn1 : 1 ≤ n := by omega
  have hn10 : n ≤ 10 := by omega
  have hrc : (r : Int) < (c : Int) := by omega
  replace hn := hide hn
  replace hq := hide hq
  replace hk := hide hk
  clear hcc hcp he f1 f2 f3 f4 f5 f6 f7 f8 f9 f10 f11 e1 e2
  unfold gameVal
  go_enter Try.func33, Try.ntmps33
  go_upto_region 1 with (fail)
  obtain ⟨W, hW⟩ : ∃ W, W = ((w.alloc (Obj.cells #[.string g.name, .int .i64 g.kind, .int .i64 g.price, .int .i64 g.main, .int .i64 g.of, .int .i64 g.bonus, .int .i64 g.bonusOf, .int .i64 g.extra, .int .i64 g.draws, .int .i64 g.system, .int .i64 g.days, .int .i64 g.at_, .int .i64 g.close, .int .i64 g.cancel, .int .i64 g.expiry, .int .i64 g.pool, .int .i64 g.reserve, .int .i64 g.round, .int .i64 g.cap, .int .i64 g.rolls, (.slice aa ms.length ac), (.slice ta g.tiers.length tc)] 25)).alloc (Obj.cells #[(.slice none 0 0), (.slice none 0 0)] 35)) := ⟨_, rfl⟩
  have bW : Below w.heap.size w W := by rw [hW]; exact Bel.al (Bel.al (Below.refl _ _) _) _
  have r0 : GameAt W (w.heap.size) g ((.slice aa ms.length ac)) ((.slice ta g.tiers.length tc)) := by rw [hW]; exact Row.alloc (Row.new _ _ _) _
  have r1 : LineAt W (w.heap.size + 1) ((.slice none 0 0)) ((.slice none 0 0)) := by rw [hW]; exact Row.at2 _ _ _ _
  have sW : w.heap.size + 1 < W.heap.size := by rw [hW]; simp
  rw [← hW]
  clear hW
  go_wp2_with (first | (refine wpList_load_row rfl 25 _ rfl _ rfl _ _ _ _ r0 Try.underlying25 rfl (by kernel_rfl) ?_) | fail)
  refine (hc.out _ (hh.out.below bW)).mono ?_
  rintro e w1 ⟨rfl, hb1⟩
  have B1 := Bel.to bW hb1
  have r0 := r0.keep hb1
  have r1 := r1.keep hb1
  have z1 : w.heap.size + 1 < w1.heap.size := by have := hb1.size; omega
  clear hb1
  have d1 := r0.kind
  have d3 := r0.main
  have d4 := r0.of
  rw [hn.out] at d3
  rw [hq.out] at d4
  clear r0 bW hh hc
  go_wp2_with (with_reducible refine wpList_make_row _ rfl _ _ 26 rfl 3 (.int .i64 0) 8 Try.underlying26 infoInt rfl .i64 .i64 _ _ n n rfl rfl rfl rfl (Nat.le_refl _) (by omega) (by omega) ?_; intro w2 hrow hb2 hz2; have d4 := Bel.cellOf hb2 d4; have d3 := Bel.cellOf hb2 d3)
  have r1 := r1.keep hb2
  have B2 := Bel.to B1 hb2
  have hrow0 : Row w2 w1.heap.size 3 ((List.replicate n (0 : Int) ++ []).map I64) := by
    rw [List.append_nil, List.map_replicate]; exact hrow
  have z2 : w1.heap.size < w2.heap.size := by omega
  have hG0 := Gb.refl w2 (some w1.heap.size)
  obtain ⟨gb, hgb⟩ : ∃ gb, gb = w1.heap.size := ⟨_, rfl⟩
  rw [← hgb] at hrow0 hG0 z1 z2 ⊢
  have hgw : w.heap.size ≤ gb := by omega
  clear hrow hb2 hz2 B1 hgb d1
  go_wp2
  go_loopg [1, 9] (n + 1) (fun gh rr t wr => ∃ (k R : Nat) (D : List Int) (x : Int), gh = k + 1 ∧ k ≤ n ∧ rr = .int .i64 (R : Int) ∧ t = .int .i64 x ∧ R ≤ 10000000000 ∧ w2.grownBy wr (some gb) ∧ Row wr gb 3 ((List.replicate k (0 : Int) ++ D).map I64) ∧ Hid (x = (k : Int) - 1) ∧ Hid (digitsL q k R ++ D = digitsL q n r))
  case atStart =>
    refine ⟨n, r, [], (n : Int) - 1, rfl, Nat.le_refl _, rfl, rfl, by omega, hG0, hrow0, rfl, ?_⟩
    show _ = _
    rw [List.append_nil]
  case round =>
    obtain ⟨k, R, D, x, hg, hkn, rfl, rfl, hR, hgr, hrow, hx, hD⟩ := hrel
    replace hg := hide hg
    have d4 := Gb.cellOf hgr d4 (by omega)
    cases k with
    | zero =>
      have hx0 : x = -1 := by have := hx.out; omega
      subst hx0
      have hD0 : D = digitsL q n r := by have := hD.out; rw [digitsL, List.nil_append] at this; exact this
      have hrd : Rd I64 wr (.slice (some ⟨gb, 0, none⟩) n n) D := by
        rw [List.replicate_zero, List.nil_append] at hrow
        exact hrow.rdAll (by rw [hD0, digitsL_len]) (Nat.le_refl _) (by omega)
      have r1 := Row.grown r1 hgr (by intro e; injection e with e; omega)
      have B3 := Gb.bel B2 hgr hgw
      replace hD0 := hide hD0
      replace hD := hide hD
      have x0 := LineAt.main r1
      have x1 := LineAt.bonus r1
      have x2 := Row.frozen r1 0
      have x3 := Row.frozen r1 1
      have rL : LineAt ((wr.setCell ⟨w.heap.size + 1, 0, none⟩ (.slice (some ⟨gb, 0, none⟩) n n)).setCell ⟨w.heap.size + 1, 1, none⟩ (.slice none 0 0)) (w.heap.size + 1) (.slice (some ⟨gb, 0, none⟩) n n) (.slice none 0 0) := LineAt.store r1 _ _
      have y0 := hide rL.main
      have y1 := hide rL.bonus
      have B9 := Bel.st (Bel.st B3 (p := ⟨w.heap.size + 1, 0, none⟩) (by simp) (.slice (some ⟨gb, 0, none⟩) n n)) (p := ⟨w.heap.size + 1, 1, none⟩) (by simp) (.slice none 0 0)
      clear rL
      go_wp2
      have hrd2 := (hrd.setCell (p := ⟨w.heap.size + 1, 0, none⟩) (by simp [Value.ownBlock]; omega) (.slice (some ⟨gb, 0, none⟩) n n)).setCell (p := ⟨w.heap.size + 1, 1, none⟩) (by simp [Value.ownBlock]; omega) (.slice none 0 0)
      rw [hD0.out] at hrd2
      exact bodyPost_ret (v := .tuple #[.agg #[.slice (some ⟨gb, 0, none⟩) n n, .slice none 0 0], .int .i64 0]) (by simp [results, Try.results33, go_sem, y0.out, y1.out]) rfl ⟨_, _, rfl, ⟨hrd2, Rd.nil⟩, B9⟩
    | succ j =>
      have hxj : x = (j : Int) := by have := hx.out; omega
      subst hxj
      have hD1 : digitsL q j (R / q) ++ (((R % q : Nat) : Int) :: D) = digitsL q n r := by
        have := hD.out; rw [digitsL, List.append_assoc] at this; exact this
      have hset : (List.replicate (j + 1) (0 : Int) ++ D).set j ((R % q : Nat) : Int) = List.replicate j 0 ++ (((R % q : Nat) : Int) :: D) := by
        rw [List.replicate_succ', List.append_assoc, List.set_append_right _ _ (by simp)]
        simp
      have hrow2 := hrow.setV j (((R % q : Nat) : Int))
      rw [hset] at hrow2
      have hgr2 := Gb.set (g := gb) hgr (p := ⟨gb, j, none⟩) (.inl rfl) (I64 ((R % q : Nat) : Int))
      have hlen : ((List.replicate (j + 1) (0 : Int) ++ D).map I64).length = n := by
        have := congrArg List.length hD.out
        rw [List.length_append, digitsL_len, digitsL_len] at this
        rw [List.length_map, List.length_append, List.length_replicate]; exact this
      have ce := Row.cell hrow (i := j) (by omega)
      have cf := Row.frozen hrow j
      have j1 : (0 : Int) ≤ (j : Int) := by omega
      have j2 : (j : Int) < (n : Int) := by omega
      have m1 : (R : Int) % (q : Int) = ((R % q : Nat) : Int) := by simp
      have m2 : (R : Int) / (q : Int) = ((R / q : Nat) : Int) := by simp
      have m3 : R / q ≤ 10000000000 := Nat.le_trans (Nat.div_le_self _ _) hR
      obtain ⟨R2, hR2⟩ : ∃ R2, R2 = R / q := ⟨_, rfl⟩
      rw [← hR2] at m2 m3 hD1
      have q0 : ((q : Int) == 0) = false := by simp; omega
      have q1 : (q : Int) ≠ 0 := by omega
      rw [show I64 ((R % q : Nat) : Int) = .int .i64 ((R : Int) % (q : Int)) by rw [m1]] at hrow2 hgr2
      replace m1 := hide m1
      replace m2 := hide m2
      replace hR2 := hide hR2
      replace m3 := hide m3
      replace hD1 := hide hD1
      replace hset := hide hset
      replace hlen := hide hlen
      go_wp2
      go_roundg (j + 1)
      case measure => have := hg.out; omega
      case rel => exact ⟨j, R2, _ :: D, (j : Int) - 1, rfl, by omega, by rw [m2.out]; first | rfl | (rw [IntWalk.wrap64_in _ (by have := m3.out; omega)]), rfl, m3.out, hgr2, hrow2, rfl, hD1⟩
set_option maxHeartbeats 4000000 in
set_option maxRecDepth 100000 in
theorem qunrank_choose (g : GameD) (av tv : Value) (ms : List AddonM) (r : Nat) (w : World) (h : GameR w av tv ms g) (he : gameE g = 0) (hk : g.kind ≠ 2) (hr : r < countG g) :
    Calls Try.prog 33 #[gameVal g av tv, .int .i64 (r : Int)] w (LineC (unrankG g r).1 (unrankG g r).2 0 w) := by
  have hc := hide (fun X (hX : GameR X av tv ms g) => rcount13_any g av tv ms X hX)
  have hcp : countP g = ((countG g : Int), 0) := if_pos he
  rw [hcp] at hc
  have hh := hide h
  obtain ⟨aa, ac, rfl, hal, ham⟩ := h.1.1.shape
  obtain ⟨ta, tc, rfl, htl, htm⟩ := h.2.2.shape
  clear h
  obtain ⟨n1, n2, f1, f2, f3, o1, o2, o3, o4, m1, m2, m3, m4, hrb⟩ := unrank_facts he hk hr
  have hug : unrankG g r = (unrankL g.of.toNat 1 (r / bonusN g) g.main.toNat, unrankL g.bonusOf.toNat 1 (r % bonusN g) g.bonus.toNat) := if_neg hk
  rw [hug]
  have cN := hide (fun X => bonuses_any g (.slice aa ms.length ac) (.slice ta g.tiers.length tc) X ⟨_, _, _, rfl⟩ ⟨_, _, _, rfl⟩ he)
  obtain ⟨N, hN⟩ : ∃ N, N = bonusN g := ⟨_, rfl⟩
  rw [← hN] at cN
  rw [← hN] at n1 n2 f1 f2 ⊢
  obtain ⟨a, ha⟩ : ∃ a, a = r / N := ⟨_, rfl⟩
  obtain ⟨b, hb⟩ : ∃ b, b = r % N := ⟨_, rfl⟩
  rw [← ha] at f1 ⊢
  rw [← hb] at f2 ⊢
  have cU := hide (runrank_any (a : Int) g.of g.main)
  rw [unrankV_in m1 m3 (by omega) f1 _ _ _ rfl o1 o2] at cU
  have cV := hide (runrank_any (b : Int) g.bonusOf g.bonus)
  rw [unrankV_in m2 m4 (show choose g.bonusOf.toNat g.bonus.toNat ≤ 9223372036854775807 by rw [show choose g.bonusOf.toNat g.bonus.toNat = N from hN.symm]; omega) (by rw [show choose g.bonusOf.toNat g.bonus.toNat = N from hN.symm]; exact f2) _ _ _ rfl o3 o4] at cV
  have t1 : Int.tdiv (r : Int) (N : Int) = (a : Int) := by rw [Int.tdiv_eq_ediv_of_nonneg (by omega), ha]; simp
  have t2 : Int.tmod (r : Int) (N : Int) = (b : Int) := by rw [Int.tmod_eq_emod_of_nonneg (by omega), hb]; simp
  have t3 : (r : Int) / (N : Int) = (a : Int) := by rw [ha]; simp
  have t4 : (r : Int) % (N : Int) = (b : Int) := by rw [hb]; simp
  have ba : a ≤ 1646492110120 := by omega
  have bb : b ≤ 1581580 := by omega
  have q0 : ((N : Int) == 0) = false := by simp; omega
  have q1 : (N : Int) ≠ 0 := by omega
  have q2 : N ≠ 0 := by omega
  have q3 : (N == 0) = false := by simp; omega
  have t5 : IntKind.i64.wrap (a : Int) = (a : Int) := IntWalk.i64_in _ (by omega)
  have t6 : IntKind.i64.wrap (b : Int) = (b : Int) := IntWalk.i64_in _ (by omega)
  obtain ⟨c, hcc⟩ : ∃ c, c = countG g := ⟨_, rfl⟩
  rw [← hcc] at hc hr
  have hrc : (r : Int) < (c : Int) := by omega
  have hkb : (g.kind == 2) = false := by simpa using hk
  obtain ⟨L1, hL1⟩ : ∃ L, L = unrankL g.of.toNat 1 a g.main.toNat := ⟨_, rfl⟩
  obtain ⟨L2, hL2⟩ : ∃ L, L = unrankL g.bonusOf.toNat 1 b g.bonus.toNat := ⟨_, rfl⟩
  rw [← hL1] at cU ⊢
  rw [← hL2] at cV ⊢
  have hL0 : g.bonus = 0 → L2 = [] := by
    intro h0
    rw [hL2, h0]
    exact unrankL_zero _ _ _
  have hbn0 : 0 ≤ g.bonus := by omega
  replace hk := hide hk
  clear hcc hcp he hN ha hb hL1 hL2 o1 o2 o3 o4 m1 m2 m3 m4 f1 f2 f3 hug
  unfold gameVal at cN ⊢
  go_enter Try.func33, Try.ntmps33
  go_upto_region 1 with (fail)
  obtain ⟨W, hW⟩ : ∃ W, W = ((w.alloc (Obj.cells #[.string g.name, .int .i64 g.kind, .int .i64 g.price, .int .i64 g.main, .int .i64 g.of, .int .i64 g.bonus, .int .i64 g.bonusOf, .int .i64 g.extra, .int .i64 g.draws, .int .i64 g.system, .int .i64 g.days, .int .i64 g.at_, .int .i64 g.close, .int .i64 g.cancel, .int .i64 g.expiry, .int .i64 g.pool, .int .i64 g.reserve, .int .i64 g.round, .int .i64 g.cap, .int .i64 g.rolls, (.slice aa ms.length ac), (.slice ta g.tiers.length tc)] 25)).alloc (Obj.cells #[(.slice none 0 0), (.slice none 0 0)] 35)) := ⟨_, rfl⟩
  have bW : Below w.heap.size w W := by rw [hW]; exact Bel.al (Bel.al (Below.refl _ _) _) _
  have r0 : GameAt W (w.heap.size) g ((.slice aa ms.length ac)) ((.slice ta g.tiers.length tc)) := by rw [hW]; exact Row.alloc (Row.new _ _ _) _
  have r1 : LineAt W (w.heap.size + 1) ((.slice none 0 0)) ((.slice none 0 0)) := by rw [hW]; exact Row.at2 _ _ _ _
  have sW : w.heap.size + 1 < W.heap.size := by rw [hW]; simp
  rw [← hW]
  clear hW
  go_wp2_with (first | (refine wpList_load_row rfl 25 _ rfl _ rfl _ _ _ _ r0 Try.underlying25 rfl (by kernel_rfl) ?_) | fail)
  refine (hc.out _ (hh.out.below bW)).mono ?_
  rintro e w1 ⟨rfl, hb1⟩
  have B1 := Bel.to bW hb1
  have r0 := r0.keep hb1
  have r1 := r1.keep hb1
  have z1 : w.heap.size + 1 < w1.heap.size := by have := hb1.size; omega
  have d1 := r0.kind
  clear hb1 hh hc bW
  go_upto_region 14 with (fail)
  refine wp_region_held_drew (S := fun X => Rng X [(w.heap.size, gameCells g (.slice aa ms.length ac) (.slice ta g.tiers.length tc))]) (by kernel_rfl) (Rng.drew (Rng.cons r0 (Rng.nil _))) (fun hHeld => ?_)
  refine' wpAnyH_take (i := 0) (oi := _) (v := .int .i64 (r : Int)) rfl (by kernel_rfl) (by kernel_rfl) (by kernel_rfl) (fun _ _ _ h => h) (Or.inl ⟨by rfl, fun X _ => by go_simp⟩) hHeld ?_
  try simp only [Act.put, List.setIfInBounds_toArray, List.set_cons_zero, List.set_cons_succ]
  refine' wpAnyH_take (i := 1) (oi := _) (v := _) rfl (by kernel_rfl) (by kernel_rfl) (by kernel_rfl) (fun _ _ _ h => h) (yieldsIf_load_mid (by rfl) 25 _ rfl _ _ rfl (gameCells g (.slice aa ms.length ac) (.slice ta g.tiers.length tc)) _ (fun X h => Rng.at0 h) Try.underlying25 rfl (by kernel_rfl)) hHeld ?_
  try simp only [Act.put, List.setIfInBounds_toArray, List.set_cons_zero, List.set_cons_succ]
  refine' wpAnyH_take (i := 4) (oi := _) (v := .pointer (some ⟨w.heap.size, 4, none⟩)) rfl (by kernel_rfl) (by kernel_rfl) (by kernel_rfl) (fun _ _ _ h => h) (Or.inl ⟨by rfl, fun X _ => by go_simp⟩) hHeld ?_
  try simp only [Act.put, List.setIfInBounds_toArray, List.set_cons_zero, List.set_cons_succ]
  refine' wpAnyH_take (i := 5) (oi := _) (v := .int .i64 g.of) rfl (by kernel_rfl) (by kernel_rfl) (by kernel_rfl) (fun _ _ _ h => h) (Or.inl ⟨by rfl, fun X hX => by have cX := Rng.cell0 hX 4 _ rfl; go_simp⟩) hHeld ?_
  try simp only [Act.put, List.setIfInBounds_toArray, List.set_cons_zero, List.set_cons_succ]
  refine' wpAnyH_take (i := 6) (oi := _) (v := .pointer (some ⟨w.heap.size, 3, none⟩)) rfl (by kernel_rfl) (by kernel_rfl) (by kernel_rfl) (fun _ _ _ h => h) (Or.inl ⟨by rfl, fun X _ => by go_simp⟩) hHeld ?_
  try simp only [Act.put, List.setIfInBounds_toArray, List.set_cons_zero, List.set_cons_succ]
  refine' wpAnyH_take (i := 7) (oi := _) (v := .int .i64 g.main) rfl (by kernel_rfl) (by kernel_rfl) (by kernel_rfl) (fun _ _ _ h => h) (Or.inl ⟨by rfl, fun X hX => by have cX := Rng.cell0 hX 3 _ rfl; go_simp⟩) hHeld ?_
  try simp only [Act.put, List.setIfInBounds_toArray, List.set_cons_zero, List.set_cons_succ]
  refine wpAnyH_ready (rs := [2]) (by kernel_rfl) (by simp) ?_
  refine AllReadyH.cons (o := _) rfl (fun K hK => ?_) AllReadyH.nil
  go_simp
  refine (cN.out _).mono ?_
  rintro e w2 ⟨rfl, hb2⟩
  have B2 := Bel.to (Bel.to B1 (Below.drewSelf _)) hb2
  have r1 := (show LineAt w1.drew _ _ _ from r1).keep hb2
  go_wp2_with fail
  refine hK.out _ _ (hHeld.keep hb2) (fun hHeld => ?_)
  clear hK K
  try simp only [Act.put, List.setIfInBounds_toArray, List.set_cons_zero, List.set_cons_succ]
  refine' wpAnyH_take (i := 3) (oi := _) (v := .int .i64 (a : Int)) rfl (by kernel_rfl) (by kernel_rfl) (by kernel_rfl) (fun _ _ _ h => h) (Or.inl ⟨by rfl, fun X _ => by go_simp⟩) hHeld ?_
  try simp only [Act.put, List.setIfInBounds_toArray, List.set_cons_zero, List.set_cons_succ]
  refine wpAnyH_ready (rs := [8]) (by kernel_rfl) (by simp) ?_
  refine AllReadyH.cons (o := _) rfl (fun K hK => ?_) AllReadyH.nil
  go_simp
  refine (cU.out _).mono ?_
  rintro e w3 ⟨u1, rfl, hu1, hb3⟩
  obtain ⟨s1, k1, p1, rfl⟩ := Rd.shape hu1
  have B3 := Bel.to B2 hb3
  have r1 := r1.keep hb3
  go_wp2_with fail
  refine hK.out _ _ (hHeld.keep hb3) (fun hHeld => ?_)
  clear hK K
  try simp only [Act.put, List.setIfInBounds_toArray, List.set_cons_zero, List.set_cons_succ]
  refine' wpAnyH_take (i := 9) (oi := _) (v := .tuple #[.slice s1 k1 p1, .int .i64 0]) rfl (by kernel_rfl) (by kernel_rfl) (by kernel_rfl) (fun _ _ _ h => h) (Or.inl ⟨by rfl, fun X _ => by go_simp⟩) hHeld ?_
  try simp only [Act.put, List.setIfInBounds_toArray, List.set_cons_zero, List.set_cons_succ]
  refine' wpAnyH_take (i := 10) (oi := _) (v := .slice s1 k1 p1) rfl (by kernel_rfl) (by kernel_rfl) (by kernel_rfl) (fun _ _ _ h => h) (Or.inl ⟨by rfl, fun X _ => by go_simp⟩) hHeld ?_
  try simp only [Act.put, List.setIfInBounds_toArray, List.set_cons_zero, List.set_cons_succ]
  refine' wpAnyH_take (i := 11) (oi := _) (v := .int .i64 0) rfl (by kernel_rfl) (by kernel_rfl) (by kernel_rfl) (fun _ _ _ h => h) (Or.inl ⟨by rfl, fun X _ => by go_simp⟩) hHeld ?_
  try simp only [Act.put, List.setIfInBounds_toArray, List.set_cons_zero, List.set_cons_succ]
  refine' wpAnyH_take (i := 12) (oi := _) (v := .slice s1 k1 p1) rfl (by kernel_rfl) (by kernel_rfl) (by kernel_rfl) (fun _ _ _ h => h) (Or.inl ⟨by rfl, fun X _ => by go_simp⟩) hHeld ?_
  try simp only [Act.put, List.setIfInBounds_toArray, List.set_cons_zero, List.set_cons_succ]
  refine' wpAnyH_take (i := 13) (oi := _) (v := .int .i64 0) rfl (by kernel_rfl) (by kernel_rfl) (by kernel_rfl) (fun _ _ _ h => h) (Or.inl ⟨by rfl, fun X _ => by go_simp⟩) hHeld ?_
  try simp only [Act.put, List.setIfInBounds_toArray, List.set_cons_zero, List.set_cons_succ]
  refine wpAnyH_done (by kernel_rfl) ?_ _
  go_simp
  have g0 : GameAt w1 w.heap.size g (.slice aa ms.length ac) (.slice ta g.tiers.length tc) := r0
  have r0 : Rng w3 [(w.heap.size, gameCells g (.slice aa ms.length ac) (.slice ta g.tiers.length tc))] := hHeld
  have z3 : w.heap.size + 1 < w3.heap.size := by have := hb2.size; have := hb3.size; simp at *; omega
  clear hHeld hb2 hb3 B1 B2 d1 g0
  go_upto_region 16 with (fail)
  obtain ⟨Z, hZ⟩ : ∃ Z, Z = (w3.alloc (Obj.cells #[(.slice s1 k1 p1), (.slice none 0 0)] 35)) := ⟨_, rfl⟩
  have bZ : Below w3.heap.size w3 Z := by rw [hZ]; exact Bel.al (Below.refl _ _) _
  have rZ0 : LineAt Z (w3.heap.size) ((.slice s1 k1 p1)) ((.slice none 0 0)) := by rw [hZ]; exact Row.new _ _ _
  have sZ : w3.heap.size < Z.heap.size := by rw [hZ]; simp
  rw [← hZ]
  clear hZ
  have B4 := Bel.to B3 bZ
  have r1 := r1.keep bZ
  have hu1 := hu1.below bZ
  have pZ : Rng Z.drew [(w.heap.size, gameCells g (.slice aa ms.length ac) (.slice ta g.tiers.length tc))] := Rng.drew (r0.keep bZ)
  have d5 := (r0.keep bZ).cell0 5 _ rfl
  obtain ⟨Z0, hZ0⟩ : ∃ z, z = w3.heap.size := ⟨_, rfl⟩
  rw [← hZ0] at rZ0 sZ z3 ⊢
  clear hZ0 bZ r0 B3
  by_cases h0 : g.bonus = 0
  · have hL := hL0 h0
    have hb0 : decide (0 < g.bonus) = false := decide_eq_false (by omega)
    subst hL
    replace h0 := hide h0
    have l0 := rZ0.main
    have l1 := rZ0.bonus
    go_upto_region 21 with (fail)
    have x0 := LineAt.main r1
    have x1 := LineAt.bonus r1
    have x2 := Row.frozen r1 0
    have x3 := Row.frozen r1 1
    have rL : LineAt ((Z.setCell ⟨w.heap.size + 1, 0, none⟩ (.slice s1 k1 p1)).setCell ⟨w.heap.size + 1, 1, none⟩ (.slice none 0 0)) (w.heap.size + 1) (.slice s1 k1 p1) (.slice none 0 0) := LineAt.store r1 _ _
    have y0 := hide rL.main
    have y1 := hide rL.bonus
    have B9 := Bel.st (Bel.st B4 (p := ⟨w.heap.size + 1, 0, none⟩) (by simp) (.slice s1 k1 p1)) (p := ⟨w.heap.size + 1, 1, none⟩) (by simp) (.slice none 0 0)
    have hv1 := (hu1.setNe x0 (fun _ h => by cases h) (.slice s1 k1 p1)).setNe (p := ⟨w.heap.size + 1, 1, none⟩) (c := .slice none 0 0) (by go_simp) (fun _ h => by cases h) (.slice none 0 0)
    clear rL
    go_wp2
    exact bodyPost_ret (v := .tuple #[.agg #[.slice s1 k1 p1, .slice none 0 0], .int .i64 0]) (by simp [results, Try.results33, go_sem, y0.out, y1.out]) rfl ⟨_, _, rfl, ⟨hv1, Rd.nil⟩, B9⟩
  · have hb0 : decide (0 < g.bonus) = true := decide_eq_true (by omega)
    replace h0 := hide h0
    go_upto_region 18 with (fail)
    refine wp_region_held_drew (S := fun X => Rng X [(w.heap.size, gameCells g (.slice aa ms.length ac) (.slice ta g.tiers.length tc))]) (by kernel_rfl) (pZ) (fun hHeld => ?_)
    refine' wpAnyH_take (i := 0) (oi := _) (v := .int .i64 (r : Int)) rfl (by kernel_rfl) (by kernel_rfl) (by kernel_rfl) (fun _ _ _ h => h) (Or.inl ⟨by rfl, fun X _ => by go_simp⟩) hHeld ?_
    try simp only [Act.put, List.setIfInBounds_toArray, List.set_cons_zero, List.set_cons_succ]
    refine' wpAnyH_take (i := 1) (oi := _) (v := _) rfl (by kernel_rfl) (by kernel_rfl) (by kernel_rfl) (fun _ _ _ h => h) (yieldsIf_load_mid (by rfl) 25 _ rfl _ _ rfl (gameCells g (.slice aa ms.length ac) (.slice ta g.tiers.length tc)) _ (fun X h => Rng.at0 h) Try.underlying25 rfl (by kernel_rfl)) hHeld ?_
    try simp only [Act.put, List.setIfInBounds_toArray, List.set_cons_zero, List.set_cons_succ]
    refine' wpAnyH_take (i := 4) (oi := _) (v := .pointer (some ⟨w.heap.size, 6, none⟩)) rfl (by kernel_rfl) (by kernel_rfl) (by kernel_rfl) (fun _ _ _ h => h) (Or.inl ⟨by rfl, fun X _ => by go_simp⟩) hHeld ?_
    try simp only [Act.put, List.setIfInBounds_toArray, List.set_cons_zero, List.set_cons_succ]
    refine' wpAnyH_take (i := 5) (oi := _) (v := .int .i64 g.bonusOf) rfl (by kernel_rfl) (by kernel_rfl) (by kernel_rfl) (fun _ _ _ h => h) (Or.inl ⟨by rfl, fun X hX => by have cX := Rng.cell0 hX 6 _ rfl; go_simp⟩) hHeld ?_
    try simp only [Act.put, List.setIfInBounds_toArray, List.set_cons_zero, List.set_cons_succ]
    refine' wpAnyH_take (i := 6) (oi := _) (v := .pointer (some ⟨w.heap.size, 5, none⟩)) rfl (by kernel_rfl) (by kernel_rfl) (by kernel_rfl) (fun _ _ _ h => h) (Or.inl ⟨by rfl, fun X _ => by go_simp⟩) hHeld ?_
    try simp only [Act.put, List.setIfInBounds_toArray, List.set_cons_zero, List.set_cons_succ]
    refine' wpAnyH_take (i := 7) (oi := _) (v := .int .i64 g.bonus) rfl (by kernel_rfl) (by kernel_rfl) (by kernel_rfl) (fun _ _ _ h => h) (Or.inl ⟨by rfl, fun X hX => by have cX := Rng.cell0 hX 5 _ rfl; go_simp⟩) hHeld ?_
    try simp only [Act.put, List.setIfInBounds_toArray, List.set_cons_zero, List.set_cons_succ]
    refine wpAnyH_ready (rs := [2]) (by kernel_rfl) (by simp) ?_
    refine AllReadyH.cons (o := _) rfl (fun K hK => ?_) AllReadyH.nil
    go_simp
    refine (cN.out _).mono ?_
    rintro e w5 ⟨rfl, hb5⟩
    have B5 := Bel.to (Bel.to B4 (Below.drewSelf _)) hb5
    have r1 := (show LineAt Z.drew _ _ _ from r1).keep hb5
    have rZ := (show LineAt Z.drew _ _ _ from rZ0).keep hb5
    have hu1 := Rd.below (Rd.drew hu1) hb5
    go_wp2_with fail
    refine hK.out _ _ (hHeld.keep hb5) (fun hHeld => ?_)
    clear hK K
    try simp only [Act.put, List.setIfInBounds_toArray, List.set_cons_zero, List.set_cons_succ]
    refine' wpAnyH_take (i := 3) (oi := _) (v := .int .i64 (b : Int)) rfl (by kernel_rfl) (by kernel_rfl) (by kernel_rfl) (fun _ _ _ h => h) (Or.inl ⟨by rfl, fun X _ => by go_simp⟩) hHeld ?_
    try simp only [Act.put, List.setIfInBounds_toArray, List.set_cons_zero, List.set_cons_succ]
    refine wpAnyH_ready (rs := [8]) (by kernel_rfl) (by simp) ?_
    refine AllReadyH.cons (o := _) rfl (fun K hK => ?_) AllReadyH.nil
    go_simp
    refine (cV.out _).mono ?_
    rintro e w6 ⟨u2, rfl, hu2, hb6⟩
    obtain ⟨s2, k2, p2, rfl⟩ := Rd.shape hu2
    have B6 := Bel.to B5 hb6
    have r1 := r1.keep hb6
    have rZ := rZ.keep hb6
    have hu1 := hu1.below hb6
    go_wp2_with fail
    refine hK.out _ _ (hHeld.keep hb6) (fun hHeld => ?_)
    clear hK K
    try simp only [Act.put, List.setIfInBounds_toArray, List.set_cons_zero, List.set_cons_succ]
    refine' wpAnyH_take (i := 9) (oi := _) (v := .tuple #[.slice s2 k2 p2, .int .i64 0]) rfl (by kernel_rfl) (by kernel_rfl) (by kernel_rfl) (fun _ _ _ h => h) (Or.inl ⟨by rfl, fun X _ => by go_simp⟩) hHeld ?_
    try simp only [Act.put, List.setIfInBounds_toArray, List.set_cons_zero, List.set_cons_succ]
    refine' wpAnyH_take (i := 10) (oi := _) (v := .slice s2 k2 p2) rfl (by kernel_rfl) (by kernel_rfl) (by kernel_rfl) (fun _ _ _ h => h) (Or.inl ⟨by rfl, fun X _ => by go_simp⟩) hHeld ?_
    try simp only [Act.put, List.setIfInBounds_toArray, List.set_cons_zero, List.set_cons_succ]
    refine' wpAnyH_take (i := 11) (oi := _) (v := .int .i64 0) rfl (by kernel_rfl) (by kernel_rfl) (by kernel_rfl) (fun _ _ _ h => h) (Or.inl ⟨by rfl, fun X _ => by go_simp⟩) hHeld ?_
    try simp only [Act.put, List.setIfInBounds_toArray, List.set_cons_zero, List.set_cons_succ]
    refine' wpAnyH_take (i := 12) (oi := _) (v := .pointer (some ⟨Z0, 1, none⟩)) rfl (by kernel_rfl) (by kernel_rfl) (by kernel_rfl) (fun _ _ _ h => h) (Or.inl ⟨by rfl, fun X _ => by go_simp⟩) hHeld ?_
    try simp only [Act.put, List.setIfInBounds_toArray, List.set_cons_zero, List.set_cons_succ]
    have x0 := rZ.main
    have x1 := rZ.bonus
    have x2 := Row.frozen rZ 0
    have x3 := Row.frozen rZ 1
    refine wpAnyH_ready (rs := [13]) (by kernel_rfl) (by simp) ?_
    refine AllReadyH.cons (o := _) rfl (fun K hK => ?_) AllReadyH.nil
    go_simp
    refine hK.out _ _ (Rng.far (q := ⟨Z0, 1, none⟩) hHeld (fun p hp => by simp at hp; subst hp; simp; omega) (.slice s2 k2 p2)) (fun hHeld => ?_)
    clear hK K
    try simp only [Act.put, List.setIfInBounds_toArray, List.set_cons_zero, List.set_cons_succ]
    refine' wpAnyH_take (i := 14) (oi := _) (v := .int .i64 0) rfl (by kernel_rfl) (by kernel_rfl) (by kernel_rfl) (fun _ _ _ h => h) (Or.inl ⟨by rfl, fun X _ => by go_simp⟩) hHeld ?_
    try simp only [Act.put, List.setIfInBounds_toArray, List.set_cons_zero, List.set_cons_succ]
    refine wpAnyH_done (by kernel_rfl) ?_ _
    go_simp
    have rZ := Row.set rZ 1 (.slice s2 k2 p2)
    have x4 := rZ.cell? 0
    have x5 := rZ.cell? 1
    simp only [List.set_cons_succ, List.set_cons_zero, List.getElem?_cons_zero, List.getElem?_cons_succ] at x4 x5
    have r1 : LineAt (w6.setCell ⟨Z0, 1, none⟩ (.slice s2 k2 p2)) (w.heap.size + 1) (.slice none 0 0) (.slice none 0 0) := Row.far r1 (p := ⟨Z0, 1, none⟩) (by simp; omega) _
    have hu1 := hu1.setNe x1 (fun _ h => by cases h) (.slice s2 k2 p2)
    have hu2 := hu2.setNe x1 (fun _ h => by cases h) (.slice s2 k2 p2)
    have B7 := Bel.st B6 (p := ⟨Z0, 1, none⟩) (by simp; omega) (.slice s2 k2 p2)
    obtain ⟨V, hV⟩ : ∃ V, V = w6.setCell ⟨Z0, 1, none⟩ (.slice s2 k2 p2) := ⟨_, rfl⟩
    rw [← hV] at x4 x5 r1 hu1 hu2 B7 ⊢
    clear hV hHeld rZ x0 x1 x2 x3
    have x0 := LineAt.main r1
    have x1 := LineAt.bonus r1
    have x2 := Row.frozen r1 0
    have x3 := Row.frozen r1 1
    have rL : LineAt ((V.setCell ⟨w.heap.size + 1, 0, none⟩ (.slice s1 k1 p1)).setCell ⟨w.heap.size + 1, 1, none⟩ (.slice s2 k2 p2)) (w.heap.size + 1) (.slice s1 k1 p1) (.slice s2 k2 p2) := LineAt.store r1 _ _
    have y0 := hide rL.main
    have y1 := hide rL.bonus
    have B9 := Bel.st (Bel.st B7 (p := ⟨w.heap.size + 1, 0, none⟩) (by simp) (.slice s1 k1 p1)) (p := ⟨w.heap.size + 1, 1, none⟩) (by simp) (.slice s2 k2 p2)
    have hv1 := (hu1.setNe x0 (fun _ h => by cases h) (.slice s1 k1 p1)).setNe (p := ⟨w.heap.size + 1, 1, none⟩) (c := .slice none 0 0) (by go_simp) (fun _ h => by cases h) (.slice s2 k2 p2)
    have hv2 := (hu2.setNe x0 (fun _ h => by cases h) (.slice s1 k1 p1)).setNe (p := ⟨w.heap.size + 1, 1, none⟩) (c := .slice none 0 0) (by go_simp) (fun _ h => by cases h) (.slice s2 k2 p2)
    clear rL
    go_wp2
    exact bodyPost_ret (v := .tuple #[.agg #[.slice s1 k1 p1, .slice s2 k2 p2], .int .i64 0]) (by simp [results, Try.results33, go_sem, y0.out, y1.out]) rfl ⟨_, _, rfl, ⟨hv1, hv2⟩, B9⟩

theorem runrank13_any (g : GameD) (av tv : Value) (ms : List AddonM) (r : Int) (w : World) (h : GameR w av tv ms g) :
    Calls Try.prog 33 #[gameVal g av tv, .int .i64 r] w (LineC (unrankP g r).1.1 (unrankP g r).1.2 (unrankP g r).2 w) := by
  unfold unrankP
  by_cases he : gameE g = 0
  · rw [if_neg (by simpa using he)]
    by_cases hr : r < 0 ∨ (countG g : Int) ≤ r
    · rw [if_pos hr]
      exact qunrank_range g av tv ms r w h he hr
    · rw [if_neg hr]
      obtain ⟨R, rfl⟩ := Int.eq_ofNat_of_zero_le (show 0 ≤ r by omega)
      rw [Int.toNat_natCast]
      by_cases hk : g.kind = 2
      · have := qunrank_digits g av tv ms R w h he hk (by omega)
        have e : unrankG g R = (digitsL g.of.toNat g.main.toNat R, []) := if_pos hk
        rw [e]; exact this
      · exact qunrank_choose g av tv ms R w h he hk (by omega)
  · rw [if_pos (by simpa using he)]
    exact qunrank_bad g av tv ms r w h he

end Go.Proofs.Ytlppomkpmnpmcaa
end

section
/- lotterylaw13.Small: the games of the examples. No condition. -/
open Go.RowKit
set_option linter.unusedVariables false
set_option linter.unusedSimpArgs false
namespace Go.Proofs.Ytlppomkpmnpmcaa

def smallG (m o b bo : Int) : GameD := ⟨⟨#[97]⟩, 1, 100, m, o, b, bo, 0, 4, m, 1, 0, 0, 0, 1, 0, 0, 1, 0, 0, [], [⟨m, 0, 0, 0, 1, 0⟩]⟩

set_option maxRecDepth 100000 in
theorem small13_any (m o b bo : Int) (w : World) : Calls Try.prog 48 #[.int .i64 m, .int .i64 o, .int .i64 b, .int .i64 bo] w (GameB (smallG m o b bo) w) := by
  go_enter Try.func48, Try.ntmps48
  go_upto_region 1 with (fail)
  obtain ⟨W, hW⟩ : ∃ W, W = (w.alloc (Obj.cells #[.string ⟨#[]⟩, .int .i64 0, .int .i64 0, .int .i64 0, .int .i64 0, .int .i64 0, .int .i64 0, .int .i64 0, .int .i64 0, .int .i64 0, .int .i64 0, .int .i64 0, .int .i64 0, .int .i64 0, .int .i64 0, .int .i64 0, .int .i64 0, .int .i64 0, .int .i64 0, .int .i64 0, .slice none 0 0, .slice none 0 0] 25)) := ⟨_, rfl⟩
  have bW : Below w.heap.size w W := by rw [hW]; exact Bel.al (Below.refl _ _) _
  have r0 : Row W ((w.heap.size)) 25 [.string ⟨#[]⟩, .int .i64 0, .int .i64 0, .int .i64 0, .int .i64 0, .int .i64 0, .int .i64 0, .int .i64 0, .int .i64 0, .int .i64 0, .int .i64 0, .int .i64 0, .int .i64 0, .int .i64 0, .int .i64 0, .int .i64 0, .int .i64 0, .int .i64 0, .int .i64 0, .int .i64 0, .slice none 0 0, .slice none 0 0] := by rw [hW]; exact Row.new _ _ _
  have sW : w.heap.size < W.heap.size := by rw [hW]; simp
  rw [← hW]
  clear hW
  go_wp2_with (first | (with_reducible refine wpList_store_whole rfl 25 _ _ rfl w.heap.size _ rfl rfl 25 _ (Row.alloc r0 _) ?_ ?_ ?_ ?_) | fail)
  case refine_1 => kernel_rfl
  case refine_2 => rfl
  case refine_3 => simp [Value.oneCell']
  intro W2 hrow hgr
  have hw : Below w.heap.size w W2 := Below.grown (Bel.al bW _) hgr (by simp; omega) (fun k hk => by injection hk with hk; omega)
  have htier : Row W2 W.heap.size 62 (tierCells ⟨m, 0, 0, 0, 1, 0⟩) := Row.grown (Row.new W 62 (tierCells ⟨m, 0, 0, 0, 1, 0⟩)) hgr (by intro e; injection e with e; omega)
  have hG : GameR W2 (.slice none 0 0) (.slice (some ⟨W.heap.size, 0, none⟩) 1 1) [] (smallG m o b bo) := GameR.oneTier htier rfl rfl
  go_wp2
  exact bodyPost_ret (v := gameVal (smallG m o b bo) (.slice none 0 0) (.slice (some ⟨W.heap.size, 0, none⟩) 1 1)) (results_cell_row rfl _ _ w.heap.size 25 _ (0, 0) _ rfl hrow Try.underlying25 rfl (by kernel_rfl)) rfl ⟨_, _, _, rfl, hG, hw⟩
end Go.Proofs.Ytlppomkpmnpmcaa
end

section
/- Plain: the examples of lines. No condition. -/
set_option linter.unusedVariables false
set_option linter.unusedSimpArgs false
namespace Go.Proofs.Ytlppomkpmnpmcaa

theorem ex_choose : choose 5 2 = 10 ∧ choose 4 2 = 6 ∧ choose 3 1 = 3 ∧ choose 0 0 = 1 := by
  rw [choose_fast, choose_fast, choose_fast, choose_fast]; decide
theorem ex_gameA : gameE (smallG 2 5 0 0) = 0 := by decide
theorem ex_gameB : gameE (smallG 2 4 1 3) = 0 := by decide
theorem ex_countA : countP (smallG 2 5 0 0) = (10, 0) := by
  unfold countP
  rw [if_pos ex_gameA]
  have : countG (smallG 2 5 0 0) = choose 5 2 * choose 0 0 := rfl
  rw [this, ex_choose.1, ex_choose.2.2.2]; rfl
theorem ex_countB : countP (smallG 2 4 1 3) = (18, 0) := by
  unfold countP
  rw [if_pos ex_gameB]
  have : countG (smallG 2 4 1 3) = choose 4 2 * choose 3 1 := rfl
  rw [this, ex_choose.2.1, ex_choose.2.2.1]; rfl
theorem ex_sort1 : sortI [5, 1] = [1, 5] := (sortI_eq (by decide) (by decide)).symm
theorem ex_sort2 : sortI [1, 3] = [1, 3] := sortI_of (by decide)
theorem ex_sort3 : sortI [2] = [2] := sortI_of (by decide)
theorem ex_lineA : lineE (smallG 2 5 0 0) [5, 1] [] = 0 := by decide
theorem ex_lineB : lineE (smallG 2 4 1 3) [1, 3] [2] = 0 := by decide
theorem ex_line1 : lineE (smallG 2 5 0 0) [1] [] = 3 := by decide
theorem ex_line2 : lineE (smallG 2 5 0 0) [6, 6] [] = 2 := by decide
theorem ex_line3 : lineE (smallG 2 5 0 0) [3, 3] [] = 6 := by decide
theorem ex_rankA : rankP (smallG 2 5 0 0) [5, 1] [] = (3, 0) := by
  unfold rankP
  rw [if_pos ex_lineA]
  have : rankG (smallG 2 5 0 0) [5, 1] [] = ((rankL 5 0 (sortI [5, 1]) * choose 0 0 + rankL 0 0 (sortI []) : Nat) : Int) := rfl
  rw [this, ex_sort1, sortI_nil, ex_choose.2.2.2]
  have e : rankL 5 0 [1, 5] = 3 := by simp [rankL, sumC, choose_fast, chooseF]
  rw [e]; rfl
theorem ex_rankB : rankP (smallG 2 4 1 3) [1, 3] [2] = (4, 0) := by
  unfold rankP
  rw [if_pos ex_lineB]
  have : rankG (smallG 2 4 1 3) [1, 3] [2] = ((rankL 4 0 (sortI [1, 3]) * choose 3 1 + rankL 3 0 (sortI [2]) : Nat) : Int) := rfl
  rw [this, ex_sort2, ex_sort3, ex_choose.2.2.1]
  have e : rankL 4 0 [1, 3] = 1 := by simp [rankL, sumC, choose_fast, chooseF]
  have e2 : rankL 3 0 [2] = 1 := by simp [rankL, sumC, choose_fast, chooseF]
  rw [e, e2]; rfl
theorem ex_unrankB : unrankP (smallG 2 4 1 3) 17 = (([3, 4], [3]), 0) := by
  unfold unrankP
  have hc : countG (smallG 2 4 1 3) = 18 := by
    have : countG (smallG 2 4 1 3) = choose 4 2 * choose 3 1 := rfl
    rw [this, ex_choose.2.1, ex_choose.2.2.1]
  rw [if_neg (by simpa using ex_gameB), hc, if_neg (by omega)]
  have : unrankG (smallG 2 4 1 3) (17 : Int).toNat = (unrankL 4 1 (17 / choose 3 1) 2, unrankL 3 1 (17 % choose 3 1) 1) := rfl
  rw [this, ex_choose.2.2.1]
  simp [unrankL, choose_fast, chooseF]
end Go.Proofs.Ytlppomkpmnpmcaa
end

section
/- lotteryref15.SameInts, lotteryref13.Ints. -/
open Go.RowKit
set_option linter.unusedVariables false
set_option linter.unusedSimpArgs false
namespace Go.Proofs.Ytlppomkpmnpmcaa

theorem take_snoc3 {α : Type} (l : List α) (k : Nat) (h : k < l.length) : l.take (k + 1) = l.take k ++ [l[k]] := by rw [List.take_succ_eq_append_getElem h]

set_option maxHeartbeats 1000000 in
set_option maxRecDepth 100000 in
theorem sameInts15 (va vb : Value) (la lb : List Int) (w : World) (ha : Rd I64 w va la) (hb : Rd I64 w vb lb) :
    Calls Try.prog 15 #[va, vb] w (BoolB (decide (la = lb)) w) := by
  obtain ⟨aa, ca, rfl, hla, hca, hra⟩ := Rd.form ha
  obtain ⟨ab, cb, rfl, hlb, hcb, hrb⟩ := Rd.form hb
  have hca' : ca ≤ 9223372036854775807 := by unfold maxLen at hca; omega
  have hcb' : cb ≤ 9223372036854775807 := by unfold maxLen at hcb; omega
  by_cases hl : la.length = lb.length
  · have l3 : ((la.length : Int) != lb.length) = false := by simp; omega
    have l1 : la.length ≤ lb.length := by omega
    have l2 : lb.length ≤ la.length := by omega
    replace hl := hide hl
    go_enter Try.func15, Try.ntmps15
    go_wp2
    go_loopw [5] (fun i wr => ∃ (k d : Nat), k ≤ la.length ∧ i = .int .i64 k ∧ wr = w.drewN d ∧ Hid (la.take k = lb.take k)) (fun i _ => la.length - (intOf i).toNat)
    case atStart => exact ⟨0, 0, Nat.zero_le _, rfl, rfl, rfl⟩
    case round =>
      obtain ⟨k, d, hk, rfl, rfl, htk⟩ := hrel
      by_cases hkl : k < la.length
      · have hk2 : k < lb.length := by omega
        obtain ⟨ba, offa, rfl, hba, hcella⟩ := hra.at_ hkl
        obtain ⟨bb, offb, rfl, hbb, hcellb⟩ := hrb.at_ hk2
        have c1 := hcella _ hkl
        have c2 := hcellb _ hk2
        clear hcella hcellb
        have i1 : (0 : Int) ≤ (k : Int) := by omega
        have i2 : (k : Int) < (la.length : Int) := by omega
        have i3 : (k : Int) < (lb.length : Int) := by omega
        by_cases he : la[k] = lb[k]
        · have hb1 : (la[k] != lb[k]) = false := by simpa using he
          replace he := hide he
          go_wp2
          go_quiet (fail)
          go_wp2
          go_roundw
          case rel =>
            refine ⟨k + 1, _, by omega, by go_num, rfl, ?_⟩
            show _ = _
            rw [take_snoc3 la k hkl, take_snoc3 lb k hk2, he.out, htk.out]
          case measure => simp [intOf]; omega
        · have hb1 : (la[k] != lb[k]) = true := by simpa using he
          have hne : decide (la = lb) = false := by
            apply decide_eq_false
            intro h
            subst h
            exact he rfl
          replace hne := hide hne
          go_wp2
          go_quiet (fail)
          go_wp2
          go_ret
          exact ⟨by rw [hne.out]; rfl, Bel.drN (Bel.drN (Below.refl _ _) _) _⟩
      · have hkk : k = la.length := by omega
        have heq : decide (la = lb) = true := by
          apply decide_eq_true
          have := htk.out
          rw [List.take_of_length_le (by omega), List.take_of_length_le (by omega)] at this
          exact this
        replace heq := hide heq
        replace hkk := hide hkk
        go_wp2
        go_ret
        exact ⟨by rw [heq.out]; rfl, Bel.drN (Below.refl _ _) _⟩
  · have l3 : ((la.length : Int) != lb.length) = true := by simp; omega
    have hne : decide (la = lb) = false := by
      apply decide_eq_false
      intro h
      exact hl (by rw [h])
    rw [hne]
    clear hl hne
    go_enter Try.func15, Try.ntmps15
    go_wp2
    go_ret
    exact ⟨rfl, Below.refl _ _⟩

set_option maxHeartbeats 1000000 in
set_option maxRecDepth 100000 in
theorem ints13 (va vb : Value) (la lb : List Int) (w : World) (ha : Rd I64 w va la) (hb : Rd I64 w vb lb) :
    Calls Try.prog 37 #[va, vb] w (BoolB (decide (la = lb)) w) := by
  obtain ⟨aa, ca, rfl, hla, hca, hra⟩ := Rd.form ha
  obtain ⟨ab, cb, rfl, hlb, hcb, hrb⟩ := Rd.form hb
  have hca' : ca ≤ 9223372036854775807 := by unfold maxLen at hca; omega
  have hcb' : cb ≤ 9223372036854775807 := by unfold maxLen at hcb; omega
  by_cases hl : la.length = lb.length
  · have l3 : ((la.length : Int) != lb.length) = false := by simp; omega
    have l1 : la.length ≤ lb.length := by omega
    have l2 : lb.length ≤ la.length := by omega
    replace hl := hide hl
    go_enter Try.func37, Try.ntmps37
    go_wp2
    go_loopw [5] (fun i wr => ∃ (k d : Nat), k ≤ la.length ∧ i = .int .i64 k ∧ wr = w.drewN d ∧ Hid (la.take k = lb.take k)) (fun i _ => la.length - (intOf i).toNat)
    case atStart => exact ⟨0, 0, Nat.zero_le _, rfl, rfl, rfl⟩
    case round =>
      obtain ⟨k, d, hk, rfl, rfl, htk⟩ := hrel
      by_cases hkl : k < la.length
      · have hk2 : k < lb.length := by omega
        obtain ⟨ba, offa, rfl, hba, hcella⟩ := hra.at_ hkl
        obtain ⟨bb, offb, rfl, hbb, hcellb⟩ := hrb.at_ hk2
        have c1 := hcella _ hkl
        have c2 := hcellb _ hk2
        clear hcella hcellb
        have i1 : (0 : Int) ≤ (k : Int) := by omega
        have i2 : (k : Int) < (la.length : Int) := by omega
        have i3 : (k : Int) < (lb.length : Int) := by omega
        by_cases he : la[k] = lb[k]
        · have hb1 : (la[k] != lb[k]) = false := by simpa using he
          replace he := hide he
          go_wp2
          go_quiet (fail)
          go_wp2
          go_roundw
          case rel =>
            refine ⟨k + 1, _, by omega, by go_num, rfl, ?_⟩
            show _ = _
            rw [take_snoc3 la k hkl, take_snoc3 lb k hk2, he.out, htk.out]
          case measure => simp [intOf]; omega
        · have hb1 : (la[k] != lb[k]) = true := by simpa using he
          have hne : decide (la = lb) = false := by
            apply decide_eq_false
            intro h
            subst h
            exact he rfl
          replace hne := hide hne
          go_wp2
          go_quiet (fail)
          go_wp2
          go_ret
          exact ⟨by rw [hne.out]; rfl, Bel.drN (Bel.drN (Below.refl _ _) _) _⟩
      · have hkk : k = la.length := by omega
        have heq : decide (la = lb) = true := by
          apply decide_eq_true
          have := htk.out
          rw [List.take_of_length_le (by omega), List.take_of_length_le (by omega)] at this
          exact this
        replace heq := hide heq
        replace hkk := hide hkk
        go_wp2
        go_ret
        exact ⟨by rw [heq.out]; rfl, Bel.drN (Below.refl _ _) _⟩
  · have l3 : ((la.length : Int) != lb.length) = true := by simp; omega
    have hne : decide (la = lb) = false := by
      apply decide_eq_false
      intro h
      exact hl (by rw [h])
    rw [hne]
    clear hl hne
    go_enter Try.func37, Try.ntmps37
    go_wp2
    go_ret
    exact ⟨rfl, Below.refl _ _⟩

end Go.Proofs.Ytlppomkpmnpmcaa
end

section
/- lotteryref13.Same, lotterylaw13.few: two lines; a line of at most 40 numbers. -/
open Go.RowKit
set_option linter.unusedVariables false
set_option linter.unusedSimpArgs false
namespace Go.Proofs.Ytlppomkpmnpmcaa

set_option maxHeartbeats 2000000 in
set_option maxRecDepth 100000 in
theorem same13_any (m1 b1 m2 b2 : Value) (a b c d : List Int) (w : World) (h1 : LineR w m1 b1 a b) (h2 : LineR w m2 b2 c d) :
    Calls Try.prog 28 #[lineVal m1 b1, lineVal m2 b2] w (BoolB (decide (a = c ∧ b = d)) w) := by
  have cA := hide (fun X (hX : Below w.heap.size w X) => ints13 m1 m2 a c X (h1.1.below hX) (h2.1.below hX))
  have cB := hide (fun X (hX : Below w.heap.size w X) => ints13 b1 b2 b d X (h1.2.below hX) (h2.2.below hX))
  obtain ⟨s1, n1, k1, rfl⟩ := Rd.shape h1.1
  obtain ⟨s2, n2, k2, rfl⟩ := Rd.shape h1.2
  obtain ⟨s3, n3, k3, rfl⟩ := Rd.shape h2.1
  obtain ⟨s4, n4, k4, rfl⟩ := Rd.shape h2.2
  clear h1 h2
  obtain ⟨p, hp⟩ : ∃ p, p = decide (a = c) := ⟨_, rfl⟩
  obtain ⟨q, hq⟩ : ∃ q, q = decide (b = d) := ⟨_, rfl⟩
  have hr : decide (a = c ∧ b = d) = (p && q) := by rw [hp, hq, Bool.decide_and]
  rw [hr]
  rw [← hp] at cA
  rw [← hq] at cB
  clear hp hq hr
  unfold lineVal
  go_enter Try.func28, Try.ntmps28
  go_upto_region 1 with (fail)
  obtain ⟨W, hW⟩ : ∃ W, W = ((w.alloc (Obj.cells #[(.slice s1 n1 k1), (.slice s2 n2 k2)] 35)).alloc (Obj.cells #[(.slice s3 n3 k3), (.slice s4 n4 k4)] 35)) := ⟨_, rfl⟩
  have bW : Below w.heap.size w W := by rw [hW]; exact Bel.al (Bel.al (Below.refl _ _) _) _
  have r0 : LineAt W (w.heap.size) ((.slice s1 n1 k1)) ((.slice s2 n2 k2)) := by rw [hW]; exact Row.alloc (Row.new _ _ _) _
  have r1 : LineAt W (w.heap.size + 1) ((.slice s3 n3 k3)) ((.slice s4 n4 k4)) := by rw [hW]; exact Row.at2 _ _ _ _
  have sW : w.heap.size + 1 < W.heap.size := by rw [hW]; simp
  rw [← hW]
  clear hW
  have c0 := r0.main
  have c2 := r1.main
  go_wp2_with fail
  refine (cA.out _ bW).mono ?_
  rintro e w1 ⟨rfl, hb1⟩
  have d1 := (r0.keep hb1).bonus
  have d3 := (r1.keep hb1).bonus
  have B1 := Bel.to bW hb1
  clear c0 c2 r0 r1 hb1
  cases p
  · go_wp2
    go_ret
    exact ⟨rfl, B1⟩
  · go_wp2_with fail
    refine (cB.out _ B1).mono ?_
    rintro e w2 ⟨rfl, hb2⟩
    go_wp2
    go_ret
    exact ⟨rfl, Bel.to B1 hb2⟩

/-- Two lines of the same numbers. -/
theorem same13_self (m1 b1 m2 b2 : Value) (a b : List Int) (w : World) (h1 : LineR w m1 b1 a b) (h2 : LineR w m2 b2 a b) :
    Calls Try.prog 28 #[lineVal m1 b1, lineVal m2 b2] w (BoolB true w) := by
  have := same13_any m1 b1 m2 b2 a b a b w h1 h2
  rwa [show decide (a = a ∧ b = b) = true by simp] at this

/-- At most 40 numbers in each list? -/
def fewB (a b : List Int) : Bool := decide (a.length ≤ 40) && decide (b.length ≤ 40)

set_option maxRecDepth 100000 in
theorem few13_any (mv bv : Value) (a b : List Int) (w : World) (h : LineR w mv bv a b) :
    Calls Try.prog 23 #[lineVal mv bv] w (BoolB (fewB a b) w) := by
  obtain ⟨ma, mc, rfl, hma, hmc, -⟩ := h.1.form
  obtain ⟨ba, bc, rfl, hba, hbc, -⟩ := h.2.form
  clear h
  unfold lineVal fewB
  by_cases h1 : a.length ≤ 40
  · have e1 : decide ((a.length : Int) ≤ 40) = true := decide_eq_true (by omega)
    have e2 : decide (a.length ≤ 40) = true := decide_eq_true h1
    rw [e2]
    by_cases h2 : b.length ≤ 40
    · have e3 : decide ((b.length : Int) ≤ 40) = true := decide_eq_true (by omega)
      have e4 : decide (b.length ≤ 40) = true := decide_eq_true h2
      rw [e4]
      clear h1 h2
      go_enter Try.func23, Try.ntmps23
      go_wp2
      go_ret
      exact ⟨rfl, Bel.al (Below.refl _ _) _⟩
    · have e3 : decide ((b.length : Int) ≤ 40) = false := decide_eq_false (by omega)
      have e4 : decide (b.length ≤ 40) = false := decide_eq_false h2
      rw [e4]
      clear h1 h2
      go_enter Try.func23, Try.ntmps23
      go_wp2
      go_ret
      exact ⟨rfl, Bel.al (Below.refl _ _) _⟩
  · have e1 : decide ((a.length : Int) ≤ 40) = false := decide_eq_false (by omega)
    have e2 : decide (a.length ≤ 40) = false := decide_eq_false h1
    rw [e2]
    clear h1
    go_enter Try.func23, Try.ntmps23
    go_wp2
    go_ret
    exact ⟨rfl, Bel.al (Below.refl _ _) _⟩
end Go.Proofs.Ytlppomkpmnpmcaa
end

section
/- lotterylaw13.awake: the examples of the chapter are right. No condition. -/
open Go.RowKit
set_option linter.unusedVariables false
set_option linter.unusedSimpArgs false
namespace Go.Proofs.Ytlppomkpmnpmcaa

set_option maxHeartbeats 4000000 in
set_option maxRecDepth 100000 in
theorem awake13_any (w : World) : Calls Try.prog 24 #[] w (BoolB true w) := by
  go_enter Try.func24, Try.ntmps24
  go_wp2_with fail
  refine (small13_any 2 5 0 0 _).mono ?_
  rintro e w1 ⟨av1, tv1, ms1, rfl, g1, b1⟩
  obtain ⟨aa1, ac1, rfl, hal1, ham1⟩ := g1.1.1.shape
  obtain ⟨ta1, tc1, rfl, htl1, htm1⟩ := g1.2.2.shape
  have e1 : (smallG 2 5 0 0).tiers.length = 1 := rfl
  rw [e1] at g1 ⊢
  clear e1 htl1 htm1 hal1 ham1
  go_upto_region 2 with (first | ((with_reducible refine wpList_store_game rfl _ _ rfl w1.heap.size _ _ _ rfl rfl ⟨_, _, _, rfl⟩ ⟨_, _, _, rfl⟩ _ (Row.new _ _ _) ?_ ?_); (rfl); intro A rA0 gA) | fail)
  have hbA : Below w1.heap.size w1 A := Below.grown (Bel.al (Below.refl _ _) _) gA (by simp) (fun k hk => by injection hk with hk; omega)
  clear gA
  replace g1 := g1.below hbA
  replace b1 := Bel.to b1 hbA
  clear hbA
  go_wp2_with fail
  refine (small13_any 2 4 1 3 _).mono ?_
  rintro e w2 ⟨av2, tv2, ms2, rfl, g2, b2⟩
  obtain ⟨aa2, ac2, rfl, hal2, ham2⟩ := g2.1.1.shape
  obtain ⟨ta2, tc2, rfl, htl2, htm2⟩ := g2.2.2.shape
  have e2 : (smallG 2 4 1 3).tiers.length = 1 := rfl
  rw [e2] at g2 ⊢
  clear e2 htl2 htm2 hal2 ham2
  go_upto_region 3 with (first | ((with_reducible refine wpList_store_game rfl _ _ rfl w2.heap.size _ _ _ rfl rfl ⟨_, _, _, rfl⟩ ⟨_, _, _, rfl⟩ _ (Row.new _ _ _) ?_ ?_); (rfl); intro B rB0 gB) | fail)
  have hbB : Below w2.heap.size w2 B := Below.grown (Bel.al (Below.refl _ _) _) gB (by simp) (fun k hk => by injection hk with hk; omega)
  clear gB
  replace b2 := Bel.to b2 hbB
  replace rA0 := rA0.keep b2
  replace g1 := g1.below b2
  replace g2 := g2.below hbB
  replace b1 := Bel.to b1 b2
  clear b2 hbB
  have cA := hide (mcount_any (smallG 2 5 0 0) (.slice aa1 ms1.length ac1) (.slice ta1 1 tc1) ms1 _ g1)
  rw [ex_countA] at cA
  go_wp2_with (first | (refine wpList_load_row rfl 25 _ rfl _ rfl _ _ _ _ rA0 Try.underlying25 rfl (by kernel_rfl) ?_) | fail)
  refine cA.out.mono ?_
  rintro e w3 ⟨rfl, hb3⟩
  clear cA
  replace rA0 := rA0.keep hb3
  replace rB0 := rB0.keep hb3
  replace g1 := g1.below hb3
  replace g2 := g2.below hb3
  replace b1 := Bel.to b1 hb3
  clear hb3
  have cA := hide (mcount_any (smallG 2 4 1 3) (.slice aa2 ms2.length ac2) (.slice ta2 1 tc2) ms2 _ g2)
  rw [ex_countB] at cA
  go_wp2_with (first | (refine wpList_load_row rfl 25 _ rfl _ rfl _ _ _ _ rB0 Try.underlying25 rfl (by kernel_rfl) ?_) | fail)
  refine cA.out.mono ?_
  rintro e w4 ⟨rfl, hb4⟩
  clear cA
  replace rA0 := rA0.keep hb4
  replace rB0 := rB0.keep hb4
  replace g1 := g1.below hb4
  replace g2 := g2.below hb4
  replace b1 := Bel.to b1 hb4
  clear hb4
  obtain ⟨X5, hX5⟩ : ∃ X, X = w4.alloc (.cells #[.int .i64 5, .int .i64 1] 3) := ⟨_, rfl⟩
  have hb5 : Below w4.heap.size w4 X5 := by rw [hX5]; exact Bel.al (Below.refl _ _) _
  have hl5 : LineR X5 (.slice (some ⟨w4.heap.size, 0, none⟩) 2 2) (.slice none 0 0) [5, 1] [] := by rw [hX5]; exact ⟨Rd.new [5, 1] rfl rfl (Nat.le_refl _) (by decide) rfl, Rd.nil⟩
  have cA := hide (mrank_any (smallG 2 5 0 0) (.slice aa1 ms1.length ac1) (.slice ta1 1 tc1) _ _ ms1 [5, 1] [] X5 (g1.below hb5) hl5)
  rw [ex_rankA] at cA
  go_wp2_with (first | (refine wpList_load_row rfl 25 _ rfl _ rfl _ _ _ _ rA0 Try.underlying25 rfl (by kernel_rfl) ?_) | fail)
  rw [← hX5]
  refine cA.out.mono ?_
  rintro e w6 ⟨rfl, hb6⟩
  replace hb6 := Bel.to hb5 hb6
  clear cA hl5 hb5 hX5
  replace rA0 := rA0.keep hb6
  replace rB0 := rB0.keep hb6
  replace g1 := g1.below hb6
  replace g2 := g2.below hb6
  replace b1 := Bel.to b1 hb6
  clear hb6
  obtain ⟨X7, hX7⟩ : ∃ X, X = (w6.alloc (.cells #[.int .i64 1, .int .i64 3] 3)).alloc (.cells #[.int .i64 2] 3) := ⟨_, rfl⟩
  have hb7 : Below w6.heap.size w6 X7 := by rw [hX7]; exact Bel.al (Bel.al (Below.refl _ _) _) _
  have hl7 : LineR X7 (.slice (some ⟨w6.heap.size, 0, none⟩) 2 2) (.slice (some ⟨w6.heap.size + 1, 0, none⟩) 1 1) [1, 3] [2] := by rw [hX7]; exact ⟨Rd.alloc (Rd.new [1, 3] rfl rfl (Nat.le_refl _) (by decide) rfl) _, Rd.new [2] (by simp) rfl (Nat.le_refl _) (by decide) rfl⟩
  have cA := hide (mrank_any (smallG 2 4 1 3) (.slice aa2 ms2.length ac2) (.slice ta2 1 tc2) _ _ ms2 [1, 3] [2] X7 (g2.below hb7) hl7)
  rw [ex_rankB] at cA
  go_wp2_with (first | (refine wpList_load_row rfl 25 _ rfl _ rfl _ _ _ _ rB0 Try.underlying25 rfl (by kernel_rfl) ?_) | fail)
  rw [← hX7]
  refine cA.out.mono ?_
  rintro e w8 ⟨rfl, hb8⟩
  replace hb8 := Bel.to hb7 hb8
  clear cA hl7 hb7 hX7
  replace rA0 := rA0.keep hb8
  replace rB0 := rB0.keep hb8
  replace g1 := g1.below hb8
  replace g2 := g2.below hb8
  replace b1 := Bel.to b1 hb8
  clear hb8
  have cA := hide (munrank_any (smallG 2 4 1 3) (.slice aa2 ms2.length ac2) (.slice ta2 1 tc2) ms2 17 _ g2)
  rw [ex_unrankB] at cA
  go_wp2_with (first | (refine wpList_load_row rfl 25 _ rfl _ rfl _ _ _ _ rB0 Try.underlying25 rfl (by kernel_rfl) ?_) | fail)
  refine cA.out.mono ?_
  rintro e w9 ⟨u, v, rfl, ⟨hu, hv⟩, hb9⟩
  obtain ⟨u1, u2, u3, rfl⟩ := Rd.shape hu
  obtain ⟨v1, v2, v3, rfl⟩ := Rd.shape hv
  clear cA
  replace rA0 := rA0.keep hb9
  replace rB0 := rB0.keep hb9
  replace g1 := g1.below hb9
  replace g2 := g2.below hb9
  replace b1 := Bel.to b1 hb9
  clear hb9
  unfold lineVal
  go_upto_region 8 with (fail)
  obtain ⟨C, hC⟩ : ∃ C, C = (w9.alloc (Obj.cells #[(.slice u1 u2 u3), (.slice v1 v2 v3)] 35)) := ⟨_, rfl⟩
  have bC : Below w9.heap.size w9 C := by rw [hC]; exact Bel.al (Below.refl _ _) _
  have rC0 : LineAt C (w9.heap.size) ((.slice u1 u2 u3)) ((.slice v1 v2 v3)) := by rw [hC]; exact Row.new _ _ _
  have sC : w9.heap.size < C.heap.size := by rw [hC]; simp
  rw [← hC]
  clear hC
  have hb10 := bC
  replace rA0 := rA0.keep hb10
  replace rB0 := rB0.keep hb10
  replace g1 := g1.below hb10
  replace g2 := g2.below hb10
  replace b1 := Bel.to b1 hb10
  clear hb10
  replace hu := hu.below bC
  replace hv := hv.below bC
  clear bC
  obtain ⟨Y, hY⟩ : ∃ X, X = (C.alloc (.cells #[.int .i64 3, .int .i64 4] 3)).alloc (.cells #[.int .i64 3] 3) := ⟨_, rfl⟩
  have hb11 : Below C.heap.size C Y := by rw [hY]; exact Bel.al (Bel.al (Below.refl _ _) _) _
  have hl11 : LineR Y (.slice (some ⟨C.heap.size, 0, none⟩) 2 2) (.slice (some ⟨C.heap.size + 1, 0, none⟩) 1 1) [3, 4] [3] := by rw [hY]; exact ⟨Rd.alloc (Rd.new [3, 4] rfl rfl (Nat.le_refl _) (by decide) rfl) _, Rd.new [3] (by simp) rfl (Nat.le_refl _) (by decide) rfl⟩
  have dt : decide (([3, 4] : List Int) = [3, 4] ∧ ([3] : List Int) = [3]) = true := by decide
  have cA := same13_any _ _ _ _ [3, 4] [3] [3, 4] [3] Y ⟨hu.below hb11, hv.below hb11⟩ hl11
  rw [dt] at cA
  replace cA := hide cA
  go_upto_region 10 with (fail)
  go_wp2_with (first | (refine wpList_load_row rfl 35 _ rfl _ rfl _ _ _ _ rC0 Try.underlying35 rfl (by kernel_rfl) ?_) | fail)
  rw [← hY]
  refine cA.out.mono ?_
  rintro e w12 ⟨rfl, hb12⟩
  replace hb12 := Bel.to hb11 hb12
  clear cA hl11 hb11 hY hu hv rC0 dt
  replace rA0 := rA0.keep hb12
  replace rB0 := rB0.keep hb12
  replace g1 := g1.below hb12
  replace g2 := g2.below hb12
  replace b1 := Bel.to b1 hb12
  clear hb12
  obtain ⟨Y, hY⟩ : ∃ X, X = w12.alloc (.cells #[.int .i64 1] 3) := ⟨_, rfl⟩
  have hb13 : Below w12.heap.size w12 Y := by rw [hY]; exact Bel.al (Below.refl _ _) _
  have hl13 : LineR Y (.slice (some ⟨w12.heap.size, 0, none⟩) 1 1) (.slice none 0 0) [1] [] := by rw [hY]; exact ⟨Rd.new [1] rfl rfl (Nat.le_refl _) (by decide) rfl, Rd.nil⟩
  have cA := hide (mlcheck_any (smallG 2 5 0 0) (.slice aa1 ms1.length ac1) (.slice ta1 1 tc1) _ _ ms1 [1] [] Y (g1.below hb13) hl13)
  rw [ex_line1] at cA
  go_wp2_with (first | ((refine wpList_load_row_if ?_ 25 _ rfl _ ?_ _ _ _ rA0 Try.underlying25 rfl (by kernel_rfl) ?_); (rfl); (rfl)) | fail)
  rw [← hY]
  refine cA.out.mono ?_
  rintro e w14 ⟨rfl, hb14⟩
  replace hb14 := Bel.to hb13 hb14
  clear cA hl13 hb13 hY
  replace rA0 := rA0.keep hb14
  replace rB0 := rB0.keep hb14
  replace g1 := g1.below hb14
  replace g2 := g2.below hb14
  replace b1 := Bel.to b1 hb14
  clear hb14
  obtain ⟨Y, hY⟩ : ∃ X, X = w14.alloc (.cells #[.int .i64 6, .int .i64 6] 3) := ⟨_, rfl⟩
  have hb15 : Below w14.heap.size w14 Y := by rw [hY]; exact Bel.al (Below.refl _ _) _
  have hl15 : LineR Y (.slice (some ⟨w14.heap.size, 0, none⟩) 2 2) (.slice none 0 0) [6, 6] [] := by rw [hY]; exact ⟨Rd.new [6, 6] rfl rfl (Nat.le_refl _) (by decide) rfl, Rd.nil⟩
  have cA := hide (mlcheck_any (smallG 2 5 0 0) (.slice aa1 ms1.length ac1) (.slice ta1 1 tc1) _ _ ms1 [6, 6] [] Y (g1.below hb15) hl15)
  rw [ex_line2] at cA
  go_wp2_with (first | ((refine wpList_load_row_if ?_ 25 _ rfl _ ?_ _ _ _ rA0 Try.underlying25 rfl (by kernel_rfl) ?_); (rfl); (rfl)) | fail)
  rw [← hY]
  refine cA.out.mono ?_
  rintro e w16 ⟨rfl, hb16⟩
  replace hb16 := Bel.to hb15 hb16
  clear cA hl15 hb15 hY
  replace rA0 := rA0.keep hb16
  replace rB0 := rB0.keep hb16
  replace g1 := g1.below hb16
  replace g2 := g2.below hb16
  replace b1 := Bel.to b1 hb16
  clear hb16
  obtain ⟨Y, hY⟩ : ∃ X, X = w16.alloc (.cells #[.int .i64 3, .int .i64 3] 3) := ⟨_, rfl⟩
  have hb17 : Below w16.heap.size w16 Y := by rw [hY]; exact Bel.al (Below.refl _ _) _
  have hl17 : LineR Y (.slice (some ⟨w16.heap.size, 0, none⟩) 2 2) (.slice none 0 0) [3, 3] [] := by rw [hY]; exact ⟨Rd.new [3, 3] rfl rfl (Nat.le_refl _) (by decide) rfl, Rd.nil⟩
  have cA := hide (mlcheck_any (smallG 2 5 0 0) (.slice aa1 ms1.length ac1) (.slice ta1 1 tc1) _ _ ms1 [3, 3] [] Y (g1.below hb17) hl17)
  rw [ex_line3] at cA
  go_wp2_with (first | ((refine wpList_load_row_if ?_ 25 _ rfl _ ?_ _ _ _ rA0 Try.underlying25 rfl (by kernel_rfl) ?_); (rfl); (rfl)) | fail)
  rw [← hY]
  refine cA.out.mono ?_
  rintro e w18 ⟨rfl, hb18⟩
  replace hb18 := Bel.to hb17 hb18
  clear cA hl17 hb17 hY
  replace rA0 := rA0.keep hb18
  replace rB0 := rB0.keep hb18
  replace g1 := g1.below hb18
  replace g2 := g2.below hb18
  replace b1 := Bel.to b1 hb18
  clear hb18
  go_wp2
  go_ret
  exact ⟨rfl, b1⟩
end Go.Proofs.Ytlppomkpmnpmcaa
end

/- Lemmas, merged out of smaller texts. No condition. -/
import Derived.Test.YtlppomkpmnpmcaaGreatMA
import Derived.Test.YtlppomkpmnpmcaaGreatMB

section
/- matrix.Rank. No condition. -/
open Go.RowKit
set_option linter.unusedVariables false
set_option linter.unusedSimpArgs false
namespace Go.Proofs.YtlppomkpmnpmcaaGreat

/-- Digits below q: the number is below q to the power of how many there are. -/
theorem digitsN_bd {q : Int} {l : List Int} (hq : 1 ≤ q) (h : ∀ x ∈ l, 0 ≤ x ∧ x ≤ q - 1) : 0 ≤ digitsN q l ∧ digitsN q l < q ^ l.length := by
  have key : ∀ (n : Nat) (l : List Int), l.length = n → (∀ x ∈ l, 0 ≤ x ∧ x ≤ q - 1) → 0 ≤ digitsN q l ∧ digitsN q l < q ^ l.length := by
    intro n
    induction n with
    | zero => intro l hl _; obtain rfl := List.eq_nil_of_length_eq_zero hl; exact ⟨by simp [digitsN], by simp [digitsN]⟩
    | succ n ih =>
      intro l hl h
      have hne : l ≠ [] := by intro e; subst e; simp at hl
      obtain ⟨m, x, rfl⟩ : ∃ m x, l = m ++ [x] := ⟨l.dropLast, l.getLast hne, (List.dropLast_concat_getLast hne).symm⟩
      obtain ⟨i1, i2⟩ := ih m (by simpa using hl) (fun y hy => h y (List.mem_append_left _ hy))
      have hx := h x (by simp)
      rw [digitsN_snoc, List.length_append, List.length_singleton, Int.pow_succ]
      have a1 : 0 ≤ digitsN q m * q := Int.mul_nonneg i1 (by omega)
      have a2 : (digitsN q m + 1) * q ≤ q ^ m.length * q := Int.mul_le_mul_of_nonneg_right (by omega) (by omega)
      rw [Int.add_mul] at a2
      omega
  exact key l.length l rfl h

theorem int_pow_ten {q : Int} {n : Nat} (h0 : 0 ≤ q) (h : q ≤ 10) (hn : n ≤ 10) : q ^ n ≤ 10000000000 := by
  obtain ⟨a, rfl⟩ := Int.eq_ofNat_of_zero_le h0
  have := pow_ten (a := a) (n := n) (by omega) hn
  have e : ((a : Int)) ^ n = ((a ^ n : Nat) : Int) := by simp
  rw [e]; omega

theorem rankV_in {n : Nat} {l : List Int} (hn : n ≤ 80) (hc : checkL n 0 l = 0) (hx : choose n l.length ≤ 9223372036854775807) (m : Int) (hm : m = n) : rankV m l = ((rankL n 0 l : Int), 0) := by
  subst hm
  unfold rankV
  rw [if_pos ⟨by omega, by omega⟩, if_neg (by omega), Int.toNat_natCast, if_pos hx]

set_option maxHeartbeats 4000000 in
set_option maxRecDepth 100000 in
theorem mrank_bad (g : GameD) (av tv mv bv : Value) (ms : List AddonM) (a b : List Int) (w : World) (h : GameR w av tv ms g) (hl : LineR w mv bv a b) (he : lineE g a b ≠ 0) :
    Calls Tryz.prog 6 #[gameVal g av tv, lineVal mv bv] w (IntC 0 (lineE g a b) w) := by
  have hc := hide (fun X (hX : GameR X av tv ms g) (hY : LineR X mv bv a b) => mlcheck_any g av tv mv bv ms a b X hX hY)
  have hh := hide h
  have hl' := hide hl
  obtain ⟨aa, ac, rfl, hal, ham⟩ := h.1.1.shape
  obtain ⟨ta, tc, rfl, htl, htm⟩ := h.2.2.shape
  obtain ⟨ma, mc, rfl, hma, hmc, -⟩ := hl.1.form
  obtain ⟨ba, bc, rfl, hba, hbc, -⟩ := hl.2.form
  clear h hl
  obtain ⟨c, hcc⟩ : ∃ c, c = lineE g a b := ⟨_, rfl⟩
  rw [← hcc] at hc he ⊢
  clear hcc
  have hcb : (c != 0) = true := by simpa using he
  replace he := hide he
  unfold gameVal lineVal
  go_enter Tryz.func6, Tryz.ntmps6
  go_upto_region 1 with (fail)
  obtain ⟨W, hW⟩ : ∃ W, W = ((w.alloc (Obj.cells #[.string g.name, .int .i64 g.kind, .int .i64 g.price, .int .i64 g.main, .int .i64 g.of, .int .i64 g.bonus, .int .i64 g.bonusOf, .int .i64 g.extra, .int .i64 g.draws, .int .i64 g.system, .int .i64 g.days, .int .i64 g.at_, .int .i64 g.close, .int .i64 g.cancel, .int .i64 g.expiry, .int .i64 g.pool, .int .i64 g.reserve, .int .i64 g.round, .int .i64 g.cap, .int .i64 g.rolls, (.slice aa ms.length ac), (.slice ta g.tiers.length tc)] 25)).alloc (Obj.cells #[(.slice ma a.length mc), (.slice ba b.length bc)] 28)) := ⟨_, rfl⟩
  have bW : Below w.heap.size w W := by rw [hW]; exact Bel.al (Bel.al (Below.refl _ _) _) _
  have r0 : GameAt W (w.heap.size) g ((.slice aa ms.length ac)) ((.slice ta g.tiers.length tc)) := by rw [hW]; exact Row.alloc (Row.new _ _ _) _
  have r1 : LineAt W (w.heap.size + 1) ((.slice ma a.length mc)) ((.slice ba b.length bc)) := by rw [hW]; exact Row.at2 _ _ _ _
  have sW : w.heap.size + 1 < W.heap.size := by rw [hW]; simp
  rw [← hW]
  clear hW
  go_wp2_with (first | (refine wpList_load_row rfl 25 _ rfl _ rfl _ _ _ _ r0 Tryz.underlying25 rfl (by kernel_rfl) ?_) | (refine wpList_load_row rfl 28 _ rfl _ rfl _ _ _ _ r1 Tryz.underlying28 rfl (by kernel_rfl) ?_) | fail)
  refine (hc.out _ (hh.out.below bW) (hl'.out.below bW)).mono ?_
  rintro e w1 ⟨rfl, hb1⟩
  have B1 := Bel.to bW hb1
  clear hb1
  go_wp2
  go_ret2
  exact ⟨rfl, B1⟩

set_option maxHeartbeats 4000000 in
set_option maxRecDepth 100000 in
theorem mrank_digits (g : GameD) (av tv mv bv : Value) (ms : List AddonM) (a b : List Int) (w : World) (h : GameR w av tv ms g) (hl : LineR w mv bv a b) (he : lineE g a b = 0) (hk : g.kind = 2) :
    Calls Tryz.prog 6 #[gameVal g av tv, lineVal mv bv] w (IntC (rankG g a b) 0 w) := by
  have hc := hide (fun X (hX : GameR X av tv ms g) (hY : LineR X mv bv a b) => mlcheck_any g av tv mv bv ms a b X hX hY)
  have hh := hide h
  have hl' := hide hl
  obtain ⟨aa, ac, rfl, hal, ham⟩ := h.1.1.shape
  obtain ⟨ta, tc, rfl, htl, htm⟩ := h.2.2.shape
  obtain ⟨ma, mc, rfl, hma, hmc, -⟩ := hl.1.form
  obtain ⟨ba, bc, rfl, hba, hbc, -⟩ := hl.2.form
  obtain ⟨e1, e2, e3, e4, e5, e6, e7⟩ := lineE_ok.1 he
  have hf := mat_facts (game_mat e1)
  rw [he] at hc
  have hr : rankG g a b = digitsN g.of a := if_pos hk
  rw [hr]
  have hlo : lowG g = 0 := if_pos hk
  have hhi : highG g = g.of - 1 := if_pos hk
  rw [hlo, hhi] at e4
  have hof1 : 2 ≤ g.of := by omega
  have hof2 : g.of ≤ 10 := by omega
  have hlen : a.length ≤ 10 := by omega
  have hkb : (g.kind == 2) = true := by simpa using hk
  have hmc' : mc ≤ 9223372036854775807 := by unfold maxLen at hmc; omega
  have hbd : ∀ i : Nat, i ≤ a.length → 0 ≤ digitsN g.of (a.take i) ∧ digitsN g.of (a.take i) ≤ 10000000000 := by
    intro i hi
    have h1 := digitsN_bd (q := g.of) (l := a.take i) (by omega) (fun x hx => e4 x (List.mem_of_mem_take hx))
    have h2 := int_pow_ten (q := g.of) (n := (a.take i).length) (by omega) hof2 (by rw [List.length_take]; omega)
    omega
  replace hbd := hide hbd
  replace e4 := hide e4
  replace hk := hide hk
  clear h hl he e1 e2 e3 e5 e6 e7 hf hr hlo hhi
  unfold gameVal lineVal
  go_enter Tryz.func6, Tryz.ntmps6
  go_upto_region 1 with (fail)
  obtain ⟨W, hW⟩ : ∃ W, W = ((w.alloc (Obj.cells #[.string g.name, .int .i64 g.kind, .int .i64 g.price, .int .i64 g.main, .int .i64 g.of, .int .i64 g.bonus, .int .i64 g.bonusOf, .int .i64 g.extra, .int .i64 g.draws, .int .i64 g.system, .int .i64 g.days, .int .i64 g.at_, .int .i64 g.close, .int .i64 g.cancel, .int .i64 g.expiry, .int .i64 g.pool, .int .i64 g.reserve, .int .i64 g.round, .int .i64 g.cap, .int .i64 g.rolls, (.slice aa ms.length ac), (.slice ta g.tiers.length tc)] 25)).alloc (Obj.cells #[(.slice ma a.length mc), (.slice ba b.length bc)] 28)) := ⟨_, rfl⟩
  have bW : Below w.heap.size w W := by rw [hW]; exact Bel.al (Bel.al (Below.refl _ _) _) _
  have r0 : GameAt W (w.heap.size) g ((.slice aa ms.length ac)) ((.slice ta g.tiers.length tc)) := by rw [hW]; exact Row.alloc (Row.new _ _ _) _
  have r1 : LineAt W (w.heap.size + 1) ((.slice ma a.length mc)) ((.slice ba b.length bc)) := by rw [hW]; exact Row.at2 _ _ _ _
  have sW : w.heap.size + 1 < W.heap.size := by rw [hW]; simp
  rw [← hW]
  clear hW
  go_wp2_with (first | (refine wpList_load_row rfl 25 _ rfl _ rfl _ _ _ _ r0 Tryz.underlying25 rfl (by kernel_rfl) ?_) | (refine wpList_load_row rfl 28 _ rfl _ rfl _ _ _ _ r1 Tryz.underlying28 rfl (by kernel_rfl) ?_) | fail)
  refine (hc.out _ (hh.out.below bW) (hl'.out.below bW)).mono ?_
  rintro e w1 ⟨rfl, hb1⟩
  have B1 := Bel.to bW hb1
  have d1 := (r0.keep hb1).kind
  have d4 := (r0.keep hb1).of
  have l0 := (r1.keep hb1).main
  have hrd := (hl'.out.below B1).1
  clear hb1 r0 r1 bW hh hc hl'
  go_wp2
  go_loopg [7, 27] a.length (fun gh t q wr => ∃ (i : Nat) (p : Int), gh = a.length - i ∧ i ≤ a.length ∧ q = .int .i64 i ∧ t = .int .i64 p ∧ wr = w1 ∧ p = digitsN g.of (a.take i))
  case atStart => exact ⟨0, 0, rfl, Nat.zero_le _, rfl, rfl, rfl, rfl⟩
  case round =>
    obtain ⟨i, p, hg, hi, rfl, rfl, rfl, hp⟩ := hrel
    replace hg := hide hg
    by_cases hlt : i < a.length
    · have hlt2 := hide hlt
      obtain ⟨b2, off, rfl, hbb, hcell⟩ := hrd.at_ hlt
      have i1 : (0 : Int) ≤ (i : Int) := by omega
      have i2 : (i : Int) < (a.length : Int) := by omega
      obtain ⟨x, hx, c1⟩ : ∃ x, x = a[i] ∧ wr.cell? ⟨b2, off + i, none⟩ = some (.int .i64 x) := ⟨_, rfl, hcell _ hlt⟩
      have hnext : p * g.of + x = digitsN g.of (a.take (i + 1)) := by
        rw [take_snoc a i hlt, digitsN_snoc, ← hp, hx]; rfl
      have hb1 := hbd.out i hi
      have hb2 := hbd.out (i + 1) hlt
      have hx1 := e4.out x (by rw [hx]; exact List.getElem_mem hlt)
      rw [← hp] at hb1
      rw [← hnext] at hb2
      have p1 : 0 ≤ p * g.of := Int.mul_nonneg hb1.1 (by omega)
      have p2 : p * g.of ≤ 10000000000 := by omega
      obtain ⟨hb2a, hb2b⟩ := hb2
      obtain ⟨hx1a, hx1b⟩ := hx1
      replace hnext := hide hnext
      replace hp := hide hp
      replace hx := hide hx
      clear hcell hb1
      go_wp2
      go_roundg (a.length - (i + 1))
      case measure => have := hg.out; have := hlt2.out; omega
      case rel => exact ⟨i + 1, p * g.of + x, rfl, by have := hlt2.out; omega, by go_num, rfl, rfl, hnext.out⟩
    · have hin : i = a.length := by omega
      rw [hin, List.take_length] at hp
      replace hp := hide hp
      replace hin := hide hin
      go_wp2
      go_ret2
      rw [← hp.out]
      exact ⟨rfl, B1⟩

/-- What a valid line of a choose game comes to. -/
theorem choose_facts {g : GameD} {a b : List Int} (he : lineE g a b = 0) (hk : g.kind ≠ 2) :
    checkL g.of.toNat 0 (sortI a) = 0 ∧ checkL g.bonusOf.toNat 0 (sortI b) = 0 ∧ g.of = ((g.of.toNat : Nat) : Int) ∧ g.main = ((g.main.toNat : Nat) : Int) ∧ g.bonusOf = ((g.bonusOf.toNat : Nat) : Int) ∧ g.bonus = ((g.bonus.toNat : Nat) : Int) ∧
    g.of.toNat ≤ 80 ∧ g.bonusOf.toNat ≤ 80 ∧ (sortI a).length = g.main.toNat ∧ (sortI b).length = g.bonus.toNat ∧ choose g.of.toNat g.main.toNat ≤ 1646492110120 ∧ bonusN g ≤ 1581580 ∧
    rankL g.of.toNat 0 (sortI a) < choose g.of.toNat g.main.toNat ∧ rankL g.bonusOf.toNat 0 (sortI b) < bonusN g := by
  obtain ⟨e1, e2, e3, e4, e5, e6, e7⟩ := lineE_ok.1 he
  have hf := mat_facts (game_mat e1)
  have hlo : lowG g = 1 := if_neg hk
  have hhi : highG g = g.of := if_neg hk
  rw [hlo, hhi] at e4
  have o1 : g.of = ((g.of.toNat : Nat) : Int) := by omega
  have o2 : g.bonusOf = ((g.bonusOf.toNat : Nat) : Int) := by omega
  have c1 := check_sortI (n := ((g.of.toNat : Nat) : Int)) (e6 hk) (fun x hx => by have := e4 x hx; omega)
  have c2 := check_sortI (n := ((g.bonusOf.toNat : Nat) : Int)) e7 (fun x hx => by have := e5 x hx; omega)
  have l1 : (sortI a).length = g.main.toNat := by rw [sortI_len]; omega
  have l2 : (sortI b).length = g.bonus.toNat := by rw [sortI_len]; omega
  have r1 := rankL_lt (n := g.of.toNat) (last := 0) (l := sortI a) (by omega) c1
  have r2 := rankL_lt (n := g.bonusOf.toNat) (last := 0) (l := sortI b) (by omega) c2
  rw [l1] at r1
  rw [l2] at r2
  exact ⟨c1, c2, o1, by omega, o2, by omega, by omega, by omega, l1, l2, choose_main (by omega) (by omega), choose_bonus (by omega) (by omega), r1, r2⟩

set_option maxHeartbeats 4000000 in
set_option maxRecDepth 100000 in
theorem mrank_choose (g : GameD) (av tv mv bv : Value) (ms : List AddonM) (a b : List Int) (w : World) (h : GameR w av tv ms g) (hl : LineR w mv bv a b) (he : lineE g a b = 0) (hk : g.kind ≠ 2) :
    Calls Tryz.prog 6 #[gameVal g av tv, lineVal mv bv] w (IntC (rankG g a b) 0 w) := by
  have hc := hide (fun X (hX : GameR X av tv ms g) (hY : LineR X mv bv a b) => mlcheck_any g av tv mv bv ms a b X hX hY)
  have hh := hide h
  have hl' := hide hl
  obtain ⟨aa, ac, rfl, hal, ham⟩ := h.1.1.shape
  obtain ⟨ta, tc, rfl, htl, htm⟩ := h.2.2.shape
  obtain ⟨ma, mc, rfl, hma, hmc, -⟩ := hl.1.form
  obtain ⟨ba, bc, rfl, hba, hbc, -⟩ := hl.2.form
  obtain ⟨c1, c2, o1, o2, o3, o4, n1, n2, l1, l2, b1, b2, r1, r2⟩ := choose_facts he hk
  have hs1 : a.length ≤ 1000 := by
    have := mat_facts (game_mat (lineE_ok.1 he).1); have := (lineE_ok.1 he).2.1; omega
  have hs2 : b.length ≤ 1000 := by
    have := mat_facts (game_mat (lineE_ok.1 he).1); have := (lineE_ok.1 he).2.2.1; omega
  rw [he] at hc
  have hr : rankG g a b = ((rankL g.of.toNat 0 (sortI a) * bonusN g + rankL g.bonusOf.toNat 0 (sortI b) : Nat) : Int) := if_neg hk
  rw [hr]
  have hkb : (g.kind == 2) = false := by simpa using hk
  have cC := hide (fun X (hX : LineR X (.slice ma a.length mc) (.slice ba b.length bc) a b) => mcanon_any _ _ a b X hX hs1 hs2)
  have cM := hide (fun X u (hX : Rd I64 X u (sortI a)) => rank_any u (sortI a) g.of X hX)
  have cB := hide (fun X u (hX : Rd I64 X u (sortI b)) => rank_any u (sortI b) g.bonusOf X hX)
  have cN := hide (count_any g.bonusOf g.bonus)
  rw [rankV_in n1 c1 (by rw [l1]; omega) g.of o1] at cM
  rw [rankV_in n2 c2 (by rw [l2]; have : choose g.bonusOf.toNat g.bonus.toNat ≤ 1581580 := b2; omega) g.bonusOf o3] at cB
  rw [countV_fit o3 o4 n2 (by have : choose g.bonusOf.toNat g.bonus.toNat ≤ 1581580 := b2; omega)] at cN
  obtain ⟨ra, hra⟩ : ∃ r, r = rankL g.of.toNat 0 (sortI a) := ⟨_, rfl⟩
  obtain ⟨rb, hrb⟩ : ∃ r, r = rankL g.bonusOf.toNat 0 (sortI b) := ⟨_, rfl⟩
  obtain ⟨N, hN⟩ : ∃ r, r = bonusN g := ⟨_, rfl⟩
  rw [← hra] at cM r1 ⊢
  rw [← hrb] at cB r2 ⊢
  rw [← hN] at b2 r2 ⊢
  rw [show choose g.bonusOf.toNat g.bonus.toNat = N from hN.symm] at cN
  have p1 : ra * N ≤ 1646492110120 * 1581580 := Nat.mul_le_mul (by omega) b2
  have q1 : (ra : Int) * (N : Int) = ((ra * N : Nat) : Int) := by simp
  have q2 : (0 : Int) ≤ (ra : Int) * (N : Int) := by omega
  have q3 : (ra : Int) * (N : Int) ≤ 2604058991523589600 := by omega
  have q4 : (rb : Int) ≤ 1581580 := by omega
  have q5 : (ra : Int) * (N : Int) + (rb : Int) = ((ra * N + rb : Nat) : Int) := by simp
  replace q5 := hide q5
  replace hk := hide hk
  clear h hl he c1 c2 o1 o2 o3 o4 n1 n2 l1 l2 b1 b2 r1 r2 hs1 hs2 hr hra hrb hN p1 q1
  unfold gameVal lineVal at *
  go_enter Tryz.func6, Tryz.ntmps6
  go_upto_region 1 with (fail)
  obtain ⟨W, hW⟩ : ∃ W, W = ((w.alloc (Obj.cells #[.string g.name, .int .i64 g.kind, .int .i64 g.price, .int .i64 g.main, .int .i64 g.of, .int .i64 g.bonus, .int .i64 g.bonusOf, .int .i64 g.extra, .int .i64 g.draws, .int .i64 g.system, .int .i64 g.days, .int .i64 g.at_, .int .i64 g.close, .int .i64 g.cancel, .int .i64 g.expiry, .int .i64 g.pool, .int .i64 g.reserve, .int .i64 g.round, .int .i64 g.cap, .int .i64 g.rolls, (.slice aa ms.length ac), (.slice ta g.tiers.length tc)] 25)).alloc (Obj.cells #[(.slice ma a.length mc), (.slice ba b.length bc)] 28)) := ⟨_, rfl⟩
  have bW : Below w.heap.size w W := by rw [hW]; exact Bel.al (Bel.al (Below.refl _ _) _) _
  have r0 : GameAt W (w.heap.size) g ((.slice aa ms.length ac)) ((.slice ta g.tiers.length tc)) := by rw [hW]; exact Row.alloc (Row.new _ _ _) _
  have r1 : LineAt W (w.heap.size + 1) ((.slice ma a.length mc)) ((.slice ba b.length bc)) := by rw [hW]; exact Row.at2 _ _ _ _
  have sW : w.heap.size + 1 < W.heap.size := by rw [hW]; simp
  rw [← hW]
  clear hW
  go_wp2_with (first | (refine wpList_load_row rfl 25 _ rfl _ rfl _ _ _ _ r0 Tryz.underlying25 rfl (by kernel_rfl) ?_) | (refine wpList_load_row rfl 28 _ rfl _ rfl _ _ _ _ r1 Tryz.underlying28 rfl (by kernel_rfl) ?_) | fail)
  refine (hc.out _ (hh.out.below bW) (hl'.out.below bW)).mono ?_
  rintro e w1 ⟨rfl, hb1⟩
  have B1 := Bel.to bW hb1
  have r0 := r0.keep hb1
  have r1 := r1.keep hb1
  have d1 := r0.kind
  clear hb1
  go_wp2_with (first | (refine wpList_load_row rfl 28 _ rfl _ rfl _ _ _ _ r1 Tryz.underlying28 rfl (by kernel_rfl) ?_) | fail)
  refine (cC.out _ (hl'.out.below B1)).mono ?_
  rintro e w2 ⟨u, v, rfl, ⟨hu, hv⟩, hb2⟩
  have B2 := Bel.to B1 hb2
  have r0 := r0.keep hb2
  have z0 : w.heap.size < w2.heap.size := by have := hb2.size; have := B1.size; have := World.block_lt_of_cell? _ _ d1; simp at this; omega
  clear hb2 r1 d1 B1
  obtain ⟨u1, u2, u3, rfl⟩ := Rd.shape hu
  obtain ⟨v1, v2, v3, rfl⟩ := Rd.shape hv
  unfold lineVal
  go_upto_region 13 with (fail)
  obtain ⟨Z, hZ⟩ : ∃ Z, Z = (w2.alloc (Obj.cells #[(.slice u1 u2 u3), (.slice v1 v2 v3)] 28)) := ⟨_, rfl⟩
  have bZ : Below w2.heap.size w2 Z := by rw [hZ]; exact Bel.al (Below.refl _ _) _
  have rZ0 : LineAt Z (w2.heap.size) ((.slice u1 u2 u3)) ((.slice v1 v2 v3)) := by rw [hZ]; exact Row.new _ _ _
  have sZ : w2.heap.size < Z.heap.size := by rw [hZ]; simp
  rw [← hZ]
  clear hZ
  have d4 := (r0.keep bZ).of
  have d5 := (r0.keep bZ).bonus
  have d6 := (r0.keep bZ).bonusOf
  have l0 := rZ0.main
  have l1 := rZ0.bonus
  have hu2 := hu.below bZ
  have hv2 := hv.below bZ
  have B3 := Bel.to B2 bZ
  clear r0 rZ0 hu hv B2 bZ
  go_wp2_with fail
  refine (cM.out _ _ hu2).mono ?_
  rintro e w3 ⟨rfl, hb3⟩
  have B3 := Bel.to B3 hb3
  have d5 := Bel.cellOf hb3 d5
  have d6 := Bel.cellOf hb3 d6
  have l1 := Bel.cellOf hb3 l1
  have hv3 := hv2.below hb3
  clear hb3 hu2 hv2 d4 l0
  go_wp2_with fail
  refine (cN.out _).mono ?_
  rintro e w4 ⟨rfl, hb4⟩
  have B3 := Bel.to B3 hb4
  have d6 := Bel.cellOf hb4 d6
  have l1 := Bel.cellOf hb4 l1
  have hv4 := hv3.below hb4
  clear hb4 hv3 d5
  go_wp2_with fail
  refine (cB.out _ _ hv4).mono ?_
  rintro e w5 ⟨rfl, hb5⟩
  have B3 := Bel.to B3 hb5
  clear hb5 hv4 d6 l1
  go_wp2
  go_ret2
  rw [q5.out]
  exact ⟨rfl, B3⟩

theorem mrank_any (g : GameD) (av tv mv bv : Value) (ms : List AddonM) (a b : List Int) (w : World) (h : GameR w av tv ms g) (hl : LineR w mv bv a b) :
    Calls Tryz.prog 6 #[gameVal g av tv, lineVal mv bv] w (IntC (rankP g a b).1 (rankP g a b).2 w) := by
  unfold rankP
  by_cases he : lineE g a b = 0
  · rw [if_pos he]
    by_cases hk : g.kind = 2
    · exact mrank_digits g av tv mv bv ms a b w h hl he hk
    · exact mrank_choose g av tv mv bv ms a b w h hl he hk
  · rw [if_neg he]
    exact mrank_bad g av tv mv bv ms a b w h hl he
end Go.Proofs.YtlppomkpmnpmcaaGreat
end

section
/- lotteryref13.Rank. No condition. -/
open Go.RowKit
set_option linter.unusedVariables false
set_option linter.unusedSimpArgs false
namespace Go.Proofs.YtlppomkpmnpmcaaGreat

set_option maxHeartbeats 4000000 in
set_option maxRecDepth 100000 in
theorem rrank13_bad (g : GameD) (av tv mv bv : Value) (ms : List AddonM) (a b : List Int) (w : World) (h : GameR w av tv ms g) (hl : LineR w mv bv a b) (he : lineE g a b ≠ 0) :
    Calls Tryz.prog 7 #[gameVal g av tv, lineVal mv bv] w (IntC 0 (lineE g a b) w) := by
  have hc := hide (fun X (hX : GameR X av tv ms g) (hY : LineR X mv bv a b) => rlcheck_any g av tv mv bv ms a b X hX hY)
  have hh := hide h
  have hl' := hide hl
  obtain ⟨aa, ac, rfl, hal, ham⟩ := h.1.1.shape
  obtain ⟨ta, tc, rfl, htl, htm⟩ := h.2.2.shape
  obtain ⟨ma, mc, rfl, hma, hmc, -⟩ := hl.1.form
  obtain ⟨ba, bc, rfl, hba, hbc, -⟩ := hl.2.form
  clear h hl
  obtain ⟨c, hcc⟩ : ∃ c, c = lineE g a b := ⟨_, rfl⟩
  rw [← hcc] at hc he ⊢
  clear hcc
  have hcb : (c != 0) = true := by simpa using he
  replace he := hide he
  unfold gameVal lineVal
  go_enter Tryz.func7, Tryz.ntmps7
  go_upto_region 1 with (fail)
  obtain ⟨W, hW⟩ : ∃ W, W = ((w.alloc (Obj.cells #[.string g.name, .int .i64 g.kind, .int .i64 g.price, .int .i64 g.main, .int .i64 g.of, .int .i64 g.bonus, .int .i64 g.bonusOf, .int .i64 g.extra, .int .i64 g.draws, .int .i64 g.system, .int .i64 g.days, .int .i64 g.at_, .int .i64 g.close, .int .i64 g.cancel, .int .i64 g.expiry, .int .i64 g.pool, .int .i64 g.reserve, .int .i64 g.round, .int .i64 g.cap, .int .i64 g.rolls, (.slice aa ms.length ac), (.slice ta g.tiers.length tc)] 25)).alloc (Obj.cells #[(.slice ma a.length mc), (.slice ba b.length bc)] 28)) := ⟨_, rfl⟩
  have bW : Below w.heap.size w W := by rw [hW]; exact Bel.al (Bel.al (Below.refl _ _) _) _
  have r0 : GameAt W (w.heap.size) g ((.slice aa ms.length ac)) ((.slice ta g.tiers.length tc)) := by rw [hW]; exact Row.alloc (Row.new _ _ _) _
  have r1 : LineAt W (w.heap.size + 1) ((.slice ma a.length mc)) ((.slice ba b.length bc)) := by rw [hW]; exact Row.at2 _ _ _ _
  have sW : w.heap.size + 1 < W.heap.size := by rw [hW]; simp
  rw [← hW]
  clear hW
  go_wp2_with (first | (refine wpList_load_row rfl 25 _ rfl _ rfl _ _ _ _ r0 Tryz.underlying25 rfl (by kernel_rfl) ?_) | (refine wpList_load_row rfl 28 _ rfl _ rfl _ _ _ _ r1 Tryz.underlying28 rfl (by kernel_rfl) ?_) | fail)
  refine (hc.out _ (hh.out.below bW) (hl'.out.below bW)).mono ?_
  rintro e w1 ⟨rfl, hb1⟩
  have B1 := Bel.to bW hb1
  clear hb1
  go_wp2
  go_ret2
  exact ⟨rfl, B1⟩

set_option maxHeartbeats 4000000 in
set_option maxRecDepth 100000 in
theorem rrank13_digits (g : GameD) (av tv mv bv : Value) (ms : List AddonM) (a b : List Int) (w : World) (h : GameR w av tv ms g) (hl : LineR w mv bv a b) (he : lineE g a b = 0) (hk : g.kind = 2) :
    Calls Tryz.prog 7 #[gameVal g av tv, lineVal mv bv] w (IntC (rankG g a b) 0 w) := by
  have hc := hide (fun X (hX : GameR X av tv ms g) (hY : LineR X mv bv a b) => rlcheck_any g av tv mv bv ms a b X hX hY)
  have hh := hide h
  have hl' := hide hl
  obtain ⟨aa, ac, rfl, hal, ham⟩ := h.1.1.shape
  obtain ⟨ta, tc, rfl, htl, htm⟩ := h.2.2.shape
  obtain ⟨ma, mc, rfl, hma, hmc, -⟩ := hl.1.form
  obtain ⟨ba, bc, rfl, hba, hbc, -⟩ := hl.2.form
  obtain ⟨e1, e2, e3, e4, e5, e6, e7⟩ := lineE_ok.1 he
  have hf := mat_facts (game_mat e1)
  rw [he] at hc
  have hr : rankG g a b = digitsN g.of a := if_pos hk
  rw [hr]
  have hlo : lowG g = 0 := if_pos hk
  have hhi : highG g = g.of - 1 := if_pos hk
  rw [hlo, hhi] at e4
  have hof1 : 2 ≤ g.of := by omega
  have hof2 : g.of ≤ 10 := by omega
  have hlen : a.length ≤ 10 := by omega
  have hkb : (g.kind == 2) = true := by simpa using hk
  have hmc' : mc ≤ 9223372036854775807 := by unfold maxLen at hmc; omega
  have hbd : ∀ i : Nat, i ≤ a.length → 0 ≤ digitsN g.of (a.take i) ∧ digitsN g.of (a.take i) ≤ 10000000000 := by
    intro i hi
    have h1 := digitsN_bd (q := g.of) (l := a.take i) (by omega) (fun x hx => e4 x (List.mem_of_mem_take hx))
    have h2 := int_pow_ten (q := g.of) (n := (a.take i).length) (by omega) hof2 (by rw [List.length_take]; omega)
    omega
  replace hbd := hide hbd
  replace e4 := hide e4
  replace hk := hide hk
  clear h hl he e1 e2 e3 e5 e6 e7 hf hr hlo hhi
  unfold gameVal lineVal
  go_enter Tryz.func7, Tryz.ntmps7
  go_upto_region 1 with (fail)
  obtain ⟨W, hW⟩ : ∃ W, W = ((w.alloc (Obj.cells #[.string g.name, .int .i64 g.kind, .int .i64 g.price, .int .i64 g.main, .int .i64 g.of, .int .i64 g.bonus, .int .i64 g.bonusOf, .int .i64 g.extra, .int .i64 g.draws, .int .i64 g.system, .int .i64 g.days, .int .i64 g.at_, .int .i64 g.close, .int .i64 g.cancel, .int .i64 g.expiry, .int .i64 g.pool, .int .i64 g.reserve, .int .i64 g.round, .int .i64 g.cap, .int .i64 g.rolls, (.slice aa ms.length ac), (.slice ta g.tiers.length tc)] 25)).alloc (Obj.cells #[(.slice ma a.length mc), (.slice ba b.length bc)] 28)) := ⟨_, rfl⟩
  have bW : Below w.heap.size w W := by rw [hW]; exact Bel.al (Bel.al (Below.refl _ _) _) _
  have r0 : GameAt W (w.heap.size) g ((.slice aa ms.length ac)) ((.slice ta g.tiers.length tc)) := by rw [hW]; exact Row.alloc (Row.new _ _ _) _
  have r1 : LineAt W (w.heap.size + 1) ((.slice ma a.length mc)) ((.slice ba b.length bc)) := by rw [hW]; exact Row.at2 _ _ _ _
  have sW : w.heap.size + 1 < W.heap.size := by rw [hW]; simp
  rw [← hW]
  clear hW
  go_wp2_with (first | (refine wpList_load_row rfl 25 _ rfl _ rfl _ _ _ _ r0 Tryz.underlying25 rfl (by kernel_rfl) ?_) | (refine wpList_load_row rfl 28 _ rfl _ rfl _ _ _ _ r1 Tryz.underlying28 rfl (by kernel_rfl) ?_) | fail)
  refine (hc.out _ (hh.out.below bW) (hl'.out.below bW)).mono ?_
  rintro e w1 ⟨rfl, hb1⟩
  have B1 := Bel.to bW hb1
  have d1 := (r0.keep hb1).kind
  have d4 := (r0.keep hb1).of
  have l0 := (r1.keep hb1).main
  have hrd := (hl'.out.below B1).1
  clear hb1 r0 r1 bW hh hc hl'
  go_wp2
  go_loopg [7, 8] a.length (fun gh t q wr => ∃ (i d : Nat) (p : Int), gh = a.length - i ∧ i ≤ a.length ∧ q = .int .i64 i ∧ t = .int .i64 p ∧ wr = w1.drewN d ∧ p = digitsN g.of (a.take i))
  case atStart => exact ⟨0, 0, 0, rfl, Nat.zero_le _, rfl, rfl, rfl, rfl⟩
  case round =>
    obtain ⟨i, d, p, hg, hi, rfl, rfl, rfl, hp⟩ := hrel
    replace hg := hide hg
    by_cases hlt : i < a.length
    · have hlt2 := hide hlt
      obtain ⟨b2, off, rfl, hbb, hcell⟩ := hrd.at_ hlt
      have i1 : (0 : Int) ≤ (i : Int) := by omega
      have i2 : (i : Int) < (a.length : Int) := by omega
      obtain ⟨x, hx, c1⟩ : ∃ x, x = a[i] ∧ w1.cell? ⟨b2, off + i, none⟩ = some (.int .i64 x) := ⟨_, rfl, hcell _ hlt⟩
      have hnext : p * g.of + x = digitsN g.of (a.take (i + 1)) := by
        rw [take_snoc a i hlt, digitsN_snoc, ← hp, hx]; rfl
      have hb1 := hbd.out i hi
      have hb2 := hbd.out (i + 1) hlt
      have hx1 := e4.out x (by rw [hx]; exact List.getElem_mem hlt)
      rw [← hp] at hb1
      rw [← hnext] at hb2
      have p1 : 0 ≤ p * g.of := Int.mul_nonneg hb1.1 (by omega)
      have p2 : p * g.of ≤ 10000000000 := by omega
      obtain ⟨hb2a, hb2b⟩ := hb2
      obtain ⟨hx1a, hx1b⟩ := hx1
      replace hnext := hide hnext
      replace hp := hide hp
      replace hx := hide hx
      clear hcell hb1
      go_wp2
      go_quiet (fail)
      go_wp2
      go_roundg (a.length - (i + 1))
      case measure => have := hg.out; have := hlt2.out; omega
      case rel => exact ⟨i + 1, _, p * g.of + x, rfl, by have := hlt2.out; omega, by go_num, rfl, rfl, hnext.out⟩
    · have hin : i = a.length := by omega
      rw [hin, List.take_length] at hp
      replace hp := hide hp
      replace hin := hide hin
      go_wp2
      go_ret2
      rw [← hp.out]
      exact ⟨rfl, Bel.drN B1 _⟩

set_option maxHeartbeats 4000000 in
set_option maxRecDepth 100000 in
theorem rrank13_choose (g : GameD) (av tv mv bv : Value) (ms : List AddonM) (a b : List Int) (w : World) (h : GameR w av tv ms g) (hl : LineR w mv bv a b) (he : lineE g a b = 0) (hk : g.kind ≠ 2) :
    Calls Tryz.prog 7 #[gameVal g av tv, lineVal mv bv] w (IntC (rankG g a b) 0 w) := by
  have hc := hide (fun X (hX : GameR X av tv ms g) (hY : LineR X mv bv a b) => rlcheck_any g av tv mv bv ms a b X hX hY)
  have hh := hide h
  have hl' := hide hl
  obtain ⟨aa, ac, rfl, hal, ham⟩ := h.1.1.shape
  obtain ⟨ta, tc, rfl, htl, htm⟩ := h.2.2.shape
  obtain ⟨ma, mc, rfl, hma, hmc, -⟩ := hl.1.form
  obtain ⟨ba, bc, rfl, hba, hbc, -⟩ := hl.2.form
  obtain ⟨c1, c2, o1, o2, o3, o4, n1, n2, l1, l2, b1, b2, r1, r2⟩ := choose_facts he hk
  have hs1 : a.length ≤ 1000 := by
    have := mat_facts (game_mat (lineE_ok.1 he).1); have := (lineE_ok.1 he).2.1; omega
  have hs2 : b.length ≤ 1000 := by
    have := mat_facts (game_mat (lineE_ok.1 he).1); have := (lineE_ok.1 he).2.2.1; omega
  rw [he] at hc
  have hr : rankG g a b = ((rankL g.of.toNat 0 (sortI a) * bonusN g + rankL g.bonusOf.toNat 0 (sortI b) : Nat) : Int) := if_neg hk
  rw [hr]
  have hkb : (g.kind == 2) = false := by simpa using hk
  have cC := hide (fun X (hX : LineR X (.slice ma a.length mc) (.slice ba b.length bc) a b) => rcanon_any _ _ a b X hX hs1 hs2)
  have cM := hide (fun X u (hX : Rd I64 X u (sortI a)) => rrank_any u (sortI a) g.of X hX)
  have cB := hide (fun X u (hX : Rd I64 X u (sortI b)) => rrank_any u (sortI b) g.bonusOf X hX)
  have cN := hide (fun X => bonuses_any g (.slice aa ms.length ac) (.slice ta g.tiers.length tc) X ⟨_, _, _, rfl⟩ ⟨_, _, _, rfl⟩ (lineE_ok.1 he).1)
  have hz : ¬ 0 < g.bonus → rankL g.bonusOf.toNat 0 (sortI b) = 0 := by
    intro hb
    have : sortI b = [] := List.eq_nil_of_length_eq_zero (by omega)
    rw [this]; rfl
  rw [rankV_in n1 c1 (by rw [l1]; omega) g.of o1] at cM
  rw [rankV_in n2 c2 (by rw [l2]; have : choose g.bonusOf.toNat g.bonus.toNat ≤ 1581580 := b2; omega) g.bonusOf o3] at cB
  obtain ⟨ra, hra⟩ : ∃ r, r = rankL g.of.toNat 0 (sortI a) := ⟨_, rfl⟩
  obtain ⟨rb, hrb⟩ : ∃ r, r = rankL g.bonusOf.toNat 0 (sortI b) := ⟨_, rfl⟩
  obtain ⟨N, hN⟩ : ∃ r, r = bonusN g := ⟨_, rfl⟩
  rw [← hra] at cM r1 ⊢
  rw [← hrb] at cB r2 hz ⊢
  rw [← hN] at b2 r2 cN ⊢
  have p1 : ra * N ≤ 1646492110120 * 1581580 := Nat.mul_le_mul (by omega) b2
  have q1 : (ra : Int) * (N : Int) = ((ra * N : Nat) : Int) := by simp
  have q2 : (0 : Int) ≤ (ra : Int) * (N : Int) := by omega
  have q3 : (ra : Int) * (N : Int) ≤ 2604058991523589600 := by omega
  have q4 : (rb : Int) ≤ 1581580 := by omega
  have q5 : (ra : Int) * (N : Int) + (rb : Int) = ((ra * N + rb : Nat) : Int) := by simp
  replace q5 := hide q5
  replace hz := hide hz
  replace hk := hide hk
  clear h hl he c1 c2 o1 o2 o3 o4 n1 n2 l1 l2 b1 b2 r1 r2 hs1 hs2 hr hra hrb hN p1 q1
  unfold gameVal lineVal at *
  go_enter Tryz.func7, Tryz.ntmps7
  go_upto_region 1 with (fail)
  obtain ⟨W, hW⟩ : ∃ W, W = ((w.alloc (Obj.cells #[.string g.name, .int .i64 g.kind, .int .i64 g.price, .int .i64 g.main, .int .i64 g.of, .int .i64 g.bonus, .int .i64 g.bonusOf, .int .i64 g.extra, .int .i64 g.draws, .int .i64 g.system, .int .i64 g.days, .int .i64 g.at_, .int .i64 g.close, .int .i64 g.cancel, .int .i64 g.expiry, .int .i64 g.pool, .int .i64 g.reserve, .int .i64 g.round, .int .i64 g.cap, .int .i64 g.rolls, (.slice aa ms.length ac), (.slice ta g.tiers.length tc)] 25)).alloc (Obj.cells #[(.slice ma a.length mc), (.slice ba b.length bc)] 28)) := ⟨_, rfl⟩
  have bW : Below w.heap.size w W := by rw [hW]; exact Bel.al (Bel.al (Below.refl _ _) _) _
  have r0 : GameAt W (w.heap.size) g ((.slice aa ms.length ac)) ((.slice ta g.tiers.length tc)) := by rw [hW]; exact Row.alloc (Row.new _ _ _) _
  have r1 : LineAt W (w.heap.size + 1) ((.slice ma a.length mc)) ((.slice ba b.length bc)) := by rw [hW]; exact Row.at2 _ _ _ _
  have sW : w.heap.size + 1 < W.heap.size := by rw [hW]; simp
  rw [← hW]
  clear hW
  go_wp2_with (first | (refine wpList_load_row rfl 25 _ rfl _ rfl _ _ _ _ r0 Tryz.underlying25 rfl (by kernel_rfl) ?_) | (refine wpList_load_row rfl 28 _ rfl _ rfl _ _ _ _ r1 Tryz.underlying28 rfl (by kernel_rfl) ?_) | fail)
  refine (hc.out _ (hh.out.below bW) (hl'.out.below bW)).mono ?_
  rintro e w1 ⟨rfl, hb1⟩
  have B1 := Bel.to bW hb1
  have r0 := r0.keep hb1
  have r1 := r1.keep hb1
  have d1 := r0.kind
  clear hb1
  go_wp2_with (first | (refine wpList_load_row rfl 28 _ rfl _ rfl _ _ _ _ r1 Tryz.underlying28 rfl (by kernel_rfl) ?_) | fail)
  refine (cC.out _ (hl'.out.below B1)).mono ?_
  rintro e w2 ⟨u, v, rfl, ⟨hu, hv⟩, hb2⟩
  have B2 := Bel.to B1 hb2
  have r0 := r0.keep hb2
  have z0 : w.heap.size < w2.heap.size := by have := hb2.size; have := B1.size; have := World.block_lt_of_cell? _ _ d1; simp at this; omega
  clear hb2 r1 d1 B1
  obtain ⟨u1, u2, u3, rfl⟩ := Rd.shape hu
  obtain ⟨v1, v2, v3, rfl⟩ := Rd.shape hv
  unfold lineVal
  go_upto_region 12 with (fail)
  obtain ⟨Z, hZ⟩ : ∃ Z, Z = (w2.alloc (Obj.cells #[(.slice u1 u2 u3), (.slice v1 v2 v3)] 28)) := ⟨_, rfl⟩
  have bZ : Below w2.heap.size w2 Z := by rw [hZ]; exact Bel.al (Below.refl _ _) _
  have rZ0 : LineAt Z (w2.heap.size) ((.slice u1 u2 u3)) ((.slice v1 v2 v3)) := by rw [hZ]; exact Row.new _ _ _
  have sZ : w2.heap.size < Z.heap.size := by rw [hZ]; simp
  rw [← hZ]
  clear hZ
  have r0 := r0.keep bZ
  have d4 := r0.of
  have l0 := rZ0.main
  have hu2 := hu.below bZ
  have hv2 := hv.below bZ
  have B3 := Bel.to B2 bZ
  clear hu hv B2 bZ
  go_wp2_with fail
  refine (cM.out _ _ hu2).mono ?_
  rintro e w3 ⟨rfl, hb3⟩
  have B3 := Bel.to B3 hb3
  have r0 := r0.keep hb3
  have rZ0 := rZ0.keep hb3
  have d5 := r0.bonus
  have d6 := r0.bonusOf
  have l1 := rZ0.bonus
  have hv3 := hv2.below hb3
  clear hb3 hu2 hv2 d4 l0
  by_cases hb0 : 0 < g.bonus
  · replace hz := hz
    go_wp2_with fail
    refine (cB.out _ _ hv3).mono ?_
    rintro e w5 ⟨rfl, hb5⟩
    have B3 := Bel.to B3 hb5
    have r0 := r0.keep hb5
    clear hb5 d5 d6 l1
    go_wp2_with (first | (refine wpList_load_row rfl 25 _ rfl _ rfl _ _ _ _ r0 Tryz.underlying25 rfl (by kernel_rfl) ?_) | fail)
    refine (cN.out _).mono ?_
    rintro e w4 ⟨rfl, hb4⟩
    have B3 := Bel.to B3 hb4
    go_wp2
    go_ret2
    rw [q5.out]
    exact ⟨rfl, B3⟩
  · have hr0 : rb = 0 := hz.out (by omega)
    have q6 : (ra : Int) * (N : Int) = ((ra * N + rb : Nat) : Int) := by rw [hr0]; simp
    replace q6 := hide q6
    clear hr0
    go_wp2_with (first | (refine wpList_load_row rfl 25 _ rfl _ rfl _ _ _ _ r0 Tryz.underlying25 rfl (by kernel_rfl) ?_) | fail)
    refine (cN.out _).mono ?_
    rintro e w4 ⟨rfl, hb4⟩
    have B3 := Bel.to B3 hb4
    go_wp2
    go_ret2
    rw [← q6.out]
    exact ⟨rfl, B3⟩

theorem rrank13_any (g : GameD) (av tv mv bv : Value) (ms : List AddonM) (a b : List Int) (w : World) (h : GameR w av tv ms g) (hl : LineR w mv bv a b) :
    Calls Tryz.prog 7 #[gameVal g av tv, lineVal mv bv] w (IntC (rankP g a b).1 (rankP g a b).2 w) := by
  unfold rankP
  by_cases he : lineE g a b = 0
  · rw [if_pos he]
    by_cases hk : g.kind = 2
    · exact rrank13_digits g av tv mv bv ms a b w h hl he hk
    · exact rrank13_choose g av tv mv bv ms a b w h hl he hk
  · rw [if_neg he]
    exact rrank13_bad g av tv mv bv ms a b w h hl he
end Go.Proofs.YtlppomkpmnpmcaaGreat
end

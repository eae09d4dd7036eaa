/- MatrixRanks: for every input the Go function lotterylaw13.MatrixRanks returns true, and each argument reads afterwards as before. Conditions: none. -/
import Derived.Test.YtlppomkpmnpmcaaRows
import Derived.WalkKit
import Derived.ProofKit
import Derived.OpenShut
import Derived.ChangeOld
import Derived.Below
import Derived.Test.YtlppomkpmnpmcaaGLine
import Derived.Test.YtlppomkpmnpmcaaGMat
import Derived.Test.YtlppomkpmnpmcaaGRef
import Derived.Test.YtlppomkpmnpmcaaGTrod

section
/- Plain: the line with a rank is valid, canonical, has that rank, and comes before the next one. No condition. -/
set_option linter.unusedVariables false
set_option linter.unusedSimpArgs false
namespace Go.Proofs.Ytlppomkpmnpmcaa

theorem mat_digits {g : GameD} (h : matB g = true) (hk : g.kind = 2) : g.bonus = 0 := by
  unfold matB at h
  simp only [Bool.and_eq_true] at h
  obtain ⟨⟨⟨⟨⟨⟨⟨h1, h2⟩, h3⟩, h4⟩, h5⟩, h6⟩, h7⟩, h8⟩ := h
  rw [if_pos hk] at h4
  have := inB_iff.1 h4
  omega

theorem unrank_choose_eq {g : GameD} {r : Nat} (hk : g.kind ≠ 2) : unrankG g r = (unrankL g.of.toNat 1 (r / bonusN g) g.main.toNat, unrankL g.bonusOf.toNat 1 (r % bonusN g) g.bonus.toNat) := if_neg hk
theorem unrank_digits_eq {g : GameD} {r : Nat} (hk : g.kind = 2) : unrankG g r = (digitsL g.of.toNat g.main.toNat r, []) := if_pos hk

theorem unrank_line {g : GameD} {r : Nat} (he : gameE g = 0) (hr : r < countG g) : lineE g (unrankG g r).1 (unrankG g r).2 = 0 := by
  have hf := mat_facts (game_mat he)
  rw [lineE_ok]
  by_cases hk : g.kind = 2
  · have hb := mat_digits (game_mat he) hk
    rw [unrank_digits_eq hk]
    refine ⟨he, ?_, ?_, ?_, ?_, fun h => absurd hk h, List.nodup_nil⟩
    · rw [digitsL_len]; omega
    · rw [hb]; rfl
    · intro x hx
      have := digitsL_mem (q := g.of.toNat) (by omega) x hx
      unfold lowG highG
      rw [if_pos hk, if_pos hk]
      omega
    · intro x hx; cases hx
  · obtain ⟨n1, n2, f1, f2, f3, o1, o2, o3, o4, m1, m2, m3, m4, hrb⟩ := unrank_facts he hk hr
    rw [unrank_choose_eq hk]
    have c1 := check_unrankL (n := g.of.toNat) (m := g.of.toNat) (w := 1) (by omega) (by omega) f1 0 (by omega)
    have c2 := check_unrankL (n := g.bonusOf.toNat) (m := g.bonusOf.toNat) (w := 1) (r := r % bonusN g) (j := g.bonus.toNat) (by omega) (by omega) f2 0 (by omega)
    obtain ⟨s1, s2⟩ := checkL_pair c1
    obtain ⟨s3, s4⟩ := checkL_pair c2
    refine ⟨he, ?_, ?_, ?_, ?_, fun _ => lt_nodup s1, lt_nodup s3⟩
    · rw [unrankL_len f1]; omega
    · rw [unrankL_len (show r % bonusN g < choose g.bonusOf.toNat g.bonus.toNat from f2)]; omega
    · intro x hx
      have := s2 x hx
      unfold lowG highG
      rw [if_neg hk, if_neg hk]
      omega
    · intro x hx
      have := s4 x hx
      omega

theorem unrank_sorted {g : GameD} {r : Nat} (he : gameE g = 0) (hk : g.kind ≠ 2) (hr : r < countG g) : sortI (unrankG g r).1 = (unrankG g r).1 ∧ sortI (unrankG g r).2 = (unrankG g r).2 := by
  obtain ⟨n1, n2, f1, f2, f3, o1, o2, o3, o4, m1, m2, m3, m4, hrb⟩ := unrank_facts he hk hr
  rw [unrank_choose_eq hk]
  have c1 := check_unrankL (n := g.of.toNat) (m := g.of.toNat) (w := 1) (by omega) (by omega) f1 0 (by omega)
  have c2 := check_unrankL (n := g.bonusOf.toNat) (m := g.bonusOf.toNat) (w := 1) (r := r % bonusN g) (j := g.bonus.toNat) (by omega) (by omega) f2 0 (by omega)
  exact ⟨sortI_of (lt_le (checkL_pair c1).1), sortI_of (lt_le (checkL_pair c2).1)⟩

theorem rank_unrank {g : GameD} {r : Nat} (he : gameE g = 0) (hr : r < countG g) : rankG g (unrankG g r).1 (unrankG g r).2 = (r : Int) := by
  by_cases hk : g.kind = 2
  · have hf := mat_facts (game_mat he)
    unfold rankG
    rw [if_pos hk, unrank_digits_eq hk]
    have hc : countG g = g.of.toNat ^ g.main.toNat := if_pos hk
    rw [hc] at hr
    have e : g.of = ((g.of.toNat : Nat) : Int) := by omega
    rw [e]
    exact digitsN_digitsL hr
  · obtain ⟨s1, s2⟩ := unrank_sorted he hk hr
    obtain ⟨n1, n2, f1, f2, f3, o1, o2, o3, o4, m1, m2, m3, m4, hrb⟩ := unrank_facts he hk hr
    unfold rankG
    rw [if_neg hk, s1, s2, unrank_choose_eq hk]
    have r1 := rank_unrankL (n := g.of.toNat) (m := g.of.toNat) (w := 1) (by omega) f1 (by omega)
    have r2 := rank_unrankL (n := g.bonusOf.toNat) (m := g.bonusOf.toNat) (w := 1) (r := r % bonusN g) (j := g.bonus.toNat) (by omega) f2 (by omega)
    rw [Nat.sub_self] at r1 r2
    rw [r1, r2]
    have := Nat.div_add_mod r (bonusN g)
    rw [Nat.mul_comm] at this
    rw [this]

theorem unrank_less {g : GameD} {r : Nat} (he : gameE g = 0) (hr : r + 1 < countG g) :
    lessB (unrankG g r).1 (unrankG g (r + 1)).1 = true ∨ ((unrankG g r).1 = (unrankG g (r + 1)).1 ∧ lessB (unrankG g r).2 (unrankG g (r + 1)).2 = true) := by
  by_cases hk : g.kind = 2
  · rw [unrank_digits_eq hk, unrank_digits_eq hk]
    have hc : countG g = g.of.toNat ^ g.main.toNat := if_pos hk
    rw [hc] at hr
    left
    have := digits_less (q := g.of.toNat) (n := g.main.toNat) (r := r) (s := r + 1) hr (by omega) [] []
    rwa [List.append_nil, List.append_nil] at this
  · obtain ⟨n1, n2, f1, f2, -, -, -, -, -, m1, m2, m3, m4, -⟩ := unrank_facts (r := r) he hk (by omega)
    obtain ⟨-, -, g1, g2, -⟩ := unrank_facts he hk hr
    rw [unrank_choose_eq hk, unrank_choose_eq hk]
    have d1 := Nat.div_add_mod r (bonusN g)
    have d2 := Nat.div_add_mod (r + 1) (bonusN g)
    by_cases hq : r / bonusN g = (r + 1) / bonusN g
    · right
      refine ⟨by simp only []; rw [hq], ?_⟩
      rw [← hq] at d2
      exact unrankL_less (n := g.bonusOf.toNat) (m := g.bonusOf.toNat) (w := 1) (by omega) g2 (by omega)
    · left
      have : r / bonusN g ≤ (r + 1) / bonusN g := Nat.div_le_div_right (by omega)
      exact unrankL_less (n := g.of.toNat) (m := g.of.toNat) (w := 1) (by omega) g1 (by omega)

theorem countG_le {g : GameD} (he : gameE g = 0) : countG g ≤ 2604058991523589600 := by
  have hf := mat_facts (game_mat he)
  by_cases hk : g.kind = 2
  · have : countG g = g.of.toNat ^ g.main.toNat := if_pos hk
    rw [this]
    exact Nat.le_trans (pow_ten (by omega) (by omega)) (by omega)
  · have hc : countG g = choose g.of.toNat g.main.toNat * bonusN g := if_neg hk
    have b1 : choose g.of.toNat g.main.toNat ≤ 1646492110120 := choose_main (by omega) (by omega)
    have b2 : bonusN g ≤ 1581580 := choose_bonus (by omega) (by omega)
    rw [hc]
    exact Nat.mul_le_mul b1 b2

/-- The line with the rank of a valid line is its canonical form. -/
theorem unrank_of_rank {g : GameD} {a b : List Int} (he : lineE g a b = 0) (hk : g.kind ≠ 2) : ∃ r : Nat, rankG g a b = (r : Int) ∧ r < countG g ∧ unrankG g r = (sortI a, sortI b) := by
  obtain ⟨c1, c2, o1, o2, o3, o4, n1, n2, l1, l2, b1, b2, r1, r2⟩ := choose_facts he hk
  refine ⟨_, if_neg hk, ?_, ?_⟩
  · have hc : countG g = choose g.of.toNat g.main.toNat * bonusN g := if_neg hk
    rw [hc]
    have : (rankL g.of.toNat 0 (sortI a) + 1) * bonusN g ≤ choose g.of.toNat g.main.toNat * bonusN g := Nat.mul_le_mul_right _ r1
    rw [Nat.add_mul] at this
    omega
  · rw [unrank_choose_eq hk]
    have hN : 0 < bonusN g := by omega
    have e1 : (rankL g.of.toNat 0 (sortI a) * bonusN g + rankL g.bonusOf.toNat 0 (sortI b)) / bonusN g = rankL g.of.toNat 0 (sortI a) := by
      rw [Nat.mul_comm, Nat.mul_add_div hN, Nat.div_eq_of_lt r2, Nat.add_zero]
    have e2 : (rankL g.of.toNat 0 (sortI a) * bonusN g + rankL g.bonusOf.toNat 0 (sortI b)) % bonusN g = rankL g.bonusOf.toNat 0 (sortI b) := by
      rw [Nat.mul_comm, Nat.mul_add_mod, Nat.mod_eq_of_lt r2]
    rw [e1, e2]
    have u1 := unrank_rankL (n := g.of.toNat) (last := 0) (by omega) c1
    have u2 := unrank_rankL (n := g.bonusOf.toNat) (last := 0) (by omega) c2
    rw [l1] at u1
    rw [l2] at u2
    rw [Nat.sub_zero, Nat.zero_add] at u1 u2
    rw [u1, u2]

theorem rankP_perm {g : GameD} {a b c d : List Int} (hk : g.kind ≠ 2) (h1 : a.Perm c) (h2 : b.Perm d) : rankP g a b = rankP g c d := by
  unfold rankP
  rw [lineE_perm h1 h2]
  have : rankG g a b = rankG g c d := by
    unfold rankG
    rw [if_neg hk, if_neg hk, sortI_congr h1, sortI_congr h2]
  rw [this]
end Go.Proofs.Ytlppomkpmnpmcaa
end

section
/- lotterylaw13.less, turned. Condition of turned: at most 1000 elements. -/
open Go.RowKit
set_option linter.unusedVariables false
set_option linter.unusedSimpArgs false
namespace Go.Proofs.Ytlppomkpmnpmcaa

theorem lessB_eq {a b : List Int} {k : Nat} (h1 : k < a.length) (h2 : k < b.length) (e : a[k] = b[k]) : lessB (a.drop k) (b.drop k) = lessB (a.drop (k + 1)) (b.drop (k + 1)) := by
  rw [List.drop_eq_getElem_cons h1, List.drop_eq_getElem_cons h2, lessB, if_pos e]
theorem lessB_ne {a b : List Int} {k : Nat} (h1 : k < a.length) (h2 : k < b.length) (e : a[k] ≠ b[k]) : lessB (a.drop k) (b.drop k) = decide (a[k] < b[k]) := by
  rw [List.drop_eq_getElem_cons h1, List.drop_eq_getElem_cons h2, lessB, if_neg e]
theorem lessB_end {a b : List Int} {k : Nat} (h : a.length ≤ k ∨ b.length ≤ k) : lessB (a.drop k) (b.drop k) = false := by
  rcases h with h | h
  · rw [List.drop_of_length_le h]; rfl
  · rw [List.drop_of_length_le h]; cases a.drop k <;> rfl

set_option maxHeartbeats 2000000 in
set_option maxRecDepth 100000 in
theorem less13_any (va vb : Value) (la lb : List Int) (w : World) (ha : Rd I64 w va la) (hb : Rd I64 w vb lb) :
    Calls Try.prog 36 #[va, vb] w (BoolB (lessB la lb) w) := by
  obtain ⟨aa, ca, rfl, hla, hca, hra⟩ := Rd.form ha
  obtain ⟨ab, cb, rfl, hlb, hcb, hrb⟩ := Rd.form hb
  have hca' : ca ≤ 9223372036854775807 := by unfold maxLen at hca; omega
  have hcb' : cb ≤ 9223372036854775807 := by unfold maxLen at hcb; omega
  obtain ⟨r, hr⟩ : ∃ r, r = lessB la lb := ⟨_, rfl⟩
  rw [← hr]
  have hst := hide (show lessB (la.drop 0) (lb.drop 0) = r by rw [hr]; simp)
  clear ha hb hr
  go_enter Try.func36, Try.ntmps36
  go_wp2
  go_loopg [5] la.length (fun gh t wr => ∃ (k d : Nat), gh = la.length - k ∧ k ≤ la.length ∧ t = .int .i64 k ∧ wr = w.drewN d ∧ Hid (lessB (la.drop k) (lb.drop k) = r))
  case atStart => exact ⟨0, 0, rfl, Nat.zero_le _, rfl, rfl, hst⟩
  case round =>
    obtain ⟨k, d, hg, hk, rfl, rfl, hrr⟩ := hrel
    replace hg := hide hg
    by_cases h1 : k < la.length
    · have g1 : decide (k < la.length) = true := decide_eq_true h1
      by_cases h2 : k < lb.length
      · have g2 : decide (k < lb.length) = true := decide_eq_true h2
        have h1' := hide h1
        obtain ⟨ba, offa, rfl, hba, hcella⟩ := hra.at_ h1
        obtain ⟨bb, offb, rfl, hbb, hcellb⟩ := hrb.at_ h2
        obtain ⟨x, hx, c1⟩ : ∃ x, x = la[k] ∧ w.cell? ⟨ba, offa + k, none⟩ = some (.int .i64 x) := ⟨_, rfl, hcella _ h1⟩
        obtain ⟨y, hy, c2⟩ : ∃ y, y = lb[k] ∧ w.cell? ⟨bb, offb + k, none⟩ = some (.int .i64 y) := ⟨_, rfl, hcellb _ h2⟩
        clear hcella hcellb
        have i1 : (0 : Int) ≤ (k : Int) := by omega
        have i2 : (k : Int) < (la.length : Int) := by omega
        have i3 : (k : Int) < (lb.length : Int) := by omega
        by_cases he : x = y
        · have hb1 : (x != y) = false := by simpa using he
          have hn := hrr.out
          rw [lessB_eq h1 h2 (by have h9 := he; rw [hx, hy] at h9; exact h9)] at hn
          replace hn := hide hn
          replace he := hide he
          replace hx := hide hx
          replace hy := hide hy
          go_wp2
          go_quiet (fail)
          go_wp2
          go_roundg (la.length - (k + 1))
          case measure => have := hg.out; have := h1'.out; omega
          case rel => exact ⟨k + 1, _, rfl, by have := h1'.out; omega, by go_num, rfl, hn⟩
        · have hb1 : (x != y) = true := by simpa using he
          have hn := hrr.out
          rw [lessB_ne h1 h2 (by have h9 := he; rw [hx, hy] at h9; exact h9)] at hn
          have hn2 : decide (x < y) = r := by rw [← hn]; have h9 := hx; rw [hx, hy]; rfl
          replace he := hide he
          replace hx := hide hx
          replace hy := hide hy
          clear hn
          go_wp2
          go_quiet (fail)
          go_wp2
          go_quiet (fail)
          go_wp2
          go_ret
          exact ⟨rfl, Bel.drN (Bel.drN (Bel.drN (Below.refl _ _) _) _) _⟩
      · have g2 : decide (k < lb.length) = false := decide_eq_false h2
        have hn := hrr.out
        rw [lessB_end (.inr (by omega))] at hn
        subst hn
        go_wp2
        go_ret
        exact ⟨rfl, Bel.drN (Below.refl _ _) _⟩
    · have g1 : decide (k < la.length) = false := decide_eq_false h1
      have hn := hrr.out
      rw [lessB_end (.inl (by omega))] at hn
      subst hn
      go_wp2
      go_ret
      exact ⟨rfl, Bel.drN (Below.refl _ _) _⟩

/-- The list that begins at element k. -/
def turnL (l : List Int) (k : Nat) : List Int := l.drop (k % l.length) ++ l.take (k % l.length)

theorem turnL_perm (l : List Int) (k : Nat) : (turnL l k).Perm l := by
  unfold turnL
  have := List.perm_append_comm (l₁ := l.drop (k % l.length)) (l₂ := l.take (k % l.length))
  rwa [List.take_append_drop] at this
theorem turnL_len (l : List Int) (k : Nat) : (turnL l k).length = l.length := (turnL_perm l k).length_eq

set_option maxHeartbeats 2000000 in
set_option maxRecDepth 100000 in
theorem turned13_any (v : Value) (l : List Int) (k : Nat) (w : World) (h : Rd I64 w v l) (hk : k ≤ 255) (hl : l.length ≤ 1000) :
    Calls Try.prog 38 #[v, .int .i64 (k : Int)] w (ListP (turnL l k) w) := by
  obtain ⟨ao, cap, rfl, hle, hmax, hrd⟩ := Rd.form h
  have hmax2 : cap ≤ 9223372036854775807 := by unfold maxLen at hmax; omega
  clear h
  by_cases h0 : l.length = 0
  · have hl0 : l = [] := List.eq_nil_of_length_eq_zero h0
    subst hl0
    have hT0 : turnL [] k = [] := by unfold turnL; simp
    rw [hT0]
    clear h0 hT0
    go_enter Try.func38, Try.ntmps38
    go_wp2
    go_ret
    exact ⟨_, rfl, by exact Rd.nil, Below.refl _ _⟩
  · obtain ⟨m, hm⟩ : ∃ m, m = k % l.length := ⟨_, rfl⟩
    have hml : m < l.length := by rw [hm]; exact Nat.mod_lt _ (by omega)
    have e1 : (k : Int) % (l.length : Int) = (m : Int) := by rw [hm]; simp
    have hT : turnL l k = l.drop m ++ l.take m := by unfold turnL; rw [← hm]
    rw [hT]
    have z1 : ((l.length : Int) == 0) = false := by rw [beq_eq_false_iff_ne]; omega
    have z2 : (l.length == 0) = false := by rw [beq_eq_false_iff_ne]; omega
    have z3 : (l.length : Int) ≠ 0 := by omega
    have hm2 : (m : Int) ≤ 1000 := by omega
    replace hm := hide hm
    replace hT := hide hT
    replace e1 := hide e1
    go_enter Try.func38, Try.ntmps38
    go_upto_region 4 with (fail)
    rw [e1.out]
    go_wp2_with (with_reducible refine wpList_slice_from (V := I64) rfl _ _ 26 rfl elemInts sizeEI ao l.length cap l ?_ rfl ?_ .i64 m ?_ ?_ ?_)
    case refine_1 => rfl
    case refine_2 => exact Rd.alloc hrd _
    case refine_3 => rfl
    case refine_4 => omega
    intro v1 hv1
    obtain ⟨a1, n1, k1, rfl⟩ := Rd.shape hv1
    go_wp2_with (with_reducible refine wpList_append_rd _ rfl _ _ 26 rfl (V := I64) (fun _ => rfl) w.heap.size 3 (.int .i64 0) 8 Try.underlying26 infoInt rfl _ [] rfl ?_ _ (l.drop m) rfl ?_ ?_ ?_ ?_ ?_)
    case refine_1 => exact Own.ofRow (m := 0) (z := .int .i64 0) (Row.new _ _ _) (Nat.le_refl _) (by omega)
    case refine_2 => exact hv1
    case refine_3 => simp; omega
    case refine_4 => simp; omega
    case refine_5 => simp
    intro v2 w2 hown2 hg2 hv2
    have bw2 : Below w.heap.size w w2 := (Bel.al (Below.refl _ _) _).grown hg2 (by simp) (fun g hg => by simp [Value.ownBlock] at hg; omega)
    have hrd2 := hrd.below bw2
    obtain ⟨a2, n2, k2, rfl⟩ := Rd.shape hown2.rd
    clear hv1 hg2 hv2
    go_wp2_with (with_reducible refine wpList_slice_to (V := I64) rfl _ _ 26 rfl elemInts sizeEI ao l.length cap l ?_ rfl ?_ .i64 m ?_ ?_ ?_)
    case refine_1 => rfl
    case refine_2 => exact hrd2
    case refine_3 => rfl
    case refine_4 => omega
    intro v3 hv3
    obtain ⟨a3, n3, k3, rfl⟩ := Rd.shape hv3
    go_wp2_with (with_reducible refine wpList_append_rd _ rfl _ _ 26 rfl (V := I64) (fun _ => rfl) w.heap.size 3 (.int .i64 0) 8 Try.underlying26 infoInt rfl _ ([] ++ l.drop m) rfl ?_ _ (l.take m) rfl ?_ ?_ ?_ ?_ ?_)
    case refine_1 => exact hown2
    case refine_2 => exact hv3
    case refine_3 => simp; omega
    case refine_4 => simp; omega
    case refine_5 => exact bw2.size
    intro v4 w4 hown4 hg4 hv4
    have bw4 := bw2.grown hg4 bw2.size (fun g hg => (hown2.lt g hg).1)
    have hrd4 : Rd I64 w4 v4 (l.drop m ++ l.take m) := by have := hown4.rd; simpa using this
    obtain ⟨a4, n4, k4, rfl⟩ := Rd.shape hrd4
    clear hown4 hown2 hg4 hv4 hT
    replace hrd4 := hide hrd4
    go_wp2
    go_ret
    exact ⟨_, rfl, hrd4.out, bw4⟩
end Go.Proofs.Ytlppomkpmnpmcaa
end

section
/- A part of the walk of MatrixRanks. A choose game. -/
open Go.RowKit
set_option linter.unusedVariables false
set_option linter.unusedSimpArgs false
namespace Go.Proofs.Ytlppomkpmnpmcaa

set_option maxHeartbeats 8000000 in
set_option maxRecDepth 100000 in
theorem ranks13_choose_next (g : GameD) (av tv : Value) (ms : List AddonM) (r : Nat) (w : World) (h : GameR w av tv ms g) (he : gameE g = 0) (hr : r < countG g) (hk : g.kind = 1) (hn : r + 1 < countG g) :
    Calls Try.prog 10 #[gameVal g av tv, .int .i64 (r : Int)] w (BoolB true w) := by
  have cC := hide (fun X (hX : GameR X av tv ms g) => mcount_any g av tv ms X hX)
  have cK := hide (fun X (hX : GameR X av tv ms g) => rcheck_any g av tv ms X hX)
  have cU := hide (fun X (hX : GameR X av tv ms g) => munrank_any g av tv ms (r : Int) X hX)
  have cU2 := hide (fun X (hX : GameR X av tv ms g) => munrank_any g av tv ms ((r : Int) + 1) X hX)
  have hcp : countP g = ((countG g : Int), 0) := if_pos he
  have hup : unrankP g (r : Int) = (unrankG g r, 0) := by
    unfold unrankP
    rw [if_neg (by simpa using he), if_neg (by omega), Int.toNat_natCast]
  rw [hcp] at cC
  rw [he] at cK
  rw [hup] at cU
  have hcg : countG g ≤ 2604058991523589600 := countG_le he
  have hle := unrank_line he hr
  have hrk := rank_unrank he hr
  have hlen := (lineE_ok.1 hle).2.1
  have hlen2 := (lineE_ok.1 hle).2.2.1
  have hf := mat_facts (game_mat he)
  have lx : (unrankG g r).1.length ≤ 1000 := by omega
  have ly : (unrankG g r).2.length ≤ 1000 := by omega
  have hso := hide (fun (hk : g.kind = 1) => unrank_sorted he (by omega) hr)
  have hrp : rankP g (unrankG g r).1 (unrankG g r).2 = ((r : Int), 0) := by
    unfold rankP
    rw [if_pos hle, hrk]
  have hh := hide h
  obtain ⟨aa, ac, rfl, hal, ham⟩ := h.1.1.shape
  obtain ⟨ta, tc, rfl, htl, htm⟩ := h.2.2.shape
  clear h
  have cR := hide (fun X u v (hX : GameR X (.slice aa ms.length ac) (.slice ta g.tiers.length tc) ms g) (hY : LineR X u v (unrankG g r).1 (unrankG g r).2) => mrank_any g (.slice aa ms.length ac) (.slice ta g.tiers.length tc) u v ms (unrankG g r).1 (unrankG g r).2 X hX hY)
  rw [hrp] at cR
  have hup2 : unrankP g ((r : Int) + 1) = (unrankG g (r + 1), 0) := by
    unfold unrankP
    rw [if_neg (by simpa using he), if_neg (by omega)]
    have : ((r : Int) + 1).toNat = r + 1 := by omega
    rw [this]
  rw [hup2] at cU2
  have hless := unrank_less he hn
  obtain ⟨⟨x2, y2⟩, hxy2⟩ : ∃ p, p = unrankG g (r + 1) := ⟨_, rfl⟩
  rw [← hxy2] at cU2 hless
  clear hup2 hxy2
  obtain ⟨⟨x, y⟩, hxy⟩ : ∃ p, p = unrankG g r := ⟨_, rfl⟩
  rw [← hxy] at cU cR hle lx ly hso hless
  replace hless := hide hless
  simp only [] at cU cR hle lx ly hso
  replace hle := hide hle
  obtain ⟨c, hcc⟩ : ∃ c, c = countG g := ⟨_, rfl⟩
  rw [← hcc] at cC hr hn hcg
  have q1 : (r : Int) < (c : Int) := by omega
  have q2 : (r : Int) + 1 < (c : Int) := by omega
  have hkb : (g.kind == 1) = true := by simpa using hk
  have hk1 := hide hk
  clear hk
  clear hcc hcp hup hrp hrk hlen hlen2 hf he hxy hr hn
  unfold gameVal
  go_enter Try.func10, Try.ntmps10
  go_upto_region 1 with (fail)
  obtain ⟨W, hW⟩ : ∃ W, W = (w.alloc (Obj.cells #[.string g.name, .int .i64 g.kind, .int .i64 g.price, .int .i64 g.main, .int .i64 g.of, .int .i64 g.bonus, .int .i64 g.bonusOf, .int .i64 g.extra, .int .i64 g.draws, .int .i64 g.system, .int .i64 g.days, .int .i64 g.at_, .int .i64 g.close, .int .i64 g.cancel, .int .i64 g.expiry, .int .i64 g.pool, .int .i64 g.reserve, .int .i64 g.round, .int .i64 g.cap, .int .i64 g.rolls, (.slice aa ms.length ac), (.slice ta g.tiers.length tc)] 25)) := ⟨_, rfl⟩
  have bW : Below w.heap.size w W := by rw [hW]; exact Bel.al (Below.refl _ _) _
  have r0 : GameAt W (w.heap.size) g ((.slice aa ms.length ac)) ((.slice ta g.tiers.length tc)) := by rw [hW]; exact Row.new _ _ _
  have sW : w.heap.size < W.heap.size := by rw [hW]; simp
  rw [← hW]
  clear hW
  go_wp2_with (first | (refine wpList_load_row rfl 25 _ rfl _ rfl _ _ _ _ r0 Try.underlying25 rfl (by kernel_rfl) ?_) | fail)
  refine (cC.out _ (hh.out.below bW)).mono ?_
  rintro e w1 ⟨rfl, hb1⟩
  have B1 := Bel.to bW hb1
  have r0 := r0.keep hb1
  clear hb1 bW
  go_wp2_with (first | (refine wpList_load_row rfl 25 _ rfl _ rfl _ _ _ _ r0 Try.underlying25 rfl (by kernel_rfl) ?_) | fail)
  refine (cK.out _ (hh.out.below B1)).mono ?_
  rintro e w2 ⟨s, rfl, hb2⟩
  have B2 := Bel.to B1 hb2
  have r0 := r0.keep hb2
  clear hb2 B1
  go_wp2_with (first | (refine wpList_load_row rfl 25 _ rfl _ rfl _ _ _ _ r0 Try.underlying25 rfl (by kernel_rfl) ?_) | fail)
  refine (cU.out _ (hh.out.below B2)).mono ?_
  rintro e w3 ⟨u, v, rfl, ⟨hu, hv⟩, hb3⟩
  obtain ⟨u1, u2, u3, rfl⟩ := Rd.shape hu
  obtain ⟨v1, v2, v3, rfl⟩ := Rd.shape hv
  unfold lineVal
  have B3 := Bel.to B2 hb3
  have r0 := r0.keep hb3
  clear hb3 B2
  go_upto_region 6 with (fail)
  obtain ⟨A, hA⟩ : ∃ A, A = (w3.alloc (Obj.cells #[(.slice u1 u2 u3), (.slice v1 v2 v3)] 35)) := ⟨_, rfl⟩
  have bA : Below w3.heap.size w3 A := by rw [hA]; exact Bel.al (Below.refl _ _) _
  have rA0 : LineAt A (w3.heap.size) ((.slice u1 u2 u3)) ((.slice v1 v2 v3)) := by rw [hA]; exact Row.new _ _ _
  have sA : w3.heap.size < A.heap.size := by rw [hA]; simp
  rw [← hA]
  clear hA
  have B4 := Bel.to B3 bA
  have r0 := r0.keep bA
  have hu := hu.below bA
  have hv := hv.below bA
  clear bA B3
  have d1 := r0.kind
  go_wp2_with (first | (refine wpList_load_row rfl 25 _ rfl _ rfl _ _ _ _ r0 Try.underlying25 rfl (by kernel_rfl) ?_) | (refine wpList_load_row rfl 35 _ rfl _ rfl _ _ _ _ rA0 Try.underlying35 rfl (by kernel_rfl) ?_) | fail)
  refine (cR.out _ _ _ (hh.out.below B4) ⟨hu, hv⟩).mono ?_
  rintro e w4 ⟨rfl, hb4⟩
  have B5 := Bel.to B4 hb4
  have r0 := r0.keep hb4
  have rA0 := rA0.keep hb4
  have hu := hu.below hb4
  have hv := hv.below hb4
  clear hb4 d1 cR
  have cL := hide (mlcheck_any g (.slice aa ms.length ac) (.slice ta g.tiers.length tc) _ _ ms x y _ (hh.out.below B5) ⟨hu, hv⟩)
  rw [hle.out] at cL
  go_wp2_with (first | ((refine wpList_load_row_if ?_ 25 _ rfl _ ?_ _ _ _ r0 Try.underlying25 rfl (by kernel_rfl) ?_); (rfl); (rfl)) | ((refine wpList_load_row_if ?_ 35 _ rfl _ ?_ _ _ _ rA0 Try.underlying35 rfl (by kernel_rfl) ?_); (rfl); (rfl)) | fail)
  refine cL.out.mono ?_
  rintro e w5 ⟨rfl, hb5⟩
  have B6 : Below w.heap.size w w5.drew := Bel.to (Bel.to B5 hb5) (Below.drewSelf _)
  have r0 := GameAt.drew (r0.keep hb5)
  have rA0 := LineAt.drew (rA0.keep hb5)
  have hu := Rd.drew (hu.below hb5)
  have hv := Rd.drew (hv.below hb5)
  clear hb5 B5 cL
  go_upto_region 11 with (fail)
  refine wp_region_held_drew (S := fun X => Rng X [(w.heap.size, gameCells g (.slice aa ms.length ac) (.slice ta g.tiers.length tc)), (w3.heap.size, [.slice u1 u2 u3, .slice v1 v2 v3])]) (by kernel_rfl) (Rng.cons r0 (Rng.cons rA0 (Rng.nil _))) (fun hHeld => ?_)
  refine' wpAnyH_take (i := 0) (oi := _) (v := .pointer (some ⟨w.heap.size, 1, none⟩)) rfl (by kernel_rfl) (by kernel_rfl) (by kernel_rfl) (fun _ _ _ h => h) (Or.inl ⟨by rfl, fun X _ => by go_simp⟩) hHeld ?_
  try simp only [Act.put, List.setIfInBounds_toArray, List.set_cons_zero, List.set_cons_succ]
  refine' wpAnyH_take (i := 1) (oi := _) (v := .int .i64 g.kind) rfl (by kernel_rfl) (by kernel_rfl) (by kernel_rfl) (fun _ _ _ h => h) (Or.inl ⟨by rfl, fun X hX => by have cX := Rng.cell0 hX 1 _ rfl; go_simp⟩) hHeld ?_
  try simp only [Act.put, List.setIfInBounds_toArray, List.set_cons_zero, List.set_cons_succ]
  refine' wpAnyH_take (i := 2) (oi := _) (v := .bool true) rfl (by kernel_rfl) (by kernel_rfl) (by kernel_rfl) (fun _ _ _ h => h) (Or.inl ⟨by rfl, fun X _ => by go_simp⟩) hHeld ?_
  try simp only [Act.put, List.setIfInBounds_toArray, List.set_cons_zero, List.set_cons_succ]
  refine' wpAnyH_take (i := 3) (oi := _) (v := .bool true) rfl (by kernel_rfl) (by kernel_rfl) (by kernel_rfl) (fun _ _ _ h => h) (Or.inl ⟨by rfl, fun X _ => by go_simp⟩) hHeld ?_
  try simp only [Act.put, List.setIfInBounds_toArray, List.set_cons_zero, List.set_cons_succ]
  refine' wpAnyH_take (i := 4) (oi := _) (v := _) rfl (by kernel_rfl) (by kernel_rfl) (by kernel_rfl) (fun _ _ _ h => h) (yieldsIf_load_mid (by first | (go_simp; done) | rfl) 35 _ rfl _ _ rfl ([.slice u1 u2 u3, .slice v1 v2 v3]) _ (fun X h => Rng.at1 h) Try.underlying35 rfl (by kernel_rfl)) hHeld ?_
  try simp only [Act.put, List.setIfInBounds_toArray, List.set_cons_zero, List.set_cons_succ]
  refine' wpAnyH_take (i := 6) (oi := _) (v := _) rfl (by kernel_rfl) (by kernel_rfl) (by kernel_rfl) (fun _ _ _ h => h) (yieldsIf_load_mid (by first | (go_simp; done) | rfl) 35 _ rfl _ _ rfl ([.slice u1 u2 u3, .slice v1 v2 v3]) _ (fun X h => Rng.at1 h) Try.underlying35 rfl (by kernel_rfl)) hHeld ?_
  try simp only [Act.put, List.setIfInBounds_toArray, List.set_cons_zero, List.set_cons_succ]
  refine wpAnyH_ready (rs := [5]) (by kernel_rfl) (by simp) ?_
  refine AllReadyH.cons (o := _) rfl (fun K hK => ?_) AllReadyH.nil
  go_simp
  refine (mcanon_any _ _ x y _ ⟨hu, hv⟩ lx ly).mono ?_
  rintro e w6 ⟨p, q, rfl, ⟨hp, hq⟩, hb6⟩
  obtain ⟨p1, p2, p3, rfl⟩ := Rd.shape hp
  obtain ⟨q1, q2, q3, rfl⟩ := Rd.shape hq
  have B7 := Bel.to B6 hb6
  have r0 := r0.keep hb6
  have rA0 := rA0.keep hb6
  have hu := hu.below hb6
  have hv := hv.below hb6
  rw [(hso.out hk1.out).1] at hp
  rw [(hso.out hk1.out).2] at hq
  have cS := same13_self _ _ _ _ x y w6 ⟨hp, hq⟩ ⟨hu, hv⟩
  replace cS := hide cS
  unfold lineVal at cS ⊢
  go_wp2_with fail
  refine hK.out _ _ (hHeld.keep hb6) (fun hHeld => ?_)
  clear hK K
  try simp only [Act.put, List.setIfInBounds_toArray, List.set_cons_zero, List.set_cons_succ]
  refine wpAnyH_ready (rs := [7]) (by kernel_rfl) (by simp) ?_
  refine AllReadyH.cons (o := _) rfl (fun K hK => ?_) AllReadyH.nil
  go_simp
  refine (cS.out).mono ?_
  rintro e w7 ⟨rfl, hb7⟩
  have B7 := Bel.to B7 hb7
  have r0 := r0.keep hb7
  have rA0 := rA0.keep hb7
  have hu := hu.below hb7
  have hv := hv.below hb7
  clear cS hp hq
  go_wp2_with fail
  refine hK.out _ _ (hHeld.keep hb7) (fun hHeld => ?_)
  clear hK K
  try simp only [Act.put, List.setIfInBounds_toArray, List.set_cons_zero, List.set_cons_succ]
  refine' wpAnyH_take (i := 8) (oi := _) (v := .bool false) rfl (by kernel_rfl) (by kernel_rfl) (by kernel_rfl) (fun _ _ _ h => h) (Or.inl ⟨by rfl, fun X _ => by go_simp⟩) hHeld ?_
  try simp only [Act.put, List.setIfInBounds_toArray, List.set_cons_zero, List.set_cons_succ]
  refine' wpAnyH_take (i := 9) (oi := _) (v := .bool false) rfl (by kernel_rfl) (by kernel_rfl) (by kernel_rfl) (fun _ _ _ h => h) (Or.inl ⟨by rfl, fun X _ => by go_simp⟩) hHeld ?_
  try simp only [Act.put, List.setIfInBounds_toArray, List.set_cons_zero, List.set_cons_succ]
  refine wpAnyH_done (by kernel_rfl) ?_ _
  go_simp
  clear hHeld
  go_wp2_with (first | (refine wpList_load_row rfl 25 _ rfl _ rfl _ _ _ _ r0 Try.underlying25 rfl (by kernel_rfl) ?_) | fail)
  refine (cU2.out _ (hh.out.below B7)).mono ?_
  rintro e w8 ⟨p, q, rfl, ⟨hp, hq⟩, hb8⟩
  obtain ⟨p1, p2, p3, rfl⟩ := Rd.shape hp
  obtain ⟨q1, q2, q3, rfl⟩ := Rd.shape hq
  unfold lineVal
  have B8 := Bel.to B7 hb8
  have rA0 := rA0.keep hb8
  have hu := hu.below hb8
  have hv := hv.below hb8
  clear hb8 B7
  go_upto_region 15 with (fail)
  obtain ⟨Z, hZ⟩ : ∃ Z, Z = (w8.alloc (Obj.cells #[(.slice p1 p2 p3), (.slice q1 q2 q3)] 35)) := ⟨_, rfl⟩
  have bZ : Below w8.heap.size w8 Z := by rw [hZ]; exact Bel.al (Below.refl _ _) _
  have rZ0 : LineAt Z (w8.heap.size) ((.slice p1 p2 p3)) ((.slice q1 q2 q3)) := by rw [hZ]; exact Row.new _ _ _
  have sZ : w8.heap.size < Z.heap.size := by rw [hZ]; simp
  rw [← hZ]
  clear hZ
  have B8 := Bel.to B8 bZ
  have rA0 := rA0.keep bZ
  have hu := hu.below bZ
  have hv := hv.below bZ
  have hp := hp.below bZ
  have hq := hq.below bZ
  clear bZ
  have l0 := rA0.main
  have k0 := rZ0.main
  have cL1 := less13_any _ _ x x2 Z hu hp
  rcases hless.out with hl1 | ⟨hl1, hl2⟩
  · rw [hl1] at cL1
    replace cL1 := hide cL1
    replace hl1 := hide hl1
    go_wp2_with fail
    refine cL1.out.mono ?_
    rintro e w9 ⟨rfl, hb9⟩
    clear cL1
    go_wp2_with fail
    refine (awake13_any _).mono ?_
    rintro e w10 ⟨rfl, hb10⟩
    go_wp2
    go_ret
    exact ⟨rfl, Bel.to (Bel.to B8 hb9) hb10⟩
  · obtain ⟨pb, hpb⟩ : ∃ b, b = lessB x x2 := ⟨_, rfl⟩
    rw [← hpb] at cL1
    have cE := hide (fun X (hX : Below Z.heap.size Z X) => ints13 _ _ x x2 X (hu.below hX) (hp.below hX))
    rw [decide_eq_true hl1] at cE
    have cL2 := hide (fun X (hX : Below Z.heap.size Z X) => less13_any _ _ y y2 X (hv.below hX) (hq.below hX))
    rw [hl2] at cL2
    replace cL1 := hide cL1
    replace hpb := hide hpb
    replace hl1 := hide hl1
    replace hl2 := hide hl2
    go_wp2_with fail
    refine cL1.out.mono ?_
    rintro e w9 ⟨rfl, hb9⟩
    have l0 := Bel.cellOf hb9 l0
    have k0 := Bel.cellOf hb9 k0
    have B9 := Bel.to B8 hb9
    clear cL1
    cases pb
    · go_wp2_with fail
      refine (cE.out _ hb9).mono ?_
      rintro e w10 ⟨rfl, hb10⟩
      have l1 := (rA0.keep (Bel.to hb9 hb10)).bonus
      have k1 := (rZ0.keep (Bel.to hb9 hb10)).bonus
      have B10 := Bel.to B9 hb10
      go_wp2_with fail
      refine (cL2.out _ (Bel.to hb9 hb10)).mono ?_
      rintro e w11 ⟨rfl, hb11⟩
      have B11 := Bel.to B10 hb11
      go_wp2_with fail
      refine (awake13_any _).mono ?_
      rintro e w12 ⟨rfl, hb12⟩
      go_wp2
      go_ret
      exact ⟨rfl, Bel.to B11 hb12⟩
    · go_wp2_with fail
      refine (awake13_any _).mono ?_
      rintro e w12 ⟨rfl, hb12⟩
      go_wp2
      go_ret
      exact ⟨rfl, Bel.to B9 hb12⟩
end Go.Proofs.Ytlppomkpmnpmcaa
end

section
/- A part of the walk of MatrixRanks. A choose game. -/
open Go.RowKit
set_option linter.unusedVariables false
set_option linter.unusedSimpArgs false
namespace Go.Proofs.Ytlppomkpmnpmcaa

set_option maxHeartbeats 8000000 in
set_option maxRecDepth 100000 in
theorem ranks13_choose_last (g : GameD) (av tv : Value) (ms : List AddonM) (r : Nat) (w : World) (h : GameR w av tv ms g) (he : gameE g = 0) (hr : r < countG g) (hk : g.kind = 1) (hn : ¬ r + 1 < countG g) :
    Calls Try.prog 10 #[gameVal g av tv, .int .i64 (r : Int)] w (BoolB true w) := by
  have cC := hide (fun X (hX : GameR X av tv ms g) => mcount_any g av tv ms X hX)
  have cK := hide (fun X (hX : GameR X av tv ms g) => rcheck_any g av tv ms X hX)
  have cU := hide (fun X (hX : GameR X av tv ms g) => munrank_any g av tv ms (r : Int) X hX)
  have cU2 := hide (fun X (hX : GameR X av tv ms g) => munrank_any g av tv ms ((r : Int) + 1) X hX)
  have hcp : countP g = ((countG g : Int), 0) := if_pos he
  have hup : unrankP g (r : Int) = (unrankG g r, 0) := by
    unfold unrankP
    rw [if_neg (by simpa using he), if_neg (by omega), Int.toNat_natCast]
  rw [hcp] at cC
  rw [he] at cK
  rw [hup] at cU
  have hcg : countG g ≤ 2604058991523589600 := countG_le he
  have hle := unrank_line he hr
  have hrk := rank_unrank he hr
  have hlen := (lineE_ok.1 hle).2.1
  have hlen2 := (lineE_ok.1 hle).2.2.1
  have hf := mat_facts (game_mat he)
  have lx : (unrankG g r).1.length ≤ 1000 := by omega
  have ly : (unrankG g r).2.length ≤ 1000 := by omega
  have hso := hide (fun (hk : g.kind = 1) => unrank_sorted he (by omega) hr)
  have hrp : rankP g (unrankG g r).1 (unrankG g r).2 = ((r : Int), 0) := by
    unfold rankP
    rw [if_pos hle, hrk]
  have hh := hide h
  obtain ⟨aa, ac, rfl, hal, ham⟩ := h.1.1.shape
  obtain ⟨ta, tc, rfl, htl, htm⟩ := h.2.2.shape
  clear h
  have cR := hide (fun X u v (hX : GameR X (.slice aa ms.length ac) (.slice ta g.tiers.length tc) ms g) (hY : LineR X u v (unrankG g r).1 (unrankG g r).2) => mrank_any g (.slice aa ms.length ac) (.slice ta g.tiers.length tc) u v ms (unrankG g r).1 (unrankG g r).2 X hX hY)
  rw [hrp] at cR
  obtain ⟨⟨x, y⟩, hxy⟩ : ∃ p, p = unrankG g r := ⟨_, rfl⟩
  rw [← hxy] at cU cR hle lx ly hso 
  skip
  simp only [] at cU cR hle lx ly hso
  replace hle := hide hle
  obtain ⟨c, hcc⟩ : ∃ c, c = countG g := ⟨_, rfl⟩
  rw [← hcc] at cC hr hn hcg
  have q1 : (r : Int) < (c : Int) := by omega
  have q2 : ¬ (r : Int) + 1 < (c : Int) := by omega
  have hkb : (g.kind == 1) = true := by simpa using hk
  have hk1 := hide hk
  clear hk
  clear hcc hcp hup hrp hrk hlen hlen2 hf he hxy hr hn
  unfold gameVal
  go_enter Try.func10, Try.ntmps10
  go_upto_region 1 with (fail)
  obtain ⟨W, hW⟩ : ∃ W, W = (w.alloc (Obj.cells #[.string g.name, .int .i64 g.kind, .int .i64 g.price, .int .i64 g.main, .int .i64 g.of, .int .i64 g.bonus, .int .i64 g.bonusOf, .int .i64 g.extra, .int .i64 g.draws, .int .i64 g.system, .int .i64 g.days, .int .i64 g.at_, .int .i64 g.close, .int .i64 g.cancel, .int .i64 g.expiry, .int .i64 g.pool, .int .i64 g.reserve, .int .i64 g.round, .int .i64 g.cap, .int .i64 g.rolls, (.slice aa ms.length ac), (.slice ta g.tiers.length tc)] 25)) := ⟨_, rfl⟩
  have bW : Below w.heap.size w W := by rw [hW]; exact Bel.al (Below.refl _ _) _
  have r0 : GameAt W (w.heap.size) g ((.slice aa ms.length ac)) ((.slice ta g.tiers.length tc)) := by rw [hW]; exact Row.new _ _ _
  have sW : w.heap.size < W.heap.size := by rw [hW]; simp
  rw [← hW]
  clear hW
  go_wp2_with (first | (refine wpList_load_row rfl 25 _ rfl _ rfl _ _ _ _ r0 Try.underlying25 rfl (by kernel_rfl) ?_) | fail)
  refine (cC.out _ (hh.out.below bW)).mono ?_
  rintro e w1 ⟨rfl, hb1⟩
  have B1 := Bel.to bW hb1
  have r0 := r0.keep hb1
  clear hb1 bW
  go_wp2_with (first | (refine wpList_load_row rfl 25 _ rfl _ rfl _ _ _ _ r0 Try.underlying25 rfl (by kernel_rfl) ?_) | fail)
  refine (cK.out _ (hh.out.below B1)).mono ?_
  rintro e w2 ⟨s, rfl, hb2⟩
  have B2 := Bel.to B1 hb2
  have r0 := r0.keep hb2
  clear hb2 B1
  go_wp2_with (first | (refine wpList_load_row rfl 25 _ rfl _ rfl _ _ _ _ r0 Try.underlying25 rfl (by kernel_rfl) ?_) | fail)
  refine (cU.out _ (hh.out.below B2)).mono ?_
  rintro e w3 ⟨u, v, rfl, ⟨hu, hv⟩, hb3⟩
  obtain ⟨u1, u2, u3, rfl⟩ := Rd.shape hu
  obtain ⟨v1, v2, v3, rfl⟩ := Rd.shape hv
  unfold lineVal
  have B3 := Bel.to B2 hb3
  have r0 := r0.keep hb3
  clear hb3 B2
  go_upto_region 6 with (fail)
  obtain ⟨A, hA⟩ : ∃ A, A = (w3.alloc (Obj.cells #[(.slice u1 u2 u3), (.slice v1 v2 v3)] 35)) := ⟨_, rfl⟩
  have bA : Below w3.heap.size w3 A := by rw [hA]; exact Bel.al (Below.refl _ _) _
  have rA0 : LineAt A (w3.heap.size) ((.slice u1 u2 u3)) ((.slice v1 v2 v3)) := by rw [hA]; exact Row.new _ _ _
  have sA : w3.heap.size < A.heap.size := by rw [hA]; simp
  rw [← hA]
  clear hA
  have B4 := Bel.to B3 bA
  have r0 := r0.keep bA
  have hu := hu.below bA
  have hv := hv.below bA
  clear bA B3
  have d1 := r0.kind
  go_wp2_with (first | (refine wpList_load_row rfl 25 _ rfl _ rfl _ _ _ _ r0 Try.underlying25 rfl (by kernel_rfl) ?_) | (refine wpList_load_row rfl 35 _ rfl _ rfl _ _ _ _ rA0 Try.underlying35 rfl (by kernel_rfl) ?_) | fail)
  refine (cR.out _ _ _ (hh.out.below B4) ⟨hu, hv⟩).mono ?_
  rintro e w4 ⟨rfl, hb4⟩
  have B5 := Bel.to B4 hb4
  have r0 := r0.keep hb4
  have rA0 := rA0.keep hb4
  have hu := hu.below hb4
  have hv := hv.below hb4
  clear hb4 d1 cR
  have cL := hide (mlcheck_any g (.slice aa ms.length ac) (.slice ta g.tiers.length tc) _ _ ms x y _ (hh.out.below B5) ⟨hu, hv⟩)
  rw [hle.out] at cL
  go_wp2_with (first | ((refine wpList_load_row_if ?_ 25 _ rfl _ ?_ _ _ _ r0 Try.underlying25 rfl (by kernel_rfl) ?_); (rfl); (rfl)) | ((refine wpList_load_row_if ?_ 35 _ rfl _ ?_ _ _ _ rA0 Try.underlying35 rfl (by kernel_rfl) ?_); (rfl); (rfl)) | fail)
  refine cL.out.mono ?_
  rintro e w5 ⟨rfl, hb5⟩
  have B6 : Below w.heap.size w w5.drew := Bel.to (Bel.to B5 hb5) (Below.drewSelf _)
  have r0 := GameAt.drew (r0.keep hb5)
  have rA0 := LineAt.drew (rA0.keep hb5)
  have hu := Rd.drew (hu.below hb5)
  have hv := Rd.drew (hv.below hb5)
  clear hb5 B5 cL
  go_upto_region 11 with (fail)
  refine wp_region_held_drew (S := fun X => Rng X [(w.heap.size, gameCells g (.slice aa ms.length ac) (.slice ta g.tiers.length tc)), (w3.heap.size, [.slice u1 u2 u3, .slice v1 v2 v3])]) (by kernel_rfl) (Rng.cons r0 (Rng.cons rA0 (Rng.nil _))) (fun hHeld => ?_)
  refine' wpAnyH_take (i := 0) (oi := _) (v := .pointer (some ⟨w.heap.size, 1, none⟩)) rfl (by kernel_rfl) (by kernel_rfl) (by kernel_rfl) (fun _ _ _ h => h) (Or.inl ⟨by rfl, fun X _ => by go_simp⟩) hHeld ?_
  try simp only [Act.put, List.setIfInBounds_toArray, List.set_cons_zero, List.set_cons_succ]
  refine' wpAnyH_take (i := 1) (oi := _) (v := .int .i64 g.kind) rfl (by kernel_rfl) (by kernel_rfl) (by kernel_rfl) (fun _ _ _ h => h) (Or.inl ⟨by rfl, fun X hX => by have cX := Rng.cell0 hX 1 _ rfl; go_simp⟩) hHeld ?_
  try simp only [Act.put, List.setIfInBounds_toArray, List.set_cons_zero, List.set_cons_succ]
  refine' wpAnyH_take (i := 2) (oi := _) (v := .bool true) rfl (by kernel_rfl) (by kernel_rfl) (by kernel_rfl) (fun _ _ _ h => h) (Or.inl ⟨by rfl, fun X _ => by go_simp⟩) hHeld ?_
  try simp only [Act.put, List.setIfInBounds_toArray, List.set_cons_zero, List.set_cons_succ]
  refine' wpAnyH_take (i := 3) (oi := _) (v := .bool true) rfl (by kernel_rfl) (by kernel_rfl) (by kernel_rfl) (fun _ _ _ h => h) (Or.inl ⟨by rfl, fun X _ => by go_simp⟩) hHeld ?_
  try simp only [Act.put, List.setIfInBounds_toArray, List.set_cons_zero, List.set_cons_succ]
  refine' wpAnyH_take (i := 4) (oi := _) (v := _) rfl (by kernel_rfl) (by kernel_rfl) (by kernel_rfl) (fun _ _ _ h => h) (yieldsIf_load_mid (by first | (go_simp; done) | rfl) 35 _ rfl _ _ rfl ([.slice u1 u2 u3, .slice v1 v2 v3]) _ (fun X h => Rng.at1 h) Try.underlying35 rfl (by kernel_rfl)) hHeld ?_
  try simp only [Act.put, List.setIfInBounds_toArray, List.set_cons_zero, List.set_cons_succ]
  refine' wpAnyH_take (i := 6) (oi := _) (v := _) rfl (by kernel_rfl) (by kernel_rfl) (by kernel_rfl) (fun _ _ _ h => h) (yieldsIf_load_mid (by first | (go_simp; done) | rfl) 35 _ rfl _ _ rfl ([.slice u1 u2 u3, .slice v1 v2 v3]) _ (fun X h => Rng.at1 h) Try.underlying35 rfl (by kernel_rfl)) hHeld ?_
  try simp only [Act.put, List.setIfInBounds_toArray, List.set_cons_zero, List.set_cons_succ]
  refine wpAnyH_ready (rs := [5]) (by kernel_rfl) (by simp) ?_
  refine AllReadyH.cons (o := _) rfl (fun K hK => ?_) AllReadyH.nil
  go_simp
  refine (mcanon_any _ _ x y _ ⟨hu, hv⟩ lx ly).mono ?_
  rintro e w6 ⟨p, q, rfl, ⟨hp, hq⟩, hb6⟩
  obtain ⟨p1, p2, p3, rfl⟩ := Rd.shape hp
  obtain ⟨q1, q2, q3, rfl⟩ := Rd.shape hq
  have B7 := Bel.to B6 hb6
  have r0 := r0.keep hb6
  have rA0 := rA0.keep hb6
  have hu := hu.below hb6
  have hv := hv.below hb6
  rw [(hso.out hk1.out).1] at hp
  rw [(hso.out hk1.out).2] at hq
  have cS := same13_self _ _ _ _ x y w6 ⟨hp, hq⟩ ⟨hu, hv⟩
  replace cS := hide cS
  unfold lineVal at cS ⊢
  go_wp2_with fail
  refine hK.out _ _ (hHeld.keep hb6) (fun hHeld => ?_)
  clear hK K
  try simp only [Act.put, List.setIfInBounds_toArray, List.set_cons_zero, List.set_cons_succ]
  refine wpAnyH_ready (rs := [7]) (by kernel_rfl) (by simp) ?_
  refine AllReadyH.cons (o := _) rfl (fun K hK => ?_) AllReadyH.nil
  go_simp
  refine (cS.out).mono ?_
  rintro e w7 ⟨rfl, hb7⟩
  have B7 := Bel.to B7 hb7
  have r0 := r0.keep hb7
  have rA0 := rA0.keep hb7
  have hu := hu.below hb7
  have hv := hv.below hb7
  clear cS hp hq
  go_wp2_with fail
  refine hK.out _ _ (hHeld.keep hb7) (fun hHeld => ?_)
  clear hK K
  try simp only [Act.put, List.setIfInBounds_toArray, List.set_cons_zero, List.set_cons_succ]
  refine' wpAnyH_take (i := 8) (oi := _) (v := .bool false) rfl (by kernel_rfl) (by kernel_rfl) (by kernel_rfl) (fun _ _ _ h => h) (Or.inl ⟨by rfl, fun X _ => by go_simp⟩) hHeld ?_
  try simp only [Act.put, List.setIfInBounds_toArray, List.set_cons_zero, List.set_cons_succ]
  refine' wpAnyH_take (i := 9) (oi := _) (v := .bool false) rfl (by kernel_rfl) (by kernel_rfl) (by kernel_rfl) (fun _ _ _ h => h) (Or.inl ⟨by rfl, fun X _ => by go_simp⟩) hHeld ?_
  try simp only [Act.put, List.setIfInBounds_toArray, List.set_cons_zero, List.set_cons_succ]
  refine wpAnyH_done (by kernel_rfl) ?_ _
  go_simp
  clear hHeld
  go_wp2_with fail
  refine (awake13_any _).mono ?_
  rintro e w12 ⟨rfl, hb12⟩
  go_wp2
  go_ret
  exact ⟨rfl, Bel.to B7 hb12⟩
end Go.Proofs.Ytlppomkpmnpmcaa
end

section
/- A part of the walk of MatrixRanks. A game of digits. -/
open Go.RowKit
set_option linter.unusedVariables false
set_option linter.unusedSimpArgs false
namespace Go.Proofs.Ytlppomkpmnpmcaa

set_option maxHeartbeats 8000000 in
set_option maxRecDepth 100000 in
theorem ranks13_digits_next (g : GameD) (av tv : Value) (ms : List AddonM) (r : Nat) (w : World) (h : GameR w av tv ms g) (he : gameE g = 0) (hr : r < countG g) (hk : ¬ g.kind = 1) (hn : r + 1 < countG g) :
    Calls Try.prog 10 #[gameVal g av tv, .int .i64 (r : Int)] w (BoolB true w) := by
  have cC := hide (fun X (hX : GameR X av tv ms g) => mcount_any g av tv ms X hX)
  have cK := hide (fun X (hX : GameR X av tv ms g) => rcheck_any g av tv ms X hX)
  have cU := hide (fun X (hX : GameR X av tv ms g) => munrank_any g av tv ms (r : Int) X hX)
  have cU2 := hide (fun X (hX : GameR X av tv ms g) => munrank_any g av tv ms ((r : Int) + 1) X hX)
  have hcp : countP g = ((countG g : Int), 0) := if_pos he
  have hup : unrankP g (r : Int) = (unrankG g r, 0) := by
    unfold unrankP
    rw [if_neg (by simpa using he), if_neg (by omega), Int.toNat_natCast]
  rw [hcp] at cC
  rw [he] at cK
  rw [hup] at cU
  have hcg : countG g ≤ 2604058991523589600 := countG_le he
  have hle := unrank_line he hr
  have hrk := rank_unrank he hr
  have hlen := (lineE_ok.1 hle).2.1
  have hlen2 := (lineE_ok.1 hle).2.2.1
  have hf := mat_facts (game_mat he)
  have lx : (unrankG g r).1.length ≤ 1000 := by omega
  have ly : (unrankG g r).2.length ≤ 1000 := by omega
  have hso := hide (fun (hk : g.kind = 1) => unrank_sorted he (by omega) hr)
  have hrp : rankP g (unrankG g r).1 (unrankG g r).2 = ((r : Int), 0) := by
    unfold rankP
    rw [if_pos hle, hrk]
  have hh := hide h
  obtain ⟨aa, ac, rfl, hal, ham⟩ := h.1.1.shape
  obtain ⟨ta, tc, rfl, htl, htm⟩ := h.2.2.shape
  clear h
  have cR := hide (fun X u v (hX : GameR X (.slice aa ms.length ac) (.slice ta g.tiers.length tc) ms g) (hY : LineR X u v (unrankG g r).1 (unrankG g r).2) => mrank_any g (.slice aa ms.length ac) (.slice ta g.tiers.length tc) u v ms (unrankG g r).1 (unrankG g r).2 X hX hY)
  rw [hrp] at cR
  have hup2 : unrankP g ((r : Int) + 1) = (unrankG g (r + 1), 0) := by
    unfold unrankP
    rw [if_neg (by simpa using he), if_neg (by omega)]
    have : ((r : Int) + 1).toNat = r + 1 := by omega
    rw [this]
  rw [hup2] at cU2
  have hless := unrank_less he hn
  obtain ⟨⟨x2, y2⟩, hxy2⟩ : ∃ p, p = unrankG g (r + 1) := ⟨_, rfl⟩
  rw [← hxy2] at cU2 hless
  clear hup2 hxy2
  obtain ⟨⟨x, y⟩, hxy⟩ : ∃ p, p = unrankG g r := ⟨_, rfl⟩
  rw [← hxy] at cU cR hle lx ly hso hless
  replace hless := hide hless
  simp only [] at cU cR hle lx ly hso
  replace hle := hide hle
  obtain ⟨c, hcc⟩ : ∃ c, c = countG g := ⟨_, rfl⟩
  rw [← hcc] at cC hr hn hcg
  have q1 : (r : Int) < (c : Int) := by omega
  have q2 : (r : Int) + 1 < (c : Int) := by omega
  have hkb : (g.kind == 1) = false := by simpa using hk
  replace hk := hide hk
  clear hcc hcp hup hrp hrk hlen hlen2 hf he hxy hr hn
  unfold gameVal
  go_enter Try.func10, Try.ntmps10
  go_upto_region 1 with (fail)
  obtain ⟨W, hW⟩ : ∃ W, W = (w.alloc (Obj.cells #[.string g.name, .int .i64 g.kind, .int .i64 g.price, .int .i64 g.main, .int .i64 g.of, .int .i64 g.bonus, .int .i64 g.bonusOf, .int .i64 g.extra, .int .i64 g.draws, .int .i64 g.system, .int .i64 g.days, .int .i64 g.at_, .int .i64 g.close, .int .i64 g.cancel, .int .i64 g.expiry, .int .i64 g.pool, .int .i64 g.reserve, .int .i64 g.round, .int .i64 g.cap, .int .i64 g.rolls, (.slice aa ms.length ac), (.slice ta g.tiers.length tc)] 25)) := ⟨_, rfl⟩
  have bW : Below w.heap.size w W := by rw [hW]; exact Bel.al (Below.refl _ _) _
  have r0 : GameAt W (w.heap.size) g ((.slice aa ms.length ac)) ((.slice ta g.tiers.length tc)) := by rw [hW]; exact Row.new _ _ _
  have sW : w.heap.size < W.heap.size := by rw [hW]; simp
  rw [← hW]
  clear hW
  go_wp2_with (first | (refine wpList_load_row rfl 25 _ rfl _ rfl _ _ _ _ r0 Try.underlying25 rfl (by kernel_rfl) ?_) | fail)
  refine (cC.out _ (hh.out.below bW)).mono ?_
  rintro e w1 ⟨rfl, hb1⟩
  have B1 := Bel.to bW hb1
  have r0 := r0.keep hb1
  clear hb1 bW
  go_wp2_with (first | (refine wpList_load_row rfl 25 _ rfl _ rfl _ _ _ _ r0 Try.underlying25 rfl (by kernel_rfl) ?_) | fail)
  refine (cK.out _ (hh.out.below B1)).mono ?_
  rintro e w2 ⟨s, rfl, hb2⟩
  have B2 := Bel.to B1 hb2
  have r0 := r0.keep hb2
  clear hb2 B1
  go_wp2_with (first | (refine wpList_load_row rfl 25 _ rfl _ rfl _ _ _ _ r0 Try.underlying25 rfl (by kernel_rfl) ?_) | fail)
  refine (cU.out _ (hh.out.below B2)).mono ?_
  rintro e w3 ⟨u, v, rfl, ⟨hu, hv⟩, hb3⟩
  obtain ⟨u1, u2, u3, rfl⟩ := Rd.shape hu
  obtain ⟨v1, v2, v3, rfl⟩ := Rd.shape hv
  unfold lineVal
  have B3 := Bel.to B2 hb3
  have r0 := r0.keep hb3
  clear hb3 B2
  go_upto_region 6 with (fail)
  obtain ⟨A, hA⟩ : ∃ A, A = (w3.alloc (Obj.cells #[(.slice u1 u2 u3), (.slice v1 v2 v3)] 35)) := ⟨_, rfl⟩
  have bA : Below w3.heap.size w3 A := by rw [hA]; exact Bel.al (Below.refl _ _) _
  have rA0 : LineAt A (w3.heap.size) ((.slice u1 u2 u3)) ((.slice v1 v2 v3)) := by rw [hA]; exact Row.new _ _ _
  have sA : w3.heap.size < A.heap.size := by rw [hA]; simp
  rw [← hA]
  clear hA
  have B4 := Bel.to B3 bA
  have r0 := r0.keep bA
  have hu := hu.below bA
  have hv := hv.below bA
  clear bA B3
  have d1 := r0.kind
  go_wp2_with (first | (refine wpList_load_row rfl 25 _ rfl _ rfl _ _ _ _ r0 Try.underlying25 rfl (by kernel_rfl) ?_) | (refine wpList_load_row rfl 35 _ rfl _ rfl _ _ _ _ rA0 Try.underlying35 rfl (by kernel_rfl) ?_) | fail)
  refine (cR.out _ _ _ (hh.out.below B4) ⟨hu, hv⟩).mono ?_
  rintro e w4 ⟨rfl, hb4⟩
  have B5 := Bel.to B4 hb4
  have r0 := r0.keep hb4
  have rA0 := rA0.keep hb4
  have hu := hu.below hb4
  have hv := hv.below hb4
  clear hb4 d1 cR
  have cL := hide (mlcheck_any g (.slice aa ms.length ac) (.slice ta g.tiers.length tc) _ _ ms x y _ (hh.out.below B5) ⟨hu, hv⟩)
  rw [hle.out] at cL
  go_wp2_with (first | ((refine wpList_load_row_if ?_ 25 _ rfl _ ?_ _ _ _ r0 Try.underlying25 rfl (by kernel_rfl) ?_); (rfl); (rfl)) | ((refine wpList_load_row_if ?_ 35 _ rfl _ ?_ _ _ _ rA0 Try.underlying35 rfl (by kernel_rfl) ?_); (rfl); (rfl)) | fail)
  refine cL.out.mono ?_
  rintro e w5 ⟨rfl, hb5⟩
  have B6 : Below w.heap.size w w5.drew := Bel.to (Bel.to B5 hb5) (Below.drewSelf _)
  have r0 := GameAt.drew (r0.keep hb5)
  have rA0 := LineAt.drew (rA0.keep hb5)
  have hu := Rd.drew (hu.below hb5)
  have hv := Rd.drew (hv.below hb5)
  clear hb5 B5 cL
  go_upto_region 11 with (fail)
  refine wp_region_held_drew (S := fun X => Rng X [(w.heap.size, gameCells g (.slice aa ms.length ac) (.slice ta g.tiers.length tc)), (w3.heap.size, [.slice u1 u2 u3, .slice v1 v2 v3])]) (by kernel_rfl) (Rng.cons r0 (Rng.cons rA0 (Rng.nil _))) (fun hHeld => ?_)
  refine' wpAnyH_take (i := 0) (oi := _) (v := .pointer (some ⟨w.heap.size, 1, none⟩)) rfl (by kernel_rfl) (by kernel_rfl) (by kernel_rfl) (fun _ _ _ h => h) (Or.inl ⟨by rfl, fun X _ => by go_simp⟩) hHeld ?_
  try simp only [Act.put, List.setIfInBounds_toArray, List.set_cons_zero, List.set_cons_succ]
  refine' wpAnyH_take (i := 1) (oi := _) (v := .int .i64 g.kind) rfl (by kernel_rfl) (by kernel_rfl) (by kernel_rfl) (fun _ _ _ h => h) (Or.inl ⟨by rfl, fun X hX => by have cX := Rng.cell0 hX 1 _ rfl; go_simp⟩) hHeld ?_
  try simp only [Act.put, List.setIfInBounds_toArray, List.set_cons_zero, List.set_cons_succ]
  refine' wpAnyH_take (i := 2) (oi := _) (v := .bool false) rfl (by kernel_rfl) (by kernel_rfl) (by kernel_rfl) (fun _ _ _ h => h) (Or.inl ⟨by rfl, fun X _ => by go_simp⟩) hHeld ?_
  try simp only [Act.put, List.setIfInBounds_toArray, List.set_cons_zero, List.set_cons_succ]
  refine' wpAnyH_take (i := 3) (oi := _) (v := .bool false) rfl (by kernel_rfl) (by kernel_rfl) (by kernel_rfl) (fun _ _ _ h => h) (Or.inl ⟨by rfl, fun X _ => by go_simp⟩) hHeld ?_
  try simp only [Act.put, List.setIfInBounds_toArray, List.set_cons_zero, List.set_cons_succ]
  refine' wpAnyH_take (i := 4) (oi := _) (v := undef) rfl (by kernel_rfl) (by kernel_rfl) (by kernel_rfl) (fun _ _ _ h => h) (Or.inr ⟨by first | (go_simp; done) | rfl, rfl⟩) hHeld ?_
  try simp only [Act.put, List.setIfInBounds_toArray, List.set_cons_zero, List.set_cons_succ]
  refine' wpAnyH_take (i := 5) (oi := _) (v := undef) rfl (by kernel_rfl) (by kernel_rfl) (by kernel_rfl) (fun _ _ _ h => h) (Or.inr ⟨by first | (go_simp; done) | rfl, rfl⟩) hHeld ?_
  try simp only [Act.put, List.setIfInBounds_toArray, List.set_cons_zero, List.set_cons_succ]
  refine' wpAnyH_take (i := 6) (oi := _) (v := undef) rfl (by kernel_rfl) (by kernel_rfl) (by kernel_rfl) (fun _ _ _ h => h) (Or.inr ⟨by first | (go_simp; done) | rfl, rfl⟩) hHeld ?_
  try simp only [Act.put, List.setIfInBounds_toArray, List.set_cons_zero, List.set_cons_succ]
  refine' wpAnyH_take (i := 7) (oi := _) (v := undef) rfl (by kernel_rfl) (by kernel_rfl) (by kernel_rfl) (fun _ _ _ h => h) (Or.inr ⟨by first | (go_simp; done) | rfl, rfl⟩) hHeld ?_
  try simp only [Act.put, List.setIfInBounds_toArray, List.set_cons_zero, List.set_cons_succ]
  refine' wpAnyH_take (i := 8) (oi := _) (v := undef) rfl (by kernel_rfl) (by kernel_rfl) (by kernel_rfl) (fun _ _ _ h => h) (Or.inr ⟨by first | (go_simp; done) | rfl, rfl⟩) hHeld ?_
  try simp only [Act.put, List.setIfInBounds_toArray, List.set_cons_zero, List.set_cons_succ]
  refine' wpAnyH_take (i := 9) (oi := _) (v := .bool false) rfl (by kernel_rfl) (by kernel_rfl) (by kernel_rfl) (fun _ _ _ h => h) (Or.inl ⟨by rfl, fun X _ => by go_simp⟩) hHeld ?_
  try simp only [Act.put, List.setIfInBounds_toArray, List.set_cons_zero, List.set_cons_succ]
  refine wpAnyH_done (by kernel_rfl) ?_ _
  go_simp
  have B7 := B6
  clear hHeld
  go_wp2_with (first | (refine wpList_load_row rfl 25 _ rfl _ rfl _ _ _ _ r0 Try.underlying25 rfl (by kernel_rfl) ?_) | fail)
  refine (cU2.out _ (hh.out.below B7)).mono ?_
  rintro e w8 ⟨p, q, rfl, ⟨hp, hq⟩, hb8⟩
  obtain ⟨p1, p2, p3, rfl⟩ := Rd.shape hp
  obtain ⟨q1, q2, q3, rfl⟩ := Rd.shape hq
  unfold lineVal
  have B8 := Bel.to B7 hb8
  have rA0 := rA0.keep hb8
  have hu := hu.below hb8
  have hv := hv.below hb8
  clear hb8 B7
  go_upto_region 15 with (fail)
  obtain ⟨Z, hZ⟩ : ∃ Z, Z = (w8.alloc (Obj.cells #[(.slice p1 p2 p3), (.slice q1 q2 q3)] 35)) := ⟨_, rfl⟩
  have bZ : Below w8.heap.size w8 Z := by rw [hZ]; exact Bel.al (Below.refl _ _) _
  have rZ0 : LineAt Z (w8.heap.size) ((.slice p1 p2 p3)) ((.slice q1 q2 q3)) := by rw [hZ]; exact Row.new _ _ _
  have sZ : w8.heap.size < Z.heap.size := by rw [hZ]; simp
  rw [← hZ]
  clear hZ
  have B8 := Bel.to B8 bZ
  have rA0 := rA0.keep bZ
  have hu := hu.below bZ
  have hv := hv.below bZ
  have hp := hp.below bZ
  have hq := hq.below bZ
  clear bZ
  have l0 := rA0.main
  have k0 := rZ0.main
  have cL1 := less13_any _ _ x x2 Z hu hp
  rcases hless.out with hl1 | ⟨hl1, hl2⟩
  · rw [hl1] at cL1
    replace cL1 := hide cL1
    replace hl1 := hide hl1
    go_wp2_with fail
    refine cL1.out.mono ?_
    rintro e w9 ⟨rfl, hb9⟩
    clear cL1
    go_wp2_with fail
    refine (awake13_any _).mono ?_
    rintro e w10 ⟨rfl, hb10⟩
    go_wp2
    go_ret
    exact ⟨rfl, Bel.to (Bel.to B8 hb9) hb10⟩
  · obtain ⟨pb, hpb⟩ : ∃ b, b = lessB x x2 := ⟨_, rfl⟩
    rw [← hpb] at cL1
    have cE := hide (fun X (hX : Below Z.heap.size Z X) => ints13 _ _ x x2 X (hu.below hX) (hp.below hX))
    rw [decide_eq_true hl1] at cE
    have cL2 := hide (fun X (hX : Below Z.heap.size Z X) => less13_any _ _ y y2 X (hv.below hX) (hq.below hX))
    rw [hl2] at cL2
    replace cL1 := hide cL1
    replace hpb := hide hpb
    replace hl1 := hide hl1
    replace hl2 := hide hl2
    go_wp2_with fail
    refine cL1.out.mono ?_
    rintro e w9 ⟨rfl, hb9⟩
    have l0 := Bel.cellOf hb9 l0
    have k0 := Bel.cellOf hb9 k0
    have B9 := Bel.to B8 hb9
    clear cL1
    cases pb
    · go_wp2_with fail
      refine (cE.out _ hb9).mono ?_
      rintro e w10 ⟨rfl, hb10⟩
      have l1 := (rA0.keep (Bel.to hb9 hb10)).bonus
      have k1 := (rZ0.keep (Bel.to hb9 hb10)).bonus
      have B10 := Bel.to B9 hb10
      go_wp2_with fail
      refine (cL2.out _ (Bel.to hb9 hb10)).mono ?_
      rintro e w11 ⟨rfl, hb11⟩
      have B11 := Bel.to B10 hb11
      go_wp2_with fail
      refine (awake13_any _).mono ?_
      rintro e w12 ⟨rfl, hb12⟩
      go_wp2
      go_ret
      exact ⟨rfl, Bel.to B11 hb12⟩
    · go_wp2_with fail
      refine (awake13_any _).mono ?_
      rintro e w12 ⟨rfl, hb12⟩
      go_wp2
      go_ret
      exact ⟨rfl, Bel.to B9 hb12⟩
end Go.Proofs.Ytlppomkpmnpmcaa
end

section
/- A part of the walk of MatrixRanks. A game of digits. -/
open Go.RowKit
set_option linter.unusedVariables false
set_option linter.unusedSimpArgs false
namespace Go.Proofs.Ytlppomkpmnpmcaa

set_option maxHeartbeats 8000000 in
set_option maxRecDepth 100000 in
theorem ranks13_digits_last (g : GameD) (av tv : Value) (ms : List AddonM) (r : Nat) (w : World) (h : GameR w av tv ms g) (he : gameE g = 0) (hr : r < countG g) (hk : ¬ g.kind = 1) (hn : ¬ r + 1 < countG g) :
    Calls Try.prog 10 #[gameVal g av tv, .int .i64 (r : Int)] w (BoolB true w) := by
  have cC := hide (fun X (hX : GameR X av tv ms g) => mcount_any g av tv ms X hX)
  have cK := hide (fun X (hX : GameR X av tv ms g) => rcheck_any g av tv ms X hX)
  have cU := hide (fun X (hX : GameR X av tv ms g) => munrank_any g av tv ms (r : Int) X hX)
  have cU2 := hide (fun X (hX : GameR X av tv ms g) => munrank_any g av tv ms ((r : Int) + 1) X hX)
  have hcp : countP g = ((countG g : Int), 0) := if_pos he
  have hup : unrankP g (r : Int) = (unrankG g r, 0) := by
    unfold unrankP
    rw [if_neg (by simpa using he), if_neg (by omega), Int.toNat_natCast]
  rw [hcp] at cC
  rw [he] at cK
  rw [hup] at cU
  have hcg : countG g ≤ 2604058991523589600 := countG_le he
  have hle := unrank_line he hr
  have hrk := rank_unrank he hr
  have hlen := (lineE_ok.1 hle).2.1
  have hlen2 := (lineE_ok.1 hle).2.2.1
  have hf := mat_facts (game_mat he)
  have lx : (unrankG g r).1.length ≤ 1000 := by omega
  have ly : (unrankG g r).2.length ≤ 1000 := by omega
  have hso := hide (fun (hk : g.kind = 1) => unrank_sorted he (by omega) hr)
  have hrp : rankP g (unrankG g r).1 (unrankG g r).2 = ((r : Int), 0) := by
    unfold rankP
    rw [if_pos hle, hrk]
  have hh := hide h
  obtain ⟨aa, ac, rfl, hal, ham⟩ := h.1.1.shape
  obtain ⟨ta, tc, rfl, htl, htm⟩ := h.2.2.shape
  clear h
  have cR := hide (fun X u v (hX : GameR X (.slice aa ms.length ac) (.slice ta g.tiers.length tc) ms g) (hY : LineR X u v (unrankG g r).1 (unrankG g r).2) => mrank_any g (.slice aa ms.length ac) (.slice ta g.tiers.length tc) u v ms (unrankG g r).1 (unrankG g r).2 X hX hY)
  rw [hrp] at cR
  obtain ⟨⟨x, y⟩, hxy⟩ : ∃ p, p = unrankG g r := ⟨_, rfl⟩
  rw [← hxy] at cU cR hle lx ly hso 
  skip
  simp only [] at cU cR hle lx ly hso
  replace hle := hide hle
  obtain ⟨c, hcc⟩ : ∃ c, c = countG g := ⟨_, rfl⟩
  rw [← hcc] at cC hr hn hcg
  have q1 : (r : Int) < (c : Int) := by omega
  have q2 : ¬ (r : Int) + 1 < (c : Int) := by omega
  have hkb : (g.kind == 1) = false := by simpa using hk
  replace hk := hide hk
  clear hcc hcp hup hrp hrk hlen hlen2 hf he hxy hr hn
  unfold gameVal
  go_enter Try.func10, Try.ntmps10
  go_upto_region 1 with (fail)
  obtain ⟨W, hW⟩ : ∃ W, W = (w.alloc (Obj.cells #[.string g.name, .int .i64 g.kind, .int .i64 g.price, .int .i64 g.main, .int .i64 g.of, .int .i64 g.bonus, .int .i64 g.bonusOf, .int .i64 g.extra, .int .i64 g.draws, .int .i64 g.system, .int .i64 g.days, .int .i64 g.at_, .int .i64 g.close, .int .i64 g.cancel, .int .i64 g.expiry, .int .i64 g.pool, .int .i64 g.reserve, .int .i64 g.round, .int .i64 g.cap, .int .i64 g.rolls, (.slice aa ms.length ac), (.slice ta g.tiers.length tc)] 25)) := ⟨_, rfl⟩
  have bW : Below w.heap.size w W := by rw [hW]; exact Bel.al (Below.refl _ _) _
  have r0 : GameAt W (w.heap.size) g ((.slice aa ms.length ac)) ((.slice ta g.tiers.length tc)) := by rw [hW]; exact Row.new _ _ _
  have sW : w.heap.size < W.heap.size := by rw [hW]; simp
  rw [← hW]
  clear hW
  go_wp2_with (first | (refine wpList_load_row rfl 25 _ rfl _ rfl _ _ _ _ r0 Try.underlying25 rfl (by kernel_rfl) ?_) | fail)
  refine (cC.out _ (hh.out.below bW)).mono ?_
  rintro e w1 ⟨rfl, hb1⟩
  have B1 := Bel.to bW hb1
  have r0 := r0.keep hb1
  clear hb1 bW
  go_wp2_with (first | (refine wpList_load_row rfl 25 _ rfl _ rfl _ _ _ _ r0 Try.underlying25 rfl (by kernel_rfl) ?_) | fail)
  refine (cK.out _ (hh.out.below B1)).mono ?_
  rintro e w2 ⟨s, rfl, hb2⟩
  have B2 := Bel.to B1 hb2
  have r0 := r0.keep hb2
  clear hb2 B1
  go_wp2_with (first | (refine wpList_load_row rfl 25 _ rfl _ rfl _ _ _ _ r0 Try.underlying25 rfl (by kernel_rfl) ?_) | fail)
  refine (cU.out _ (hh.out.below B2)).mono ?_
  rintro e w3 ⟨u, v, rfl, ⟨hu, hv⟩, hb3⟩
  obtain ⟨u1, u2, u3, rfl⟩ := Rd.shape hu
  obtain ⟨v1, v2, v3, rfl⟩ := Rd.shape hv
  unfold lineVal
  have B3 := Bel.to B2 hb3
  have r0 := r0.keep hb3
  clear hb3 B2
  go_upto_region 6 with (fail)
  obtain ⟨A, hA⟩ : ∃ A, A = (w3.alloc (Obj.cells #[(.slice u1 u2 u3), (.slice v1 v2 v3)] 35)) := ⟨_, rfl⟩
  have bA : Below w3.heap.size w3 A := by rw [hA]; exact Bel.al (Below.refl _ _) _
  have rA0 : LineAt A (w3.heap.size) ((.slice u1 u2 u3)) ((.slice v1 v2 v3)) := by rw [hA]; exact Row.new _ _ _
  have sA : w3.heap.size < A.heap.size := by rw [hA]; simp
  rw [← hA]
  clear hA
  have B4 := Bel.to B3 bA
  have r0 := r0.keep bA
  have hu := hu.below bA
  have hv := hv.below bA
  clear bA B3
  have d1 := r0.kind
  go_wp2_with (first | (refine wpList_load_row rfl 25 _ rfl _ rfl _ _ _ _ r0 Try.underlying25 rfl (by kernel_rfl) ?_) | (refine wpList_load_row rfl 35 _ rfl _ rfl _ _ _ _ rA0 Try.underlying35 rfl (by kernel_rfl) ?_) | fail)
  refine (cR.out _ _ _ (hh.out.below B4) ⟨hu, hv⟩).mono ?_
  rintro e w4 ⟨rfl, hb4⟩
  have B5 := Bel.to B4 hb4
  have r0 := r0.keep hb4
  have rA0 := rA0.keep hb4
  have hu := hu.below hb4
  have hv := hv.below hb4
  clear hb4 d1 cR
  have cL := hide (mlcheck_any g (.slice aa ms.length ac) (.slice ta g.tiers.length tc) _ _ ms x y _ (hh.out.below B5) ⟨hu, hv⟩)
  rw [hle.out] at cL
  go_wp2_with (first | ((refine wpList_load_row_if ?_ 25 _ rfl _ ?_ _ _ _ r0 Try.underlying25 rfl (by kernel_rfl) ?_); (rfl); (rfl)) | ((refine wpList_load_row_if ?_ 35 _ rfl _ ?_ _ _ _ rA0 Try.underlying35 rfl (by kernel_rfl) ?_); (rfl); (rfl)) | fail)
  refine cL.out.mono ?_
  rintro e w5 ⟨rfl, hb5⟩
  have B6 : Below w.heap.size w w5.drew := Bel.to (Bel.to B5 hb5) (Below.drewSelf _)
  have r0 := GameAt.drew (r0.keep hb5)
  have rA0 := LineAt.drew (rA0.keep hb5)
  have hu := Rd.drew (hu.below hb5)
  have hv := Rd.drew (hv.below hb5)
  clear hb5 B5 cL
  go_upto_region 11 with (fail)
  refine wp_region_held_drew (S := fun X => Rng X [(w.heap.size, gameCells g (.slice aa ms.length ac) (.slice ta g.tiers.length tc)), (w3.heap.size, [.slice u1 u2 u3, .slice v1 v2 v3])]) (by kernel_rfl) (Rng.cons r0 (Rng.cons rA0 (Rng.nil _))) (fun hHeld => ?_)
  refine' wpAnyH_take (i := 0) (oi := _) (v := .pointer (some ⟨w.heap.size, 1, none⟩)) rfl (by kernel_rfl) (by kernel_rfl) (by kernel_rfl) (fun _ _ _ h => h) (Or.inl ⟨by rfl, fun X _ => by go_simp⟩) hHeld ?_
  try simp only [Act.put, List.setIfInBounds_toArray, List.set_cons_zero, List.set_cons_succ]
  refine' wpAnyH_take (i := 1) (oi := _) (v := .int .i64 g.kind) rfl (by kernel_rfl) (by kernel_rfl) (by kernel_rfl) (fun _ _ _ h => h) (Or.inl ⟨by rfl, fun X hX => by have cX := Rng.cell0 hX 1 _ rfl; go_simp⟩) hHeld ?_
  try simp only [Act.put, List.setIfInBounds_toArray, List.set_cons_zero, List.set_cons_succ]
  refine' wpAnyH_take (i := 2) (oi := _) (v := .bool false) rfl (by kernel_rfl) (by kernel_rfl) (by kernel_rfl) (fun _ _ _ h => h) (Or.inl ⟨by rfl, fun X _ => by go_simp⟩) hHeld ?_
  try simp only [Act.put, List.setIfInBounds_toArray, List.set_cons_zero, List.set_cons_succ]
  refine' wpAnyH_take (i := 3) (oi := _) (v := .bool false) rfl (by kernel_rfl) (by kernel_rfl) (by kernel_rfl) (fun _ _ _ h => h) (Or.inl ⟨by rfl, fun X _ => by go_simp⟩) hHeld ?_
  try simp only [Act.put, List.setIfInBounds_toArray, List.set_cons_zero, List.set_cons_succ]
  refine' wpAnyH_take (i := 4) (oi := _) (v := undef) rfl (by kernel_rfl) (by kernel_rfl) (by kernel_rfl) (fun _ _ _ h => h) (Or.inr ⟨by first | (go_simp; done) | rfl, rfl⟩) hHeld ?_
  try simp only [Act.put, List.setIfInBounds_toArray, List.set_cons_zero, List.set_cons_succ]
  refine' wpAnyH_take (i := 5) (oi := _) (v := undef) rfl (by kernel_rfl) (by kernel_rfl) (by kernel_rfl) (fun _ _ _ h => h) (Or.inr ⟨by first | (go_simp; done) | rfl, rfl⟩) hHeld ?_
  try simp only [Act.put, List.setIfInBounds_toArray, List.set_cons_zero, List.set_cons_succ]
  refine' wpAnyH_take (i := 6) (oi := _) (v := undef) rfl (by kernel_rfl) (by kernel_rfl) (by kernel_rfl) (fun _ _ _ h => h) (Or.inr ⟨by first | (go_simp; done) | rfl, rfl⟩) hHeld ?_
  try simp only [Act.put, List.setIfInBounds_toArray, List.set_cons_zero, List.set_cons_succ]
  refine' wpAnyH_take (i := 7) (oi := _) (v := undef) rfl (by kernel_rfl) (by kernel_rfl) (by kernel_rfl) (fun _ _ _ h => h) (Or.inr ⟨by first | (go_simp; done) | rfl, rfl⟩) hHeld ?_
  try simp only [Act.put, List.setIfInBounds_toArray, List.set_cons_zero, List.set_cons_succ]
  refine' wpAnyH_take (i := 8) (oi := _) (v := undef) rfl (by kernel_rfl) (by kernel_rfl) (by kernel_rfl) (fun _ _ _ h => h) (Or.inr ⟨by first | (go_simp; done) | rfl, rfl⟩) hHeld ?_
  try simp only [Act.put, List.setIfInBounds_toArray, List.set_cons_zero, List.set_cons_succ]
  refine' wpAnyH_take (i := 9) (oi := _) (v := .bool false) rfl (by kernel_rfl) (by kernel_rfl) (by kernel_rfl) (fun _ _ _ h => h) (Or.inl ⟨by rfl, fun X _ => by go_simp⟩) hHeld ?_
  try simp only [Act.put, List.setIfInBounds_toArray, List.set_cons_zero, List.set_cons_succ]
  refine wpAnyH_done (by kernel_rfl) ?_ _
  go_simp
  have B7 := B6
  clear hHeld
  go_wp2_with fail
  refine (awake13_any _).mono ?_
  rintro e w12 ⟨rfl, hb12⟩
  go_wp2
  go_ret
  exact ⟨rfl, Bel.to B7 hb12⟩
end Go.Proofs.Ytlppomkpmnpmcaa
end

section
/- The walk of the statement MatrixRanks: it returns true, whatever the game and the rank. -/
open Go.RowKit
set_option linter.unusedVariables false
set_option linter.unusedSimpArgs false
namespace Go.Proofs.Ytlppomkpmnpmcaa

set_option maxHeartbeats 4000000 in
set_option maxRecDepth 100000 in
theorem ranks13_out (g : GameD) (av tv : Value) (ms : List AddonM) (r : Int) (w : World) (h : GameR w av tv ms g) (k : Int) (n c : Int) (hcp : countP g = (n, c)) (hce : gameE g = c) (hup : unrankP g r = (([], []), k)) (hk : k ≠ 0)
    (hcase : (c != 0) = true ∨ (c != 0) = false ∧ (r < 0 ∨ 0 ≤ r ∧ n ≤ r)) :
    Calls Try.prog 10 #[gameVal g av tv, .int .i64 r] w (BoolB true w) := by
  have cC := hide (fun X (hX : GameR X av tv ms g) => mcount_any g av tv ms X hX)
  have cK := hide (fun X (hX : GameR X av tv ms g) => rcheck_any g av tv ms X hX)
  have cU := hide (fun X (hX : GameR X av tv ms g) => munrank_any g av tv ms r X hX)
  rw [hcp] at cC
  rw [hce] at cK
  rw [hup] at cU
  have hh := hide h
  obtain ⟨aa, ac, rfl, hal, ham⟩ := h.1.1.shape
  obtain ⟨ta, tc, rfl, htl, htm⟩ := h.2.2.shape
  clear h hcp hce hup
  have hkb : (k != 0) = true := by simpa using hk
  replace hk := hide hk
  have hc2 : (c != c) = false := by simp
  rcases hcase with q1 | ⟨q1, q2 | ⟨q2, q3⟩⟩
  all_goals
    try replace q3 : ¬ r < n := by omega
    unfold gameVal
    go_enter Try.func10, Try.ntmps10
    go_upto_region 1 with (fail)
    obtain ⟨W, hW⟩ : ∃ W, W = (w.alloc (Obj.cells #[.string g.name, .int .i64 g.kind, .int .i64 g.price, .int .i64 g.main, .int .i64 g.of, .int .i64 g.bonus, .int .i64 g.bonusOf, .int .i64 g.extra, .int .i64 g.draws, .int .i64 g.system, .int .i64 g.days, .int .i64 g.at_, .int .i64 g.close, .int .i64 g.cancel, .int .i64 g.expiry, .int .i64 g.pool, .int .i64 g.reserve, .int .i64 g.round, .int .i64 g.cap, .int .i64 g.rolls, (.slice aa ms.length ac), (.slice ta g.tiers.length tc)] 25)) := ⟨_, rfl⟩
    have bW : Below w.heap.size w W := by rw [hW]; exact Bel.al (Below.refl _ _) _
    have r0 : GameAt W (w.heap.size) g ((.slice aa ms.length ac)) ((.slice ta g.tiers.length tc)) := by rw [hW]; exact Row.new _ _ _
    have sW : w.heap.size < W.heap.size := by rw [hW]; simp
    rw [← hW]
    clear hW
    go_wp2_with (first | (refine wpList_load_row rfl 25 _ rfl _ rfl _ _ _ _ r0 Try.underlying25 rfl (by kernel_rfl) ?_) | fail)
    refine (cC.out _ (hh.out.below bW)).mono ?_
    rintro e w1 ⟨rfl, hb1⟩
    have B1 := Bel.to bW hb1
    have r0 := r0.keep hb1
    clear hb1 bW
    go_wp2_with (first | (refine wpList_load_row rfl 25 _ rfl _ rfl _ _ _ _ r0 Try.underlying25 rfl (by kernel_rfl) ?_) | fail)
    refine (cK.out _ (hh.out.below B1)).mono ?_
    rintro e w2 ⟨s, rfl, hb2⟩
    have B2 := Bel.to B1 hb2
    have r0 := r0.keep hb2
    clear hb2 B1
    go_wp2_with (first | (refine wpList_load_row rfl 25 _ rfl _ rfl _ _ _ _ r0 Try.underlying25 rfl (by kernel_rfl) ?_) | fail)
    refine (cU.out _ (hh.out.below B2)).mono ?_
    rintro e w3 ⟨u, v, rfl, ⟨hu, hv⟩, hb3⟩
    obtain ⟨u1, u2, u3, rfl⟩ := Rd.shape hu
    obtain ⟨v1, v2, v3, rfl⟩ := Rd.shape hv
    unfold lineVal
    have B3 := Bel.to B2 hb3
    have r0 := r0.keep hb3
    clear hb3 B2
    go_upto_region 6 with (fail)
    obtain ⟨A, hA⟩ : ∃ A, A = (w3.alloc (Obj.cells #[(.slice u1 u2 u3), (.slice v1 v2 v3)] 35)) := ⟨_, rfl⟩
    have bA : Below w3.heap.size w3 A := by rw [hA]; exact Bel.al (Below.refl _ _) _
    have rA0 : LineAt A (w3.heap.size) ((.slice u1 u2 u3)) ((.slice v1 v2 v3)) := by rw [hA]; exact Row.new _ _ _
    have sA : w3.heap.size < A.heap.size := by rw [hA]; simp
    rw [← hA]
    clear hA
    have B4 := Bel.to B3 bA
    have r0 := r0.keep bA
    have hu := hu.below bA
    have hv := hv.below bA
    clear bA B3
    have l0 := rA0.main
    have hn0 : u2 = 0 := by have := Rd.len_eq hu; simpa using this
    subst hn0
    go_wp2_with (first | (go_at_call 24; refine (awake13_any _).mono ?_; rintro e w9 ⟨rfl, hb9⟩) | fail)
    go_ret
    exact ⟨rfl, Bel.to B4 hb9⟩

theorem ranks13_any (g : GameD) (av tv : Value) (ms : List AddonM) (r : Int) (w : World) (h : GameR w av tv ms g) :
    Calls Try.prog 10 #[gameVal g av tv, .int .i64 r] w (BoolB true w) := by
  by_cases he : gameE g = 0
  · have hcp : countP g = ((countG g : Int), 0) := if_pos he
    by_cases hr : r < 0 ∨ (countG g : Int) ≤ r
    · have hup : unrankP g r = (([], []), 2) := by
        unfold unrankP
        rw [if_neg (by simpa using he), if_pos hr]
      exact ranks13_out g av tv ms r w h 2 _ 0 hcp he hup (by omega) (.inr ⟨by simp, by omega⟩)
    · obtain ⟨R, rfl⟩ := Int.eq_ofNat_of_zero_le (show 0 ≤ r by omega)
      by_cases hk : g.kind = 1
      · by_cases hn : R + 1 < countG g
        · exact ranks13_choose_next g av tv ms R w h he (by omega) hk hn
        · exact ranks13_choose_last g av tv ms R w h he (by omega) hk hn
      · by_cases hn : R + 1 < countG g
        · exact ranks13_digits_next g av tv ms R w h he (by omega) hk hn
        · exact ranks13_digits_last g av tv ms R w h he (by omega) hk hn
  · have hcp : countP g = (0, gameE g) := if_neg he
    have hup : unrankP g r = (([], []), gameE g) := by
      unfold unrankP
      rw [if_pos (by simpa using he)]
    exact ranks13_out g av tv ms r w h (gameE g) 0 (gameE g) hcp rfl hup he (.inl (by simpa using he))
end Go.Proofs.Ytlppomkpmnpmcaa
end

section
/- MatrixRanks: for every input the Go function lotterylaw13.MatrixRanks returns true, and each argument reads afterwards as before. Conditions: none. -/
namespace Go.Proofs.Ytlppomkpmnpmcaa.matrixRanks
open Go.ChangeShapes Go.WideShapes Go.ChangeAt Go.RowKit
set_option linter.unusedVariables false

theorem own : ownKnob Try.prog.godebug = none := by kernel_rfl
theorem laidOut : laidOutB Try.prog = true := by kernel_rfl

set_option maxRecDepth 100000 in
theorem lifted (os : Os) (started : os.Started) (H : Type) (enc : TypeId × Value → H) :
    ReturnsInHanded {} Try.checked os 10 .any (Rows.matrixRanksSpec.pre6 enc Try.prog Try.f10 Rows.matrixRanksRow.domain false) (Rows.matrixRanksSpec.post enc Try.prog Try.f10 false true false false) := by
  refine returnsInHanded_of_change (C := Try.checked) own started (by kernel_rfl) Try.func10
    (ChangeSpec.witness6 (enc := enc) (C := Try.checked) false ⟨#[], #[.agg #[.string ⟨#[]⟩, .int .i64 0, .int .i64 0, .int .i64 0, .int .i64 0, .int .i64 0, .int .i64 0, .int .i64 0, .int .i64 0, .int .i64 0, .int .i64 0, .int .i64 0, .int .i64 0, .int .i64 0, .int .i64 0, .int .i64 0, .int .i64 0, .int .i64 0, .int .i64 0, .int .i64 0, .slice none 0 0, .slice none 0 0], .int .i64 0], []⟩ 8 (by kernel_rfl) (by kernel_rfl) (by kernel_rfl) (by kernel_rfl)) ?_
  intro W base args ds gs before hval0 hW hcnd _
  have hval : ∀ (j : Nat) t v, Try.f10.params[j]? = some t → args[j]? = some v → Value.okWide Try.prog W .any base t v := hval0
  have hW' := hW
  obtain ⟨p, q, hA0, hV, rfl, hfz, hnd⟩ := hW
  have hA : DataW.TrodAll enc Try.prog W 0 (fun _ => true) true Try.f10.params.toList args.toList ds p := hA0
  rw [Try.params10] at hA hval
  obtain ⟨v0, vs0, d0, ds0, p0, q0, hargs, rfl, rfl, h0, r0⟩ := trodAll_cons hA
  obtain ⟨v1, vs1, d1, ds1, p1, q1, rfl, rfl, rfl, h1, r1⟩ := trodAll_cons r0
  obtain ⟨rfl, rfl, rfl⟩ := trodAll_nil r1
  obtain rfl : args = #[v0, v1] := by cases args; simp_all
  obtain ⟨rfl, rfl⟩ := trodVars_none hV
  obtain ⟨cs0, rfl, hsz0⟩ := okWide_struct Try.underlying25 (hval 0 25 v0 rfl rfl)
  have k0 := h0
  have lt0 : ∀ x ∈ p0, x.block < W.heap.size := by obtain ⟨m, hm⟩ := k0; exact DataW.trod_lt m _ _ _ hm
  obtain ⟨g0, av0, tv0, ms0, eg0, rg0⟩ := game_trod h0
  rw [eg0] at k0 hW' ⊢
  obtain ⟨a1, rfl, rfl, rfl, w1⟩ := open_int Try.underlying3 (hval 1 3 v1 rfl rfl) h1
  have b1 := bounds_i64 w1
  clear hA0 hval0
  refine (ranks13_any g0 av0 tv0 ms0 a1 W rg0).mono fun e W' ⟨he, bel⟩ => ?_
  subst he
  exact ⟨_, rfl, _, _, _, [], _, [], hW', trodAll_mk1 (shut_bool Try.underlying4 _), (trodAll_cons_mk (Below.trod laidOut (by kernel_rfl) (of_decide_eq_true (by kernel_rfl)) k0 bel lt0) (trodAll_cons_mk (shut_int Try.underlying3 w1) trodAll_mk0)), rfl, bel.frame _, fun h => by cases h⟩

theorem over : Rows.matrixRanksRow.holds Try.pinned (OpenSpec.ofChange Rows.matrixRanksSpec) :=
  OpenClaim.holds_of_wide 10 Try.f10 rfl rfl rfl rfl rfl rfl rfl ⟨rfl, rfl, rfl, rfl, rfl⟩ rfl rfl rfl rfl rfl (by kernel_rfl) Try.func10 (by kernel_rfl)
    (of_decide_eq_true (by kernel_rfl)) (by unfold Func.isWrapper; first | (rw [if_pos (by decide +kernel)]; kernel_rfl) | (rw [if_neg (by decide +kernel)]; exact ⟨rfl, rfl⟩))
    (fun os started H enc _ => lifted os started H enc)

theorem proved : Rows.MatrixRanksSaid := over
#print axioms proved
end Go.Proofs.Ytlppomkpmnpmcaa.matrixRanks
end

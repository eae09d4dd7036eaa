/- comb.Unrank and comb.Next at whatever arguments. -/
import Derived.Test.YtompjmcbfgckiaaNext
open Go.RowKit
set_option linter.unusedVariables false
set_option linter.unusedSimpArgs false
namespace Go.Proofs.Ytompjmcbfgckiaa

theorem next_any (v : Value) (l : List Int) (n : Int) (w : World) (h : Rd I64 w v l) :
    Calls Try.prog 20 #[v, .int .i64 n] w (ListB (nextV l n).1 (nextV l n).2 w) := by
  by_cases hb : 0 ≤ n ∧ n ≤ 80 ∧ checkL n 0 l = 0
  · obtain ⟨n, rfl⟩ := Int.eq_ofNat_of_zero_le hb.1
    exact next_good v l n w h (by omega) hb.2.2
  · have : nextV l n = ([], false) := by unfold nextV; rw [if_neg hb]
    rw [this]
    exact next_bad v l n w h hb

/-- Unrank: the list and the code. -/
def unrankV (r n k : Int) : List Int × Int :=
  if 0 ≤ n ∧ n ≤ 80 ∧ 0 ≤ k ∧ k ≤ n then
    (if choose n.toNat k.toNat ≤ 9223372036854775807 then (if 0 ≤ r ∧ r < choose n.toNat k.toNat then (unrankL n.toNat 1 r.toNat k.toNat, 0) else ([], 2)) else ([], 9))
  else ([], 2)

set_option maxHeartbeats 1000000 in
theorem unrank_range (r n k : Int) (w : World) (h : ¬ (0 ≤ n ∧ n ≤ 80 ∧ 0 ≤ k ∧ k ≤ n)) :
    Calls Try.prog 23 #[.int .i64 r, .int .i64 n, .int .i64 k] w (ListC [] 2 w) := by
  by_cases hn : 0 ≤ n ∧ n ≤ 80
  · have hd : decide (0 ≤ n ∧ n ≤ 80) = true := decide_eq_true hn
    by_cases hk : k < 0
    all_goals
      first | (have hk2 : n < k := by omega) | skip
      clear h hn
      go_enter Try.func23, Try.ntmps23
      go_wp2_with fail
      refine (known_any _ _).mono ?_
      rintro e w' ⟨rfl, rfl⟩
      rw [hd]
      go_wp2
      go_ret2
      exact ⟨_, rfl, Rd.nil, Below.refl _ _⟩
  · have hd : decide (0 ≤ n ∧ n ≤ 80) = false := decide_eq_false hn
    clear h hn
    go_enter Try.func23, Try.ntmps23
    go_wp2_with fail
    refine (known_any _ _).mono ?_
    rintro e w' ⟨rfl, rfl⟩
    rw [hd]
    go_wp2
    go_ret2
    exact ⟨_, rfl, Rd.nil, Below.refl _ _⟩

set_option maxHeartbeats 1000000 in
theorem unrank_over (r : Int) (n k : Nat) (w : World) (hn : n ≤ 80) (hk : k ≤ n) (hct : 9223372036854775807 < choose n k) :
    Calls Try.prog 23 #[.int .i64 r, .int .i64 (n : Int), .int .i64 (k : Int)] w (ListC [] 9 w) := by
  have hd : decide (0 ≤ (n : Int) ∧ (n : Int) ≤ 80) = true := decide_eq_true (by omega)
  have hci0 := chooseI_nat n k n k rfl rfl
  have hkI : ¬ (n : Int) < (k : Int) := by omega
  go_enter Try.func23, Try.ntmps23
  go_wp2_with fail
  refine (known_any _ _).mono ?_
  rintro e w' ⟨rfl, rfl⟩
  rw [hd]
  clear hd
  replace hci0 := hide hci0
  go_wp2_with fail
  refine (count_over _ _ _ (by omega) (by rw [hci0.out]; exact hct)).mono ?_
  rintro e w1 ⟨rfl, hb1⟩
  clear hct
  go_wp2
  go_ret2
  exact ⟨_, rfl, Rd.nil, hb1⟩

set_option maxHeartbeats 1000000 in
theorem unrank_rank (r : Int) (n k : Nat) (w : World) (hn : n ≤ 80) (hk : k ≤ n) (hct : choose n k ≤ 9223372036854775807) (hr : r < 0 ∨ ((choose n k : Nat) : Int) ≤ r) :
    Calls Try.prog 23 #[.int .i64 r, .int .i64 (n : Int), .int .i64 (k : Int)] w (ListC [] 2 w) := by
  have hd : decide (0 ≤ (n : Int) ∧ (n : Int) ≤ 80) = true := decide_eq_true (by omega)
  have hci0 := chooseI_nat n k n k rfl rfl
  have hkI : ¬ (n : Int) < (k : Int) := by omega
  by_cases h0 : r < 0
  all_goals
    first | (have hrI : ((choose n k : Nat) : Int) ≤ r := by omega) | skip
    clear hr
    go_enter Try.func23, Try.ntmps23
    go_wp2_with fail
    refine (known_any _ _).mono ?_
    rintro e w' ⟨rfl, rfl⟩
    rw [hd]
    clear hd
    replace hci0 := hide hci0
    go_wp2_with fail
    refine (count_ok _ _ _ (by omega) (by rw [hci0.out]; exact hct)).mono ?_
    rintro e w1 ⟨rfl, hb1⟩
    rw [hci0.out]
    go_wp2
    go_ret2
    exact ⟨_, rfl, Rd.nil, hb1⟩

theorem unrank_any (r n k : Int) (w : World) : Calls Try.prog 23 #[.int .i64 r, .int .i64 n, .int .i64 k] w (ListC (unrankV r n k).1 (unrankV r n k).2 w) := by
  unfold unrankV
  by_cases h : 0 ≤ n ∧ n ≤ 80 ∧ 0 ≤ k ∧ k ≤ n
  · rw [if_pos h]
    obtain ⟨n, rfl⟩ := Int.eq_ofNat_of_zero_le h.1
    obtain ⟨k, rfl⟩ := Int.eq_ofNat_of_zero_le h.2.2.1
    rw [Int.toNat_natCast, Int.toNat_natCast]
    by_cases hx : choose n k ≤ 9223372036854775807
    · rw [if_pos hx]
      by_cases hr : 0 ≤ r ∧ r < choose n k
      · rw [if_pos hr]
        obtain ⟨r, rfl⟩ := Int.eq_ofNat_of_zero_le hr.1
        exact unrank_ok r n k w (by omega) (by omega) hx (by omega)
      · rw [if_neg hr]
        exact unrank_rank r n k w (by omega) (by omega) hx (by omega)
    · rw [if_neg hx]
      exact unrank_over r n k w (by omega) (by omega) (by omega)
  · rw [if_neg h]
    exact unrank_range r n k w h
end Go.Proofs.Ytompjmcbfgckiaa

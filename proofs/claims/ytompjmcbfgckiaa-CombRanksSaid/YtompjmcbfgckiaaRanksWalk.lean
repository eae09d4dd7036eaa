/- The walk of the statement CombRanks: it returns true, whatever the arguments. -/
import Derived.Test.YtompjmcbfgckiaaAwake
import Derived.Test.YtompjmcbfgckiaaNextLaw2
open Go.RowKit
set_option linter.unusedVariables false
set_option linter.unusedSimpArgs false
namespace Go.Proofs.Ytompjmcbfgckiaa

theorem emod_nat (r c : Nat) : (r : Int) % (c : Int) = ((r % c : Nat) : Int) := (Int.natCast_emod r c).symm

set_option maxHeartbeats 1000000 in
theorem ranks_bad (r n k x c : Int) (w : World) (hc : ∀ w, Calls Try.prog 12 #[.int .i64 n, .int .i64 k] w (IntC x c w)) (hb : (c != 0) = true ∨ (c != 0) = false ∧ (x == 0) = true) :
    Calls Try.prog 7 #[.int .u64 r, .int .i64 n, .int .i64 k] w (BoolB true w) := by
  have HC := hide hc
  clear hc
  rcases hb with hb | ⟨hb, hx⟩
  all_goals
    go_enter Try.func7, Try.ntmps7
    go_wp2_with fail
    refine (HC.out _).mono ?_
    rintro e w1 ⟨rfl, hb1⟩
    go_wp2_with fail
    refine (awake_any _).mono ?_
    rintro e w2 ⟨rfl, hb2⟩
    go_wp2
    go_ret
    exact ⟨rfl, Bel.to hb1 hb2⟩

set_option maxHeartbeats 2000000 in
set_option maxRecDepth 100000 in
theorem ranks_good (r n k : Nat) (w : World) (hr : r < 18446744073709551616) (hn : n ≤ 80) (hk : k ≤ n) (hx : choose n k ≤ 9223372036854775807) :
    Calls Try.prog 7 #[.int .u64 (r : Int), .int .i64 (n : Int), .int .i64 (k : Int)] w (BoolB true w) := by
  have hci := hide (chooseI_nat n k n k rfl rfl)
  have hpos := choose_pos hk
  obtain ⟨C, hC⟩ : ∃ C, C = choose n k := ⟨_, rfl⟩
  obtain ⟨a, ha⟩ : ∃ a, a = r % C := ⟨_, rfl⟩
  have hat : a < C := by rw [ha]; exact Nat.mod_lt _ (by omega)
  have e1 : (r : Int) % (C : Int) = (a : Int) := by rw [ha]; exact emod_nat r C
  have hl := unrankL_len (m := n) (w := 1) (r := a) (j := k) (by rw [← hC]; exact hat)
  have hchk := check_unrankL (n := n) (m := n) (w := 1) (r := a) (j := k) (by omega) (by omega) (by rw [← hC]; exact hat) 0 (by omega)
  have hrk := rank_unrankL (n := n) (m := n) (w := 1) (r := a) (j := k) (by omega) (by rw [← hC]; exact hat) (by omega)
  rw [Nat.sub_self] at hrk
  obtain ⟨n1, n2⟩ := next_unrank hk (by rw [← hC]; exact hat) hn
  rw [← hC] at n1 n2 hpos hx
  have hur : unrankV a n k = (unrankL n 1 a k, 0) := by
    unfold unrankV
    rw [if_pos ⟨by omega, by omega, by omega, by omega⟩]
    simp only [Int.toNat_natCast]
    rw [← hC, if_pos hx, if_pos ⟨by omega, by omega⟩]
  have hrv : ∀ l : List Int, checkL n 0 l = 0 → l.length = k → rankV n l = ((rankL n 0 l : Int), 0) := by
    intro l h1 h2
    unfold rankV
    rw [if_pos ⟨by omega, by omega⟩, if_neg (by omega), h2]
    simp only [Int.toNat_natCast]
    rw [← hC, if_pos hx]
  have hrv1 := hrv _ hchk hl
  rw [hrk] at hrv1
  obtain ⟨l, hle⟩ : ∃ l, l = unrankL n 1 a k := ⟨_, rfl⟩
  rw [← hle] at hl hchk hrk n1 n2 hur hrv1
  clear ha hrk hle hchk
  have hur := hide hur
  have hrv := hide hrv
  have hrv1 := hide hrv1
  have n1 := hide n1
  have n2 := hide n2
  rename_i hurx hrvx hrv1x n1x n2x
  clear hurx hrvx hrv1x n1x n2x
  have hlk : ((l.length : Int) != (k : Int)) = false := by simp; omega
  have hCb : (C == 0) = false := by simp; omega
  have hC0 : 0 < C := by omega
  replace hC := hide hC
  replace hl := hide hl
  clear hpos
  have hct : chooseI n k = C := by rw [hci.out, hC.out]
  replace hct := hide hct
  by_cases hlast : a + 1 < C
  · obtain ⟨m1, m2, m3⟩ := n2.out hlast
    have hrv2 := hrv.out _ m1 m3
    rw [m2] at hrv2
    have hn1 := n1.out
    rw [decide_eq_true hlast] at hn1
    replace hrv2 := hide hrv2
    replace hn1 := hide hn1
    replace m3 := hide m3
    clear m1 m2 n1 n2
    obtain ⟨l2, hl2⟩ : ∃ l2, l2 = (nextV l n).1 := ⟨_, rfl⟩
    rw [← hl2] at hrv2 m3
    have hlk2 : ((l2.length : Int) != (k : Int)) = false := by rw [m3.out]; simp
    replace hl2 := hide hl2
    have hdl : decide ((a : Int) < (C : Int) - 1) = true := decide_eq_true (by omega)
    go_enter Try.func7, Try.ntmps7
    go_wp2_with fail
    refine (count_ok _ _ _ (by omega) (by rw [hct.out]; exact hx)).mono ?_
    rintro e w1 ⟨rfl, hb1⟩
    rw [hct.out]
    go_wp2_with fail
    refine (unrank_any _ _ _ _).mono ?_
    rintro e w2 ⟨u, rfl, hu, hb2⟩
    rw [hur.out] at hu ⊢
    obtain ⟨ao, cap, rfl, hlc, hcm, hu'⟩ := Rd.form hu
    go_wp2_with fail
    refine (rank_any _ l _ _ hu).mono ?_
    rintro e w3 ⟨rfl, hb3⟩
    rw [hrv1.out]
    go_wp2_with fail
    refine (next_any _ l _ _ (hu.below hb3)).mono ?_
    rintro e w4 ⟨u2, rfl, hu2, hb4⟩
    rw [← hl2.out] at hu2
    rw [hn1.out]
    obtain ⟨ao2, cap2, rfl, hlc2, hcm2, hu2'⟩ := Rd.form hu2
    go_wp2_with fail
    refine (rank_any _ l2 _ _ hu2).mono ?_
    rintro e w5 ⟨rfl, hb5⟩
    rw [hrv2.out]
    go_wp2_with fail
    refine (awake_any _).mono ?_
    rintro e w6 ⟨rfl, hb6⟩
    go_wp2
    go_ret
    exact ⟨rfl, Bel.to (Bel.to (Bel.to (Bel.to (Bel.to hb1 hb2) hb3) hb4) hb5) hb6⟩
  · have hn1 := n1.out
    rw [decide_eq_false hlast] at hn1
    replace hn1 := hide hn1
    clear n1 n2
    have hdl : decide ((a : Int) < (C : Int) - 1) = false := decide_eq_false (by omega)
    go_enter Try.func7, Try.ntmps7
    go_wp2_with fail
    refine (count_ok _ _ _ (by omega) (by rw [hct.out]; exact hx)).mono ?_
    rintro e w1 ⟨rfl, hb1⟩
    rw [hct.out]
    go_wp2_with fail
    refine (unrank_any _ _ _ _).mono ?_
    rintro e w2 ⟨u, rfl, hu, hb2⟩
    rw [hur.out] at hu ⊢
    obtain ⟨ao, cap, rfl, hlc, hcm, hu'⟩ := Rd.form hu
    go_wp2_with fail
    refine (rank_any _ l _ _ hu).mono ?_
    rintro e w3 ⟨rfl, hb3⟩
    rw [hrv1.out]
    go_wp2_with fail
    refine (next_any _ l _ _ (hu.below hb3)).mono ?_
    rintro e w4 ⟨u2, rfl, hu2, hb4⟩
    rw [hn1.out]
    go_wp2_with fail
    refine (awake_any _).mono ?_
    rintro e w6 ⟨rfl, hb6⟩
    go_wp2
    go_ret
    exact ⟨rfl, Bel.to (Bel.to (Bel.to (Bel.to hb1 hb2) hb3) hb4) hb6⟩

theorem ranks_any (r n k : Int) (w : World) (h0 : 0 ≤ r) (h1 : r < 18446744073709551616) :
    Calls Try.prog 7 #[.int .u64 r, .int .i64 n, .int .i64 k] w (BoolB true w) := by
  by_cases hn : 0 ≤ n ∧ n ≤ 80
  · by_cases hx : chooseI n k ≤ 9223372036854775807
    · by_cases h0' : chooseI n k = 0
      · refine ranks_bad r n k 0 0 w (fun w => ?_) (.inr ⟨rfl, rfl⟩)
        have := count_ok n k w hn hx
        rw [h0'] at this
        exact this
      · obtain ⟨r, rfl⟩ := Int.eq_ofNat_of_zero_le h0
        obtain ⟨n, rfl⟩ := Int.eq_ofNat_of_zero_le hn.1
        have hk0 : 0 ≤ k := by
          rcases Int.lt_or_le k 0 with h | h
          · unfold chooseI at h0'; rw [if_pos h] at h0'; omega
          · exact h
        obtain ⟨k, rfl⟩ := Int.eq_ofNat_of_zero_le hk0
        rw [chooseI_nat n k n k rfl rfl] at hx h0'
        have hkn : k ≤ n := by
          rcases Nat.lt_or_ge n k with h | h
          · exact absurd (choose_gt h) h0'
          · exact h
        exact ranks_good r n k w (by omega) (by omega) hkn hx
    · exact ranks_bad r n k 0 9 w (fun w => count_over n k w hn (by omega)) (.inl rfl)
  · exact ranks_bad r n k 0 2 w (fun w => count_range n k w hn) (.inl rfl)
end Go.Proofs.Ytompjmcbfgckiaa

/- lotteryref05: Unrank, Next. -/
import Derived.Test.YtompjmcbfgckiaaRefRank
open Go.RowKit
set_option linter.unusedVariables false
set_option linter.unusedSimpArgs false
namespace Go.Proofs.Ytompjmcbfgckiaa

set_option maxHeartbeats 2000000 in
set_option maxRecDepth 100000 in
theorem runrank_ok (r n k : Nat) (w : World) (hn : n ≤ 80) (hk : k ≤ n) (hct : choose n k ≤ 9223372036854775807) (hr : r < choose n k) :
    Calls Try.prog 24 #[.int .i64 (r : Int), .int .i64 (n : Int), .int .i64 (k : Int)] w (ListC (unrankL n 1 r k) 0 w) := by
  have hci0 := hide (countV_ok n k hn hct n k rfl rfl)
  have hrI : (r : Int) < ((choose n k : Nat) : Int) := by omega
  have hd0 : decide ((r : Int) < 0) = false := decide_eq_false (by omega)
  have hd1 : decide (choose n k ≤ r) = false := decide_eq_false (by omega)
  have hd2 : decide (((choose n k : Nat) : Int) ≤ (r : Int)) = false := decide_eq_false (by omega)
  go_enter Try.func24, Try.ntmps24
  go_wp2_with fail
  refine (in_yes _ _ _ (by omega) (by omega)).mono ?_
  rintro e w' ⟨rfl, rfl⟩
  go_wp2_with fail
  refine (in_yes _ _ _ (by omega) (by omega)).mono ?_
  rintro e w' ⟨rfl, rfl⟩
  go_wp2_with fail
  refine (rcount_any _ _ _).mono ?_
  rintro e w' ⟨rfl, rfl⟩
  rw [hci0.out]
  go_wp2
  have hown : Own I64 w w.heap.size 3 (.slice none 0 0) [] := Own.nil _ _ _
  have hstart := hide (show ([] : List Int) ++ unrankL n 1 r k = unrankL n 1 r k from rfl)
  clear hrI
  go_loopw [0, 10, 11] (fun rr vv ww wr => ∃ (A : List Int) (ao : Option Addr) (cap rv wv : Nat), vv = .slice ao A.length cap ∧ ww = .int .i64 wv ∧ rr = .int .i64 rv ∧ 1 ≤ wv ∧ wv ≤ n + 1 ∧ A.length ≤ k ∧ Own I64 wr w.heap.size 3 (.slice ao A.length cap) A ∧
      Below w.heap.size w wr ∧ Hid (A ++ unrankL (n + 1 - wv) wv rv (k - A.length) = unrankL n 1 r k) ∧ rv < choose (n + 1 - wv) (k - A.length) ∧ choose (n + 1 - wv) (k - A.length) ≤ choose n k) (fun _ _ ww _ => n + 1 - (intOf ww).toNat)
  case atStart =>
    refine ⟨[], none, 0, r, 1, rfl, rfl, rfl, Nat.le_refl _, by omega, Nat.zero_le _, hown, Below.refl _ _, ?_, ?_, ?_⟩
    · simpa using hstart
    · simpa using hr
    · simp
  case round =>
    obtain ⟨A, ao, cap, rv, wv, rfl, rfl, rfl, hw1, hw2, hAk, hown, hbel, hE, hlt, hle⟩ := hrel
    by_cases hAl : A.length < k
    · obtain ⟨j, hj⟩ : ∃ j, k - A.length = j + 1 := ⟨k - A.length - 1, by omega⟩
      have hwn : wv ≤ n := by
        rcases Nat.lt_or_ge n wv with h | h
        · rw [show n + 1 - wv = 0 by omega, hj, choose_gt (by omega)] at hlt; omega
        · exact h
      obtain ⟨m, hm⟩ : ∃ m, n + 1 - wv = m + 1 := ⟨n - wv, by omega⟩
      have hE2 := hE.out
      rw [hm, hj] at hlt hle hE2
      obtain ⟨s1, s2⟩ := choose_mono_step m j
      have hsum := choose_succ m j
      rw [unrankL, if_neg (by omega), Nat.add_sub_cancel] at hE2
      obtain ⟨C, hC⟩ : ∃ C, C = choose m j := ⟨_, rfl⟩
      rw [← hC] at hE2 s1 hsum
      have hC5 : C ≤ 9223372036854775807 := by omega
      have hci := countV_ok m j (by omega) (by rw [← hC]; exact hC5) ((n : Int) - wv) ((k : Int) - 1 - A.length) (by omega) (by omega)
      rw [← hC] at hci
      replace hci := hide hci
      by_cases hrc : rv < C
      · rw [if_pos hrc] at hE2
        replace hE2 := hide hE2
        have hrI : (rv : Int) < (C : Int) := by omega
        have f1 : rv < choose m j := by omega
        have f2 : choose m j ≤ choose n k := by omega
        replace hC := hide hC
        replace hm := hide hm
        replace hj := hide hj
        clear hsum s1 s2 hlt hle hE
        go_wp2_with fail
        refine (rcount_any _ _ _).mono ?_
        rintro e w3 ⟨rfl, rfl⟩
        rw [hci.out]
        go_wp2_with (with_reducible refine wpList_append_rd _ rfl _ _ 37 rfl (V := I64) (fun _ => rfl) w.heap.size 3 (.int .i64 0) 8 Try.underlying37 infoInt rfl _ A rfl (hown.alloc _) _ [(wv : Int)] rfl ?_ ?_ ?_ ?_ ?_)
        case refine_1 => exact Rd.new _ rfl rfl (Nat.le_refl _) (by decide) rfl
        case refine_2 => simp; omega
        case refine_3 => simp; omega
        case refine_4 => have := hbel.size; simp; omega
        intro v4 w4 hown4 hg4 hv4
        have hsz2 := hbel.size
        have hb4 : Below w.heap.size w w4 := (Bel.al hbel _).grown hg4 (by simp; omega) (fun g hg => (hown.lt g hg).1)
        obtain ⟨ao4, cap4, rfl⟩ := hown4.shape
        go_wp2
        go_roundw
        case rel =>
          refine ⟨A ++ [(wv : Int)], ao4, cap4, rv, wv + 1, rfl, by go_num, rfl, by omega, by omega, by simp; omega, hown4, hb4, ?_, ?_, ?_⟩
          · show _ = _
            have hj' := hj.out
            have hm' := hm.out
            rw [List.length_append, List.length_singleton, show n + 1 - (wv + 1) = m by omega, show k - (A.length + 1) = j by omega, List.append_assoc]
            exact hE2.out
          · have hj' := hj.out
            have hm' := hm.out
            rw [List.length_append, List.length_singleton, show n + 1 - (wv + 1) = m by omega, show k - (A.length + 1) = j by omega]
            exact f1
          · have hj' := hj.out
            have hm' := hm.out
            rw [List.length_append, List.length_singleton, show n + 1 - (wv + 1) = m by omega, show k - (A.length + 1) = j by omega]
            exact f2
        case measure => simp [intOf]; omega
      · rw [if_neg hrc] at hE2
        replace hE2 := hide hE2
        have hrI : ¬ (rv : Int) < (C : Int) := by omega
        have f1 : rv - C < choose m (j + 1) := by omega
        have f2 : choose m (j + 1) ≤ choose n k := by omega
        have hrB : rv ≤ 9223372036854775807 := by omega
        replace hC := hide hC
        replace hm := hide hm
        replace hj := hide hj
        clear hsum s1 s2 hlt hle hE
        go_wp2_with fail
        refine (rcount_any _ _ _).mono ?_
        rintro e w3 ⟨rfl, rfl⟩
        rw [hci.out]
        have hCr : C ≤ rv := by omega
        go_wp2
        go_roundw
        case rel =>
          have hj' := hj.out
          have hm' := hm.out
          refine ⟨A, ao, cap, rv - C, wv + 1, rfl, by go_num, by go_num, by omega, by omega, by omega, hown, hbel, ?_, ?_, ?_⟩
          · show _ = _
            rw [show n + 1 - (wv + 1) = m by omega, hj']
            exact hE2.out
          · rw [show n + 1 - (wv + 1) = m by omega, hj']
            exact f1
          · rw [show n + 1 - (wv + 1) = m by omega, hj']
            exact f2
        case measure => simp [intOf]; omega
    · have hkA : k - A.length = 0 := by omega
      have hE2 := hE.out
      rw [hkA, unrankL_zero, List.append_nil] at hE2
      replace hE2 := hide hE2
      clear hE hkA hlt hle
      by_cases hwn : wv ≤ n
      all_goals
        go_wp2
        go_ret2
        exact ⟨_, rfl, by rw [← hE2.out]; exact hown.rd, hbel⟩

set_option maxHeartbeats 1000000 in
theorem runrank_range (r n k : Int) (w : World) (h : ¬ (0 ≤ n ∧ n ≤ 80 ∧ 0 ≤ k ∧ k ≤ n)) :
    Calls Try.prog 24 #[.int .i64 r, .int .i64 n, .int .i64 k] w (ListC [] 2 w) := by
  by_cases hn : 0 ≤ n ∧ n ≤ 80
  · have hk : ¬ (0 ≤ k ∧ k ≤ n) := by omega
    go_enter Try.func24, Try.ntmps24
    go_wp2_with fail
    refine (in_yes _ _ _ hn.1 hn.2).mono ?_
    rintro e w' ⟨rfl, rfl⟩
    go_wp2_with fail
    refine (in_no _ _ _ hk).mono ?_
    rintro e w' ⟨rfl, rfl⟩
    clear hn hk h
    go_wp2
    go_ret2
    exact ⟨_, rfl, Rd.nil, Below.refl _ _⟩
  · go_enter Try.func24, Try.ntmps24
    go_wp2_with fail
    refine (in_no _ _ _ hn).mono ?_
    rintro e w' ⟨rfl, rfl⟩
    clear hn h
    go_wp2
    go_ret2
    exact ⟨_, rfl, Rd.nil, Below.refl _ _⟩

set_option maxHeartbeats 1000000 in
theorem runrank_over (r : Int) (n k : Nat) (w : World) (hn : n ≤ 80) (hk : k ≤ n) (hct : 9223372036854775807 < choose n k) :
    Calls Try.prog 24 #[.int .i64 r, .int .i64 (n : Int), .int .i64 (k : Int)] w (ListC [] 9 w) := by
  have hcv : countV n k = (0, 9) := by
    unfold countV
    rw [chooseI_nat n k n k rfl rfl, if_pos (by omega), if_neg (by omega)]
  replace hcv := hide hcv
  go_enter Try.func24, Try.ntmps24
  go_wp2_with fail
  refine (in_yes _ _ _ (by omega) (by omega)).mono ?_
  rintro e w' ⟨rfl, rfl⟩
  go_wp2_with fail
  refine (in_yes _ _ _ (by omega) (by omega)).mono ?_
  rintro e w' ⟨rfl, rfl⟩
  go_wp2_with fail
  refine (rcount_any _ _ _).mono ?_
  rintro e w' ⟨rfl, rfl⟩
  rw [hcv.out]
  clear hct
  go_wp2
  go_ret2
  exact ⟨_, rfl, Rd.nil, Below.refl _ _⟩

set_option maxHeartbeats 1000000 in
theorem runrank_rank (r : Int) (n k : Nat) (w : World) (hn : n ≤ 80) (hk : k ≤ n) (hct : choose n k ≤ 9223372036854775807) (hr : r < 0 ∨ ((choose n k : Nat) : Int) ≤ r) :
    Calls Try.prog 24 #[.int .i64 r, .int .i64 (n : Int), .int .i64 (k : Int)] w (ListC [] 2 w) := by
  have hcv := hide (countV_ok n k hn hct n k rfl rfl)
  by_cases h0 : r < 0
  all_goals
    first | (have hrI : ((choose n k : Nat) : Int) ≤ r := by omega) | skip
    clear hr
    go_enter Try.func24, Try.ntmps24
    go_wp2_with fail
    refine (in_yes _ _ _ (by omega) (by omega)).mono ?_
    rintro e w' ⟨rfl, rfl⟩
    go_wp2_with fail
    refine (in_yes _ _ _ (by omega) (by omega)).mono ?_
    rintro e w' ⟨rfl, rfl⟩
    go_wp2_with fail
    refine (rcount_any _ _ _).mono ?_
    rintro e w' ⟨rfl, rfl⟩
    rw [hcv.out]
    go_wp2
    go_ret2
    exact ⟨_, rfl, Rd.nil, Below.refl _ _⟩

theorem runrank_any (r n k : Int) (w : World) : Calls Try.prog 24 #[.int .i64 r, .int .i64 n, .int .i64 k] w (ListC (unrankV r n k).1 (unrankV r n k).2 w) := by
  unfold unrankV
  by_cases h : 0 ≤ n ∧ n ≤ 80 ∧ 0 ≤ k ∧ k ≤ n
  · rw [if_pos h]
    obtain ⟨n, rfl⟩ := Int.eq_ofNat_of_zero_le h.1
    obtain ⟨k, rfl⟩ := Int.eq_ofNat_of_zero_le h.2.2.1
    rw [Int.toNat_natCast, Int.toNat_natCast]
    by_cases hx : choose n k ≤ 9223372036854775807
    · rw [if_pos hx]
      by_cases hr : 0 ≤ r ∧ r < choose n k
      · rw [if_pos hr]
        obtain ⟨r, rfl⟩ := Int.eq_ofNat_of_zero_le hr.1
        exact runrank_ok r n k w (by omega) (by omega) hx (by omega)
      · rw [if_neg hr]
        exact runrank_rank r n k w (by omega) (by omega) hx (by omega)
    · rw [if_neg hx]
      exact runrank_over r n k w (by omega) (by omega) (by omega)
  · rw [if_neg h]
    exact runrank_range r n k w h
end Go.Proofs.Ytompjmcbfgckiaa

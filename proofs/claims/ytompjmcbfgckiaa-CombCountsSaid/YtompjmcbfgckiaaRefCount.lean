/- lotteryref05: in, Count, Hits, Check. -/
import Derived.Test.YtompjmcbfgckiaaMulDiv
open Go.RowKit
set_option linter.unusedVariables false
set_option linter.unusedSimpArgs false
namespace Go.Proofs.Ytompjmcbfgckiaa

theorem in_any (x m : Int) (w : World) : Calls Try.prog 30 #[.int .i64 x, .int .i64 m] w (Pure (.bool (decide (0 ≤ x ∧ x ≤ m))) w) := by
  by_cases h1 : 0 ≤ x
  · by_cases h2 : x ≤ m
    · have h : decide (0 ≤ x ∧ x ≤ m) = true := decide_eq_true ⟨h1, h2⟩
      rw [h]
      clear h
      go_enter Try.func30, Try.ntmps30
      go_wp2
      go_ret
      exact ⟨rfl, rfl⟩
    · have h : decide (0 ≤ x ∧ x ≤ m) = false := decide_eq_false (by omega)
      rw [h]
      clear h
      go_enter Try.func30, Try.ntmps30
      go_wp2
      go_ret
      exact ⟨rfl, rfl⟩
  · have h : decide (0 ≤ x ∧ x ≤ m) = false := decide_eq_false (by omega)
    rw [h]
    clear h
    go_enter Try.func30, Try.ntmps30
    go_wp2
    go_ret
    exact ⟨rfl, rfl⟩

theorem in_yes (x m : Int) (w : World) (h1 : 0 ≤ x) (h2 : x ≤ m) : Calls Try.prog 30 #[.int .i64 x, .int .i64 m] w (Pure (.bool true) w) := by
  have := in_any x m w
  rwa [decide_eq_true (⟨h1, h2⟩ : 0 ≤ x ∧ x ≤ m)] at this
theorem in_no (x m : Int) (w : World) (h : ¬ (0 ≤ x ∧ x ≤ m)) : Calls Try.prog 30 #[.int .i64 x, .int .i64 m] w (Pure (.bool false) w) := by
  have := in_any x m w
  rwa [decide_eq_false h] at this

theorem muldiv_int (a : Nat) (b : Int) (c : Nat) (w : World) (ha : a ≤ 9223372036854775807) (hb0 : 0 ≤ b) (hb : b ≤ 9223372036854775807) (hc0 : 0 < c) (hc : c ≤ 9223372036854775807) (hq : a * b.toNat / c ≤ 9223372036854775807) :
    Calls Try.prog 35 #[.int .i64 (a : Int), .int .i64 b, .int .i64 (c : Int)] w (Int3 ((a * b.toNat / c : Nat) : Int) ((a * b.toNat % c : Nat) : Int) 0 w) := by
  obtain ⟨b, rfl⟩ := Int.eq_ofNat_of_zero_le hb0
  exact muldiv_any a b c w ha (by omega) hc0 hc hq
theorem muldiv_int_over (a : Nat) (b : Int) (c : Nat) (w : World) (ha : a ≤ 9223372036854775807) (hb0 : 0 ≤ b) (hb : b ≤ 9223372036854775807) (hc0 : 0 < c) (hc : c ≤ 9223372036854775807) (hq : 9223372036854775807 < a * b.toNat / c) :
    Calls Try.prog 35 #[.int .i64 (a : Int), .int .i64 b, .int .i64 (c : Int)] w (Int3 0 0 9 w) := by
  obtain ⟨b, rfl⟩ := Int.eq_ofNat_of_zero_le hb0
  exact muldiv_over a b c w ha (by omega) hc0 hc hq

theorem choose_mono (n k i : Nat) (hk : k ≤ n) (hi : i ≤ k) : choose (n - k + i) i ≤ choose n k := by
  obtain ⟨d, rfl⟩ : ∃ d, k = i + d := ⟨k - i, by omega⟩
  clear hi
  induction d generalizing i with
  | zero => rw [Nat.add_zero, show n - i + i = n by omega]; exact Nat.le_refl _
  | succ d ih =>
    have h1 := ih (i := i + 1) (by omega)
    have h2 := (choose_mono_step (n - (i + (d + 1)) + i) i).1
    rw [show i + 1 + d = i + (d + 1) by omega, show n - (i + (d + 1)) + (i + 1) = n - (i + (d + 1)) + i + 1 by omega] at h1
    omega

set_option maxHeartbeats 2000000 in
set_option maxRecDepth 100000 in
theorem rcount_in (n k : Nat) (w : World) (hn : n ≤ 80) (hk : k ≤ n) :
    Calls Try.prog 13 #[.int .i64 (n : Int), .int .i64 (k : Int)] w (IntP (countV n k).1 (countV n k).2 w) := by
  have hcv : countV n k = if choose n k ≤ 9223372036854775807 then ((choose n k : Int), 0) else (0, 9) := by
    unfold countV
    rw [if_pos (by omega), chooseI_nat n k n k rfl rfl]
  replace hcv := hide hcv
  go_enter Try.func13, Try.ntmps13
  go_wp2_with fail
  refine (in_yes _ _ _ (by omega) (by omega)).mono ?_
  rintro e w' ⟨rfl, rfl⟩
  go_wp2_with fail
  refine (in_yes _ _ _ (by omega) (by omega)).mono ?_
  rintro e w' ⟨rfl, rfl⟩
  go_wp2
  go_loopw [6, 7] (fun c t wr => w = wr ∧ ∃ (i x : Nat), 1 ≤ i ∧ i ≤ k + 1 ∧ t = .int .i64 i ∧ c = .int .i64 x ∧ Hid (x = choose (n - k + i - 1) (i - 1)) ∧ x ≤ 9223372036854775807) (fun _ t _ => k + 1 - (intOf t).toNat)
  case atStart => exact ⟨rfl, 1, 1, Nat.le_refl _, by omega, rfl, rfl, by show _ = _; rw [Nat.sub_self, choose_zero], by omega⟩
  case round =>
    obtain ⟨rfl, i, x, hi1, hik, rfl, rfl, hx, hxb⟩ := hrel
    by_cases hik' : i ≤ k
    · have hprod : x * (n - k + i) / i = choose (n - k + i) i := by
        have h1 := choose_mul (n - k + i - 1) (i - 1)
        rw [show n - k + i - 1 + 1 = n - k + i by omega, Nat.sub_add_cancel hi1, ← hx.out] at h1
        rw [← h1, Nat.mul_div_cancel _ (by omega)]
      have hmono := choose_mono n k i hk hik'
      have htn : ((n : Int) - k + i).toNat = n - k + i := by omega
      obtain ⟨y, hy⟩ : ∃ y, y = choose (n - k + i) i := ⟨_, rfl⟩
      rw [← hy] at hprod hmono
      rw [← htn] at hprod
      replace hprod := hide hprod
      replace hy := hide hy
      clear htn
      by_cases hyb : y ≤ 9223372036854775807
      · clear hmono
        go_wp2_with fail
        refine (muldiv_int _ _ _ _ hxb (by omega) (by omega) (by omega) (by omega) (by rw [hprod.out]; exact hyb)).mono ?_
        rintro e w' ⟨rfl, rfl⟩
        rw [hprod.out]
        go_wp2
        go_roundw
        case rel => exact ⟨trivial, i + 1, y, by omega, by omega, by go_num, rfl, by show _ = _; rw [hy.out, show n - k + (i + 1) - 1 = n - k + i by omega, Nat.add_sub_cancel], hyb⟩
        case measure => simp [intOf]; omega
      · have hov := hide (show countV n k = (0, 9) by rw [hcv.out, if_neg (by omega)])
        clear hmono
        go_wp2_with fail
        refine (muldiv_int_over _ _ _ _ hxb (by omega) (by omega) (by omega) (by omega) (by rw [hprod.out]; omega)).mono ?_
        rintro e w' ⟨rfl, rfl⟩
        clear hyb
        go_wp2
        go_ret2
        rw [hov.out]
        exact ⟨rfl, rfl⟩
    · have hxe := hx.out
      rw [show n - k + i - 1 = n by omega, show i - 1 = k by omega] at hxe
      have hok := hide (show countV n k = ((x : Int), 0) by rw [hcv.out, ← hxe, if_pos hxb])
      clear hxe hx
      go_wp2
      go_ret2
      rw [hok.out]
      exact ⟨rfl, rfl⟩

theorem rcount_any (n k : Int) (w : World) : Calls Try.prog 13 #[.int .i64 n, .int .i64 k] w (IntP (countV n k).1 (countV n k).2 w) := by
  by_cases hn : 0 ≤ n ∧ n ≤ 80
  · by_cases hk : 0 ≤ k ∧ k ≤ n
    · obtain ⟨n, rfl⟩ := Int.eq_ofNat_of_zero_le hn.1
      obtain ⟨k, rfl⟩ := Int.eq_ofNat_of_zero_le hk.1
      exact rcount_in n k w (by omega) (by omega)
    · have h0 : chooseI n k = 0 := by
        unfold chooseI
        by_cases h : k < 0
        · rw [if_pos h]
        · rw [if_neg h, choose_gt (by omega)]
      have hc : countV n k = (0, 0) := by unfold countV; rw [if_pos hn, h0]; rfl
      rw [hc]
      clear hc h0
      go_enter Try.func13, Try.ntmps13
      go_wp2_with fail
      refine (in_yes _ _ _ (by omega) (by omega)).mono ?_
      rintro e w' ⟨rfl, rfl⟩
      go_wp2_with fail
      refine (in_no _ _ _ hk).mono ?_
      rintro e w' ⟨rfl, rfl⟩
      clear hn hk
      go_wp2
      go_ret2
      exact ⟨rfl, rfl⟩
  · have hc : countV n k = (0, 2) := by unfold countV; rw [if_neg hn]
    rw [hc]
    clear hc
    go_enter Try.func13, Try.ntmps13
    go_wp2_with fail
    refine (in_no _ _ _ hn).mono ?_
    rintro e w' ⟨rfl, rfl⟩
    clear hn
    go_wp2
    go_ret2
    exact ⟨rfl, rfl⟩

theorem countV_ok (n k : Nat) (hn : n ≤ 80) (hx : choose n k ≤ 9223372036854775807) (x y : Int) (h1 : x = n) (h2 : y = k) : countV x y = ((choose n k : Int), 0) := by
  unfold countV
  rw [chooseI_nat n k x y h1 h2, if_pos (by omega), if_pos hx]
end Go.Proofs.Ytompjmcbfgckiaa

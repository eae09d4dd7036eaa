/- lotteryref01: MulDiv, Size, signed, Mul. -/
import Derived.Test.YtompjmcbfgckiaaWide
open Go.RowKit
set_option linter.unusedVariables false
set_option linter.unusedSimpArgs false
namespace Go.Proofs.Ytompjmcbfgckiaa

/-- One step of the long division, bit by bit. -/
theorem bit_div {P c q r i : Nat} (hc : 0 < c) (h : P / 2 ^ (i + 1) = q * c + r) (hr : r < c) :
    P / 2 ^ i = 2 * q * c + (2 * r + P / 2 ^ i % 2) := by
  have h1 := half_pow P i
  rw [h] at h1
  have h2 : P / 2 ^ i = 2 * (P / 2 ^ i / 2) + P / 2 ^ i % 2 := by omega
  rw [h1] at h2
  generalize P / 2 ^ i = x at *
  grind

theorem quot_lt {P c q r i : Nat} (hP : P < c * 18446744073709551616) (h : P / 2 ^ i = q * c + r) : q < 18446744073709551616 := by
  have h1 : P / 2 ^ i ≤ P := Nat.div_le_self _ _
  have h2 : q * c < 18446744073709551616 * c := by rw [Nat.mul_comm 18446744073709551616]; omega
  exact Nat.lt_of_mul_lt_mul_right h2

theorem bit_int (hi lo : Nat) (x : Int) (w : World) (h1 : hi < 18446744073709551616) (h2 : lo < 18446744073709551616) (h0 : 0 ≤ x) (h3 : x < 128) :
    Calls Try.prog 54 #[.int .u64 (hi : Int), .int .u64 (lo : Int), .int .i64 x] w
      (Pure (.int .u64 (((hi * 18446744073709551616 + lo) / 2 ^ x.toNat % 2 : Nat) : Int)) w) := by
  obtain ⟨i, rfl⟩ := Int.eq_ofNat_of_zero_le h0
  exact bit_any hi lo i w h1 h2 (by omega)

def Int3 (x y c : Int) (w : World) (e : Ending) (w' : World) : Prop := e = .returned (.tuple #[.int .i64 x, .int .i64 y, .int .i64 c]) ∧ w = w'

set_option maxHeartbeats 2000000 in
set_option maxRecDepth 100000 in
theorem muldiv_any (a b c : Nat) (w : World) (ha : a ≤ 9223372036854775807) (hb : b ≤ 9223372036854775807) (hc0 : 0 < c) (hc : c ≤ 9223372036854775807) (hq : a * b / c ≤ 9223372036854775807) :
    Calls Try.prog 35 #[.int .i64 (a : Int), .int .i64 (b : Int), .int .i64 (c : Int)] w (Int3 ((a * b / c : Nat) : Int) ((a * b % c : Nat) : Int) 0 w) := by
  obtain ⟨P, hP⟩ : ∃ P, P = a * b := ⟨_, rfl⟩
  have hPc : P < c * 18446744073709551616 := by
    have := Nat.div_add_mod P c
    have h2 := Nat.mod_lt P hc0
    rw [← hP] at hq
    have h3 : c * (P / c) ≤ c * 9223372036854775807 := Nat.mul_le_mul_left _ hq
    omega
  obtain ⟨hi, hhi⟩ : ∃ hi, hi = P / 18446744073709551616 := ⟨_, rfl⟩
  obtain ⟨lo, hlo⟩ : ∃ lo, lo = P % 18446744073709551616 := ⟨_, rfl⟩
  have hhc : hi < c := by rw [hhi]; omega
  have hlb : lo < 18446744073709551616 := by omega
  have hPe : hi * 18446744073709551616 + lo = P := by omega
  have hw := hide (fun w => wide_any a b w (by omega) (by omega))
  obtain ⟨Q, hQ⟩ : ∃ Q, Q = a * b / c := ⟨_, rfl⟩
  obtain ⟨R, hR⟩ : ∃ R, R = a * b % c := ⟨_, rfl⟩
  rw [← hQ, ← hR]
  rw [← hP] at hQ hR
  have hQb : Q ≤ 9223372036854775807 := by rw [hQ, hP]; exact hq
  have hz : ((c : Int) == 0) = false := by simp; omega
  have hhi2 : (hi : Int) < (c : Int) := by omega
  have hdc : decide (c ≤ hi) = false := decide_eq_false (by omega)
  replace hP := hide hP
  replace hhi := hide hhi
  replace hlo := hide hlo
  replace hPe := hide hPe
  replace hQ := hide hQ
  replace hR := hide hR
  clear hq
  go_enter Try.func35, Try.ntmps35
  go_wp2_with fail
  refine (hw.out _).mono ?_
  rintro e w' ⟨rfl, rfl⟩
  rw [← hP.out, ← hhi.out, ← hlo.out]
  go_wp2
  go_loopw [11, 12, 13] (fun qq rr ii wr => w = wr ∧ ∃ (q r m : Nat), m ≤ 128 ∧ qq = .int .u64 q ∧ rr = .int .u64 r ∧ ii = .int .i64 ((m : Int) - 1) ∧ r < c ∧ Hid (P / 2 ^ m = q * c + r) ∧ q < 18446744073709551616) (fun _ _ ii _ => (intOf ii + 1).toNat)
  case atStart =>
    refine ⟨rfl, 0, 0, 128, by omega, rfl, rfl, rfl, hc0, ?_, by omega⟩
    show P / 2 ^ 128 = _
    rw [Nat.div_eq_of_lt]
    · simp
    · have : (2 : Nat) ^ 128 = 18446744073709551616 * 18446744073709551616 := by decide
      omega
  case round =>
    obtain ⟨rfl, q, r, m, hm, rfl, rfl, rfl, hr, hE, hqb⟩ := hrel
    by_cases hm0 : m = 0
    · subst hm0
      have hE2 := hE.out
      rw [Nat.pow_zero, Nat.div_one] at hE2
      have hq1 : Q = q := by rw [hQ.out, hE2, Nat.mul_comm q c, Nat.mul_add_div hc0, Nat.div_eq_of_lt hr]; omega
      have hr1 : R = r := by rw [hR.out, hE2, Nat.mul_comm q c, Nat.mul_add_mod, Nat.mod_eq_of_lt hr]
      subst hq1 hr1
      clear hE2 hE
      go_wp2
      go_ret3
      exact ⟨rfl, rfl⟩
    · have hst := bit_div (i := m - 1) hc0 (by rw [Nat.sub_add_cancel (by omega)]; exact hE.out) hr
      obtain ⟨bt, hbt⟩ : ∃ bt, bt = P / 2 ^ (m - 1) % 2 := ⟨_, rfl⟩
      rw [← hbt] at hst
      rw [show m - 1 = ((m : Int) - 1).toNat by omega] at hbt
      have hb2 : bt < 2 := by omega
      have h2q : 2 * q < 18446744073709551616 := quot_lt hPc hst
      replace hbt := hide hbt
      by_cases hge : c ≤ 2 * r + bt
      · have hnew : P / 2 ^ (m - 1) = (2 * q + 1) * c + (2 * r + bt - c) := by
          rw [hst, Nat.add_mul]; omega
        have h2q1 : 2 * q + 1 < 18446744073709551616 := quot_lt hPc hnew
        replace hnew := hide hnew
        clear hst
        go_wp2_with fail
        refine (bit_int hi lo _ _ (by omega) hlb (by omega) (by omega)).mono ?_
        rintro e w' ⟨rfl, rfl⟩
        rw [hPe.out, ← hbt.out]
        go_wp2
        go_roundw
        case rel => exact ⟨trivial, 2 * q + 1, 2 * r + bt - c, m - 1, by omega, by go_num, by go_num, by go_num, by omega, hnew, by omega⟩
        case measure => simp [intOf] <;> omega
      · replace hst := hide hst
        go_wp2_with fail
        refine (bit_int hi lo _ _ (by omega) hlb (by omega) (by omega)).mono ?_
        rintro e w' ⟨rfl, rfl⟩
        rw [hPe.out, ← hbt.out]
        go_wp2
        go_roundw
        case rel => exact ⟨trivial, 2 * q, 2 * r + bt, m - 1, by omega, by go_num, by go_num, by go_num, by omega, hst, by omega⟩
        case measure => simp [intOf] <;> omega
set_option maxHeartbeats 2000000 in
set_option maxRecDepth 100000 in
theorem muldiv_over (a b c : Nat) (w : World) (ha : a ≤ 9223372036854775807) (hb : b ≤ 9223372036854775807) (hc0 : 0 < c) (hc : c ≤ 9223372036854775807) (hq : 9223372036854775807 < a * b / c) :
    Calls Try.prog 35 #[.int .i64 (a : Int), .int .i64 (b : Int), .int .i64 (c : Int)] w (Int3 0 0 9 w) := by
  obtain ⟨P, hP⟩ : ∃ P, P = a * b := ⟨_, rfl⟩
  obtain ⟨hi, hhi⟩ : ∃ hi, hi = P / 18446744073709551616 := ⟨_, rfl⟩
  obtain ⟨lo, hlo⟩ : ∃ lo, lo = P % 18446744073709551616 := ⟨_, rfl⟩
  have hlb : lo < 18446744073709551616 := by omega
  have hib : hi < 18446744073709551616 := by
    have : P ≤ 9223372036854775807 * 9223372036854775807 := by rw [hP]; exact Nat.mul_le_mul ha hb
    omega
  have hPe : hi * 18446744073709551616 + lo = P := by omega
  have hw := hide (fun w => wide_any a b w (by omega) (by omega))
  have hz : ((c : Int) == 0) = false := by simp; omega
  by_cases hhc : hi < c
  · have hPc : P < c * 18446744073709551616 := by omega
    obtain ⟨Q, hQ⟩ : ∃ Q, Q = a * b / c := ⟨_, rfl⟩
    rw [← hQ] at hq
    rw [← hP] at hQ
    have hhi2 : (hi : Int) < (c : Int) := by omega
    have hdc : decide (c ≤ hi) = false := decide_eq_false (by omega)
    replace hP := hide hP
    replace hhi := hide hhi
    replace hlo := hide hlo
    replace hPe := hide hPe
    replace hQ := hide hQ
    go_enter Try.func35, Try.ntmps35
    go_wp2_with fail
    refine (hw.out _).mono ?_
    rintro e w' ⟨rfl, rfl⟩
    rw [← hP.out, ← hhi.out, ← hlo.out]
    go_wp2
    go_loopw [11, 12, 13] (fun qq rr ii wr => w = wr ∧ ∃ (q r m : Nat), m ≤ 128 ∧ qq = .int .u64 q ∧ rr = .int .u64 r ∧ ii = .int .i64 ((m : Int) - 1) ∧ r < c ∧ Hid (P / 2 ^ m = q * c + r) ∧ q < 18446744073709551616) (fun _ _ ii _ => (intOf ii + 1).toNat)
    case atStart =>
      refine ⟨rfl, 0, 0, 128, by omega, rfl, rfl, rfl, hc0, ?_, by omega⟩
      show P / 2 ^ 128 = _
      rw [Nat.div_eq_of_lt]
      · simp
      · have : (2 : Nat) ^ 128 = 18446744073709551616 * 18446744073709551616 := by decide
        omega
    case round =>
      obtain ⟨rfl, q, r, m, hm, rfl, rfl, rfl, hr, hE, hqb⟩ := hrel
      by_cases hm0 : m = 0
      · subst hm0
        have hE2 := hE.out
        rw [Nat.pow_zero, Nat.div_one] at hE2
        have hq1 : Q = q := by rw [hQ.out, hE2, Nat.mul_comm q c, Nat.mul_add_div hc0, Nat.div_eq_of_lt hr]; omega
        subst hq1
        clear hE2 hE
        go_wp2
        go_ret3
        exact ⟨rfl, rfl⟩
      · have hst := bit_div (i := m - 1) hc0 (by rw [Nat.sub_add_cancel (by omega)]; exact hE.out) hr
        obtain ⟨bt, hbt⟩ : ∃ bt, bt = P / 2 ^ (m - 1) % 2 := ⟨_, rfl⟩
        rw [← hbt] at hst
        rw [show m - 1 = ((m : Int) - 1).toNat by omega] at hbt
        have hb2 : bt < 2 := by omega
        have h2q : 2 * q < 18446744073709551616 := quot_lt hPc hst
        replace hbt := hide hbt
        by_cases hge : c ≤ 2 * r + bt
        · have hnew : P / 2 ^ (m - 1) = (2 * q + 1) * c + (2 * r + bt - c) := by
            rw [hst, Nat.add_mul]; omega
          have h2q1 : 2 * q + 1 < 18446744073709551616 := quot_lt hPc hnew
          replace hnew := hide hnew
          clear hst
          go_wp2_with fail
          refine (bit_int hi lo _ _ (by omega) hlb (by omega) (by omega)).mono ?_
          rintro e w' ⟨rfl, rfl⟩
          rw [hPe.out, ← hbt.out]
          go_wp2
          go_roundw
          case rel => exact ⟨trivial, 2 * q + 1, 2 * r + bt - c, m - 1, by omega, by go_num, by go_num, by go_num, by omega, hnew, by omega⟩
          case measure => simp [intOf] <;> omega
        · replace hst := hide hst
          go_wp2_with fail
          refine (bit_int hi lo _ _ (by omega) hlb (by omega) (by omega)).mono ?_
          rintro e w' ⟨rfl, rfl⟩
          rw [hPe.out, ← hbt.out]
          go_wp2
          go_roundw
          case rel => exact ⟨trivial, 2 * q, 2 * r + bt, m - 1, by omega, by go_num, by go_num, by go_num, by omega, hst, by omega⟩
          case measure => simp [intOf] <;> omega
  · have hhi2 : (c : Int) ≤ (hi : Int) := by omega
    replace hP := hide hP
    replace hhi := hide hhi
    replace hlo := hide hlo
    replace hPe := hide hPe
    clear hq
    go_enter Try.func35, Try.ntmps35
    go_wp2_with fail
    refine (hw.out _).mono ?_
    rintro e w' ⟨rfl, rfl⟩
    rw [← hP.out, ← hhi.out, ← hlo.out]
    go_wp2
    go_ret3
    exact ⟨rfl, rfl⟩

/-- Size and signed at numbers that are not below 0. -/
theorem size_pos (a : Nat) (w : World) (ha : a ≤ 9223372036854775807) : Calls Try.prog 55 #[.int .i64 (a : Int)] w (Pure (.int .u64 (a : Int)) w) := by
  go_enter Try.func55, Try.ntmps55
  go_wp2
  go_ret
  exact ⟨rfl, rfl⟩

def IntP (x c : Int) (w : World) (e : Ending) (w' : World) : Prop := e = .returned (.tuple #[.int .i64 x, .int .i64 c]) ∧ w = w'

theorem signed_pos (x : Nat) (w : World) (h : x ≤ 9223372036854775807) : Calls Try.prog 56 #[.int .u64 (x : Int), .bool false] w (IntP x 0 w) := by
  go_enter Try.func56, Try.ntmps56
  go_wp2
  go_ret2
  exact ⟨rfl, rfl⟩

theorem signed_over (x : Nat) (w : World) (h : 9223372036854775807 < x) : Calls Try.prog 56 #[.int .u64 (x : Int), .bool false] w (IntP 0 9 w) := by
  go_enter Try.func56, Try.ntmps56
  go_wp2
  go_ret2
  exact ⟨rfl, rfl⟩

def mulV (p : Nat) : Int × Int := if p ≤ 9223372036854775807 then (p, 0) else (0, 9)

set_option maxHeartbeats 1000000 in
theorem rmul_pos (a b : Nat) (w : World) (ha : a ≤ 9223372036854775807) (hb : b ≤ 9223372036854775807) :
    Calls Try.prog 36 #[.int .i64 (a : Int), .int .i64 (b : Int)] w (IntP (mulV (a * b)).1 (mulV (a * b)).2 w) := by
  obtain ⟨P, hP⟩ : ∃ P, P = a * b := ⟨_, rfl⟩
  obtain ⟨hi, hhi⟩ : ∃ hi, hi = P / 18446744073709551616 := ⟨_, rfl⟩
  obtain ⟨lo, hlo⟩ : ∃ lo, lo = P % 18446744073709551616 := ⟨_, rfl⟩
  have hw := hide (fun w => wide_any a b w (by omega) (by omega))
  have hda : decide ((a : Int) < 0) = false := decide_eq_false (by omega)
  have hdb : decide ((b : Int) < 0) = false := decide_eq_false (by omega)
  rw [← hP]
  by_cases h0 : hi = 0
  · have hPl : P = lo := by omega
    subst h0
    unfold mulV
    by_cases hle : P ≤ 9223372036854775807
    · rw [if_pos hle]
      rw [hPl] at hle ⊢
      replace hP := hide hP
      replace hhi := hide hhi
      replace hlo := hide hlo
      replace hPl := hide hPl
      go_enter Try.func36, Try.ntmps36
      go_wp2_with fail
      refine (size_pos a _ ha).mono ?_
      rintro e w' ⟨rfl, rfl⟩
      go_wp2_with fail
      refine (size_pos b _ hb).mono ?_
      rintro e w' ⟨rfl, rfl⟩
      go_wp2_with fail
      refine (hw.out _).mono ?_
      rintro e w' ⟨rfl, rfl⟩
      rw [← hP.out, ← hhi.out, ← hlo.out]
      go_wp2_with fail
      refine (signed_pos lo _ hle).mono ?_
      rintro e w' ⟨rfl, rfl⟩
      go_wp2
      go_ret2
      exact ⟨rfl, rfl⟩
    · rw [if_neg hle]
      rw [hPl] at hle
      replace hP := hide hP
      replace hhi := hide hhi
      replace hlo := hide hlo
      replace hPl := hide hPl
      go_enter Try.func36, Try.ntmps36
      go_wp2_with fail
      refine (size_pos a _ ha).mono ?_
      rintro e w' ⟨rfl, rfl⟩
      go_wp2_with fail
      refine (size_pos b _ hb).mono ?_
      rintro e w' ⟨rfl, rfl⟩
      go_wp2_with fail
      refine (hw.out _).mono ?_
      rintro e w' ⟨rfl, rfl⟩
      rw [← hP.out, ← hhi.out, ← hlo.out]
      go_wp2_with fail
      refine (signed_over lo _ (by omega)).mono ?_
      rintro e w' ⟨rfl, rfl⟩
      go_wp2
      go_ret2
      exact ⟨rfl, rfl⟩
  · have hne : ((hi : Int) != 0) = true := by simp; omega
    have : ¬ P ≤ 9223372036854775807 := by omega
    unfold mulV
    rw [if_neg this]
    replace hP := hide hP
    replace hhi := hide hhi
    replace hlo := hide hlo
    clear this h0
    go_enter Try.func36, Try.ntmps36
    go_wp2_with fail
    refine (size_pos a _ ha).mono ?_
    rintro e w' ⟨rfl, rfl⟩
    go_wp2_with fail
    refine (size_pos b _ hb).mono ?_
    rintro e w' ⟨rfl, rfl⟩
    go_wp2_with fail
    refine (hw.out _).mono ?_
    rintro e w' ⟨rfl, rfl⟩
    rw [← hP.out, ← hhi.out, ← hlo.out]
    go_wp2
    go_ret2
    exact ⟨rfl, rfl⟩
end Go.Proofs.Ytompjmcbfgckiaa

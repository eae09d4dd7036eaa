/- lotteryref01: Wide, bit, Size, signed, Mul, MulDiv. -/
import Derived.Test.YtompjmcbfgckiaaSame
import Derived.Test.YtompjmcbfgckiaaBits
open Go.RowKit
set_option linter.unusedVariables false
set_option linter.unusedSimpArgs false
namespace Go.Proofs.Ytompjmcbfgckiaa

theorem wide_law (a0 a1 b0 b1 : Nat) (h0 : a0 < 4294967296) (h2 : b0 < 4294967296) (q : Nat) (hq : q = (a0 + 4294967296 * a1) * (b0 + 4294967296 * b1)) :
    q / 18446744073709551616 = a1 * b1 + (a1 * b0 + a0 * b0 / 4294967296) / 4294967296 + (a0 * b1 + (a1 * b0 + a0 * b0 / 4294967296) % 4294967296) / 4294967296 ∧
    q % 18446744073709551616 = (a0 * b1 + (a1 * b0 + a0 * b0 / 4294967296) % 4294967296) % 4294967296 * 4294967296 + a0 * b0 % 4294967296 := by
  have e : q = a0 * b0 + 4294967296 * (a1 * b0) + 4294967296 * (a0 * b1) + 18446744073709551616 * (a1 * b1) := by grind
  generalize a0 * b0 = p00 at *
  generalize a1 * b0 = p10 at *
  generalize a0 * b1 = p01 at *
  generalize a1 * b1 = p11 at *
  omega

set_option maxHeartbeats 1000000 in
theorem wide_any (a b : Nat) (w : World) (ha : a < 18446744073709551616) (hb : b < 18446744073709551616) :
    Calls Try.prog 53 #[.int .u64 (a : Int), .int .u64 (b : Int)] w
      (Pure (.tuple #[.int .u64 ((a * b / 18446744073709551616 : Nat) : Int), .int .u64 ((a * b % 18446744073709551616 : Nat) : Int)]) w) := by
  obtain ⟨a0, ea0⟩ : ∃ a0, a0 = a % 4294967296 := ⟨_, rfl⟩
  obtain ⟨a1, ea1⟩ : ∃ a1, a1 = a / 4294967296 := ⟨_, rfl⟩
  obtain ⟨b0, eb0⟩ : ∃ b0, b0 = b % 4294967296 := ⟨_, rfl⟩
  obtain ⟨b1, eb1⟩ : ∃ b1, b1 = b / 4294967296 := ⟨_, rfl⟩
  have l0 : a0 < 4294967296 := by omega
  have l1 : a1 < 4294967296 := by omega
  have m0 : b0 < 4294967296 := by omega
  have m1 : b1 < 4294967296 := by omega
  have ja0 : (a : Int) % 4294967296 = (a0 : Int) := by omega
  have ja1 : (a : Int) / 4294967296 = (a1 : Int) := by omega
  have jb0 : (b : Int) % 4294967296 = (b0 : Int) := by omega
  have jb1 : (b : Int) / 4294967296 = (b1 : Int) := by omega
  obtain ⟨w1, w2⟩ := wide_law a0 a1 b0 b1 l0 m0 (a * b) (by rw [show a0 + 4294967296 * a1 = a by omega, show b0 + 4294967296 * b1 = b by omega])
  rw [w1, w2]
  clear w1 w2 ea0 ea1 eb0 eb1
  have p00 := mul_bd l0 m0
  have p10 := mul_bd l1 m0
  have p01 := mul_bd l0 m1
  have p11 := mul_bd l1 m1
  obtain ⟨p00a, p00b⟩ := p00
  obtain ⟨p10a, p10b⟩ := p10
  obtain ⟨p01a, p01b⟩ := p01
  obtain ⟨p11a, p11b⟩ := p11
  have hfit : (a1 : Int) * b1 + ((a1 : Int) * b0 + (a0 : Int) * b0 / 4294967296) / 4294967296 + ((a0 : Int) * b1 + ((a1 : Int) * b0 + (a0 : Int) * b0 / 4294967296) % 4294967296) / 4294967296 < 18446744073709551616 := by omega
  go_enter Try.func53, Try.ntmps53
  go_wp2
  go_ret2
  exact ⟨by simp, rfl⟩

theorem half_pow (x k : Nat) : x / 2 ^ k / 2 = x / 2 ^ (k + 1) := by rw [Nat.pow_succ, Nat.div_div_eq_div_mul]

set_option maxHeartbeats 1000000 in
theorem bit_any (hi lo i : Nat) (w : World) (h1 : hi < 18446744073709551616) (h2 : lo < 18446744073709551616) (h3 : i < 128) :
    Calls Try.prog 54 #[.int .u64 (hi : Int), .int .u64 (lo : Int), .int .i64 (i : Int)] w
      (Pure (.int .u64 (((hi * 18446744073709551616 + lo) / 2 ^ i % 2 : Nat) : Int)) w) := by
  by_cases hc : i < 64
  · have hv : (hi * 18446744073709551616 + lo) / 2 ^ i % 2 = lo / 2 ^ i % 2 := by
      have e : hi * 18446744073709551616 = 2 ^ i * (2 * (hi * 2 ^ (63 - i))) := by
        have : (18446744073709551616 : Nat) = 2 ^ i * 2 * 2 ^ (63 - i) := by rw [← Nat.pow_succ, ← Nat.pow_add, show i + 1 + (63 - i) = 64 by omega]
        rw [this]; grind
      rw [e, Nat.mul_add_div (Nat.pow_pos (by omega)), Nat.mul_add_mod]
    rw [hv]
    clear hv
    obtain ⟨r, hr⟩ : ∃ r, r = lo / 2 ^ i % 2 := ⟨_, rfl⟩
    rw [← hr]
    replace hr := hide hr
    go_enter Try.func54, Try.ntmps54
    go_wp2
    go_loop [7, 8] (fun x k => ∃ j xv : Nat, j ≤ i ∧ k = .int .i64 j ∧ x = .int .u64 xv ∧ Hid (xv = lo / 2 ^ j) ∧ xv < 18446744073709551616) (fun _ k => i - (intOf k).toNat)
    case atStart => exact ⟨0, lo, Nat.zero_le _, rfl, rfl, by show _ = _; simp, h2⟩
    case round =>
      obtain ⟨j, xv, hj, rfl, rfl, hx, hxb⟩ := hrel
      by_cases hji : j < i
      · have hnew := hide (show xv / 2 = lo / 2 ^ (j + 1) by rw [hx.out, half_pow])
        go_wp2
        go_round
        case rel => exact ⟨j + 1, xv / 2, by omega, by go_num, by go_num, hnew, by omega⟩
        case measure => simp [intOf]; omega
      · obtain rfl : j = i := by omega
        go_wp2
        go_ret
        have e : ((xv : Int) % 2) = (r : Int) := by rw [hr.out, ← hx.out]; omega
        exact ⟨by rw [← e]; rfl, rfl⟩
  · obtain ⟨k, rfl⟩ : ∃ k, i = 64 + k := ⟨i - 64, by omega⟩
    have hv : (hi * 18446744073709551616 + lo) / 2 ^ (64 + k) % 2 = hi / 2 ^ k % 2 := by
      rw [Nat.pow_add, ← Nat.div_div_eq_div_mul]
      congr 2
      have : (2 : Nat) ^ 64 = 18446744073709551616 := by decide
      rw [this]
      omega
    rw [hv]
    clear hv
    obtain ⟨r, hr⟩ : ∃ r, r = hi / 2 ^ k % 2 := ⟨_, rfl⟩
    rw [← hr]
    replace hr := hide hr
    go_enter Try.func54, Try.ntmps54
    go_wp2
    go_loop [7, 8] (fun x t => ∃ j xv : Nat, j ≤ k ∧ t = .int .i64 j ∧ x = .int .u64 xv ∧ Hid (xv = hi / 2 ^ j) ∧ xv < 18446744073709551616) (fun _ t => k - (intOf t).toNat)
    case atStart => exact ⟨0, hi, Nat.zero_le _, rfl, rfl, by show _ = _; simp, h1⟩
    case round =>
      obtain ⟨j, xv, hj, rfl, rfl, hx, hxb⟩ := hrel
      by_cases hji : j < k
      · have hnew := hide (show xv / 2 = hi / 2 ^ (j + 1) by rw [hx.out, half_pow])
        go_wp2
        go_round
        case rel => exact ⟨j + 1, xv / 2, by omega, by go_num, by go_num, hnew, by omega⟩
        case measure => simp [intOf]; omega
      · obtain rfl : j = k := by omega
        go_wp2
        go_ret
        have e : ((xv : Int) % 2) = (r : Int) := by rw [hr.out, ← hx.out]; omega
        exact ⟨by rw [← e]; rfl, rfl⟩
end Go.Proofs.Ytompjmcbfgckiaa

/- Lemmas, merged out of smaller texts. No condition. -/
import Derived.Test.YtlppomkpmnpmcaaGreatRow
import Derived.Test.YtlppomkpmnpmcaaGreatOf
import Derived.Test.YtlppomkpmnpmcaaGreatMul
import Derived.Test.YtlppomkpmnpmcaaGreatBits
import Derived.Test.YtlppomkpmnpmcaaGreatChooseLaw
import Derived.Test.YtlppomkpmnpmcaaGreatLineLaw
import Derived.Test.YtlppomkpmnpmcaaGreatCount
import Derived.Test.YtlppomkpmnpmcaaGreatRank
import Derived.Test.YtlppomkpmnpmcaaGreatRuleCheck
import Derived.Deep.LoopGhost
import Derived.Laws.Rows
import Derived.Test.YtlppomkpmnpmcaaGreatSl
import Derived.Test.YtlppomkpmnpmcaaGreatLineSmall
import Derived.Test.YtlppomkpmnpmcaaGreatLine
import Derived.Test.YtlppomkpmnpmcaaGreatRCheck
import Derived.Test.YtlppomkpmnpmcaaGreatUnrank

section
/- lotteryref01: Wide, bit, Size, signed, Mul, MulDiv. -/
open Go.RowKit
set_option linter.unusedVariables false
set_option linter.unusedSimpArgs false
namespace Go.Proofs.YtlppomkpmnpmcaaGreat

theorem wide_law (a0 a1 b0 b1 : Nat) (h0 : a0 < 4294967296) (h2 : b0 < 4294967296) (q : Nat) (hq : q = (a0 + 4294967296 * a1) * (b0 + 4294967296 * b1)) :
    q / 18446744073709551616 = a1 * b1 + (a1 * b0 + a0 * b0 / 4294967296) / 4294967296 + (a0 * b1 + (a1 * b0 + a0 * b0 / 4294967296) % 4294967296) / 4294967296 ∧
    q % 18446744073709551616 = (a0 * b1 + (a1 * b0 + a0 * b0 / 4294967296) % 4294967296) % 4294967296 * 4294967296 + a0 * b0 % 4294967296 := by
  have e : q = a0 * b0 + 4294967296 * (a1 * b0) + 4294967296 * (a0 * b1) + 18446744073709551616 * (a1 * b1) := by grind
  generalize a0 * b0 = p00 at *
  generalize a1 * b0 = p10 at *
  generalize a0 * b1 = p01 at *
  generalize a1 * b1 = p11 at *
  omega

set_option maxHeartbeats 1000000 in
theorem wide_any (a b : Nat) (w : World) (ha : a < 18446744073709551616) (hb : b < 18446744073709551616) :
    Calls Tryz.prog 90 #[.int .u64 (a : Int), .int .u64 (b : Int)] w
      (Pure (.tuple #[.int .u64 ((a * b / 18446744073709551616 : Nat) : Int), .int .u64 ((a * b % 18446744073709551616 : Nat) : Int)]) w) := by
  obtain ⟨a0, ea0⟩ : ∃ a0, a0 = a % 4294967296 := ⟨_, rfl⟩
  obtain ⟨a1, ea1⟩ : ∃ a1, a1 = a / 4294967296 := ⟨_, rfl⟩
  obtain ⟨b0, eb0⟩ : ∃ b0, b0 = b % 4294967296 := ⟨_, rfl⟩
  obtain ⟨b1, eb1⟩ : ∃ b1, b1 = b / 4294967296 := ⟨_, rfl⟩
  have l0 : a0 < 4294967296 := by omega
  have l1 : a1 < 4294967296 := by omega
  have m0 : b0 < 4294967296 := by omega
  have m1 : b1 < 4294967296 := by omega
  have ja0 : (a : Int) % 4294967296 = (a0 : Int) := by omega
  have ja1 : (a : Int) / 4294967296 = (a1 : Int) := by omega
  have jb0 : (b : Int) % 4294967296 = (b0 : Int) := by omega
  have jb1 : (b : Int) / 4294967296 = (b1 : Int) := by omega
  obtain ⟨w1, w2⟩ := wide_law a0 a1 b0 b1 l0 m0 (a * b) (by rw [show a0 + 4294967296 * a1 = a by omega, show b0 + 4294967296 * b1 = b by omega])
  rw [w1, w2]
  clear w1 w2 ea0 ea1 eb0 eb1
  have p00 := mul_bd l0 m0
  have p10 := mul_bd l1 m0
  have p01 := mul_bd l0 m1
  have p11 := mul_bd l1 m1
  obtain ⟨p00a, p00b⟩ := p00
  obtain ⟨p10a, p10b⟩ := p10
  obtain ⟨p01a, p01b⟩ := p01
  obtain ⟨p11a, p11b⟩ := p11
  have hfit : (a1 : Int) * b1 + ((a1 : Int) * b0 + (a0 : Int) * b0 / 4294967296) / 4294967296 + ((a0 : Int) * b1 + ((a1 : Int) * b0 + (a0 : Int) * b0 / 4294967296) % 4294967296) / 4294967296 < 18446744073709551616 := by omega
  go_enter Tryz.func90, Tryz.ntmps90
  go_wp2
  go_ret2
  exact ⟨by simp, rfl⟩

theorem half_pow (x k : Nat) : x / 2 ^ k / 2 = x / 2 ^ (k + 1) := by rw [Nat.pow_succ, Nat.div_div_eq_div_mul]

set_option maxHeartbeats 1000000 in
theorem bit_any (hi lo i : Nat) (w : World) (h1 : hi < 18446744073709551616) (h2 : lo < 18446744073709551616) (h3 : i < 128) :
    Calls Tryz.prog 91 #[.int .u64 (hi : Int), .int .u64 (lo : Int), .int .i64 (i : Int)] w
      (Pure (.int .u64 (((hi * 18446744073709551616 + lo) / 2 ^ i % 2 : Nat) : Int)) w) := by
  by_cases hc : i < 64
  · have hv : (hi * 18446744073709551616 + lo) / 2 ^ i % 2 = lo / 2 ^ i % 2 := by
      have e : hi * 18446744073709551616 = 2 ^ i * (2 * (hi * 2 ^ (63 - i))) := by
        have : (18446744073709551616 : Nat) = 2 ^ i * 2 * 2 ^ (63 - i) := by rw [← Nat.pow_succ, ← Nat.pow_add, show i + 1 + (63 - i) = 64 by omega]
        rw [this]; grind
      rw [e, Nat.mul_add_div (Nat.pow_pos (by omega)), Nat.mul_add_mod]
    rw [hv]
    clear hv
    obtain ⟨r, hr⟩ : ∃ r, r = lo / 2 ^ i % 2 := ⟨_, rfl⟩
    rw [← hr]
    replace hr := hide hr
    go_enter Tryz.func91, Tryz.ntmps91
    go_wp2
    go_loop [7, 8] (fun x k => ∃ j xv : Nat, j ≤ i ∧ k = .int .i64 j ∧ x = .int .u64 xv ∧ Hid (xv = lo / 2 ^ j) ∧ xv < 18446744073709551616) (fun _ k => i - (intOf k).toNat)
    case atStart => exact ⟨0, lo, Nat.zero_le _, rfl, rfl, by show _ = _; simp, h2⟩
    case round =>
      obtain ⟨j, xv, hj, rfl, rfl, hx, hxb⟩ := hrel
      by_cases hji : j < i
      · have hnew := hide (show xv / 2 = lo / 2 ^ (j + 1) by rw [hx.out, half_pow])
        go_wp2
        go_round
        case rel => exact ⟨j + 1, xv / 2, by omega, by go_num, by go_num, hnew, by omega⟩
        case measure => simp [intOf]; omega
      · obtain rfl : j = i := by omega
        go_wp2
        go_ret
        have e : ((xv : Int) % 2) = (r : Int) := by rw [hr.out, ← hx.out]; omega
        exact ⟨by rw [← e]; rfl, rfl⟩
  · obtain ⟨k, rfl⟩ : ∃ k, i = 64 + k := ⟨i - 64, by omega⟩
    have hv : (hi * 18446744073709551616 + lo) / 2 ^ (64 + k) % 2 = hi / 2 ^ k % 2 := by
      rw [Nat.pow_add, ← Nat.div_div_eq_div_mul]
      congr 2
      have : (2 : Nat) ^ 64 = 18446744073709551616 := by decide
      rw [this]
      omega
    rw [hv]
    clear hv
    obtain ⟨r, hr⟩ : ∃ r, r = hi / 2 ^ k % 2 := ⟨_, rfl⟩
    rw [← hr]
    replace hr := hide hr
    go_enter Tryz.func91, Tryz.ntmps91
    go_wp2
    go_loop [7, 8] (fun x t => ∃ j xv : Nat, j ≤ k ∧ t = .int .i64 j ∧ x = .int .u64 xv ∧ Hid (xv = hi / 2 ^ j) ∧ xv < 18446744073709551616) (fun _ t => k - (intOf t).toNat)
    case atStart => exact ⟨0, hi, Nat.zero_le _, rfl, rfl, by show _ = _; simp, h1⟩
    case round =>
      obtain ⟨j, xv, hj, rfl, rfl, hx, hxb⟩ := hrel
      by_cases hji : j < k
      · have hnew := hide (show xv / 2 = hi / 2 ^ (j + 1) by rw [hx.out, half_pow])
        go_wp2
        go_round
        case rel => exact ⟨j + 1, xv / 2, by omega, by go_num, by go_num, hnew, by omega⟩
        case measure => simp [intOf]; omega
      · obtain rfl : j = k := by omega
        go_wp2
        go_ret
        have e : ((xv : Int) % 2) = (r : Int) := by rw [hr.out, ← hx.out]; omega
        exact ⟨by rw [← e]; rfl, rfl⟩
end Go.Proofs.YtlppomkpmnpmcaaGreat
end

section
/- math/bits.Mul64; num: magnitude, Mul, Power of numbers that are not negative. -/
open Go.RowKit
set_option linter.unusedVariables false
set_option linter.unusedSimpArgs false
namespace Go.Proofs.YtlppomkpmnpmcaaGreat

theorem and_mask (x : Int) (h0 : 0 ≤ x) (h : x < 18446744073709551616) : bits BinOp.and IntKind.u64 x 4294967295 = x % 4294967296 := by
  obtain ⟨n, rfl⟩ := Int.eq_ofNat_of_zero_le h0
  have := u64_and_nat n 4294967295 (by omega) (by omega)
  rw [show ((4294967295 : Nat) : Int) = (4294967295 : Int) from rfl] at this
  rw [this]
  have e := Nat.and_two_pow_sub_one_eq_mod n 32
  rw [show (2 : Nat) ^ 32 - 1 = 4294967295 by decide, show (2 : Nat) ^ 32 = 4294967296 by decide] at e
  rw [e]
  omega

set_option maxHeartbeats 1000000 in
theorem mul64_any (a b : Nat) (w : World) (ha : a < 18446744073709551616) (hb : b < 18446744073709551616) :
    Calls Tryz.prog 44 #[.int .u64 (a : Int), .int .u64 (b : Int)] w
      (Pure (.tuple #[.int .u64 ((a * b / 18446744073709551616 : Nat) : Int), .int .u64 ((a * b % 18446744073709551616 : Nat) : Int)]) w) := by
  obtain ⟨a0, ea0⟩ : ∃ a0, a0 = a % 4294967296 := ⟨_, rfl⟩
  obtain ⟨a1, ea1⟩ : ∃ a1, a1 = a / 4294967296 := ⟨_, rfl⟩
  obtain ⟨b0, eb0⟩ : ∃ b0, b0 = b % 4294967296 := ⟨_, rfl⟩
  obtain ⟨b1, eb1⟩ : ∃ b1, b1 = b / 4294967296 := ⟨_, rfl⟩
  have l0 : a0 < 4294967296 := by omega
  have l1 : a1 < 4294967296 := by omega
  have m0 : b0 < 4294967296 := by omega
  have m1 : b1 < 4294967296 := by omega
  have ja0 : (a : Int) % 4294967296 = (a0 : Int) := by omega
  have ja1 : (a : Int) / 4294967296 = (a1 : Int) := by omega
  have jb0 : (b : Int) % 4294967296 = (b0 : Int) := by omega
  have jb1 : (b : Int) / 4294967296 = (b1 : Int) := by omega
  obtain ⟨w1, w2⟩ := wide_law a0 a1 b0 b1 l0 m0 (a * b) (by rw [show a0 + 4294967296 * a1 = a by omega, show b0 + 4294967296 * b1 = b by omega])
  rw [w1]
  have hlo : ((a * b % 18446744073709551616 : Nat) : Int) = IntKind.u64.wrap ((a : Int) * (b : Int)) := by rw [IntKind.wrap_u64]; simp
  rw [hlo]
  clear hlo
  clear w1 w2 ea0 ea1 eb0 eb1
  have p00 := mul_bd l0 m0
  have p10 := mul_bd l1 m0
  have p01 := mul_bd l0 m1
  have p11 := mul_bd l1 m1
  obtain ⟨p00a, p00b⟩ := p00
  obtain ⟨p10a, p10b⟩ := p10
  obtain ⟨p01a, p01b⟩ := p01
  obtain ⟨p11a, p11b⟩ := p11
  have ka : bits BinOp.and IntKind.u64 (a : Int) 4294967295 = (a0 : Int) := by rw [and_mask _ (by omega) (by omega), ja0]
  have kb : bits BinOp.and IntKind.u64 (b : Int) 4294967295 = (b0 : Int) := by rw [and_mask _ (by omega) (by omega), jb0]
  have kt : bits BinOp.and IntKind.u64 ((a1 : Int) * b0 + (a0 : Int) * b0 / 4294967296) 4294967295 = ((a1 : Int) * b0 + (a0 : Int) * b0 / 4294967296) % 4294967296 := and_mask _ (by omega) (by omega)
  have hfit : (a1 : Int) * b1 + ((a1 : Int) * b0 + (a0 : Int) * b0 / 4294967296) / 4294967296 + ((a0 : Int) * b1 + ((a1 : Int) * b0 + (a0 : Int) * b0 / 4294967296) % 4294967296) / 4294967296 < 18446744073709551616 := by omega
  go_enter Tryz.func44, Tryz.ntmps44
  go_wp2
  go_ret2
  exact ⟨by simp; omega, rfl⟩

set_option maxRecDepth 100000 in
theorem magn_any (x : Nat) (w : World) (h : x ≤ 9223372036854775807) : Calls Tryz.prog 45 #[.int .i64 (x : Int)] w (Pure (.int .u64 (x : Int)) w) := by
  have h0 : (0 : Int) ≤ (x : Int) := by omega
  have hw : IntKind.u64.wrap (x : Int) = (x : Int) := IntWalk.u64_in _ (by omega)
  have hf : decide ((x : Int) < 0) = false := decide_eq_false (by omega)
  clear h
  go_enter Tryz.func45, Tryz.ntmps45
  go_wp2
  go_ret
  exact ⟨rfl, rfl⟩

set_option maxRecDepth 100000 in
set_option maxHeartbeats 1000000 in
/-- num.Mul of two numbers that are not negative, where the product fits. -/
theorem nmul_ok (a b : Nat) (w : World) (ha : a ≤ 9223372036854775807) (hb : b ≤ 9223372036854775807) (hp : a * b ≤ 9223372036854775807) :
    Calls Tryz.prog 22 #[.int .i64 (a : Int), .int .i64 (b : Int)] w (IntP ((a * b : Nat) : Int) 0 w) := by
  have hm := hide (mul64_any a b w (by omega) (by omega))
  have h1 : a * b / 18446744073709551616 = 0 := Nat.div_eq_of_lt (by omega)
  have h2 : a * b % 18446744073709551616 = a * b := Nat.mod_eq_of_lt (by omega)
  rw [h1, h2] at hm
  obtain ⟨p, hpe⟩ : ∃ p, p = a * b := ⟨_, rfl⟩
  rw [← hpe] at hm hp ⊢
  clear h1 h2 hpe
  have c1 := hide (magn_any a w ha)
  have c2 := hide (magn_any b w hb)
  have f1 : decide ((a : Int) < 0) = false := decide_eq_false (by omega)
  have f2 : decide ((b : Int) < 0) = false := decide_eq_false (by omega)
  have f3 : decide ((9223372036854775807 : Int) < (p : Int)) = false := decide_eq_false (by omega)
  have f4 : wrap64 (p : Int) = (p : Int) := IntWalk.wrap64_in _ (by omega)
  have f5 : (p : Int) ≤ 9223372036854775807 := by omega
  have f6 : (0 : Int) ≤ (a : Int) := by omega
  have f7 : (0 : Int) ≤ (b : Int) := by omega
  clear ha hb hp
  go_enter Tryz.func22, Tryz.ntmps22
  go_wp2_with fail
  refine c1.out.mono ?_
  rintro e w' ⟨rfl, rfl⟩
  go_wp2_with fail
  refine c2.out.mono ?_
  rintro e w' ⟨rfl, rfl⟩
  go_wp2_with fail
  refine hm.out.mono ?_
  rintro e w' ⟨rfl, rfl⟩
  go_wp2
  go_ret2
  exact ⟨rfl, rfl⟩
end Go.Proofs.YtlppomkpmnpmcaaGreat
end

section
/- Binomial coefficients, quickly. -/
set_option linter.unusedVariables false
namespace Go.Proofs.YtlppomkpmnpmcaaGreat

def chooseF : Nat → Nat → Nat
  | _, 0 => 1
  | 0, _ + 1 => 0
  | n + 1, k + 1 => chooseF n k * (n + 1) / (k + 1)

theorem choose_fast (n k : Nat) : choose n k = chooseF n k := by
  induction n generalizing k with
  | zero => cases k <;> rfl
  | succ n ih => cases k with
    | zero => rw [choose_zero]; rfl
    | succ k =>
      have := choose_mul n k
      rw [chooseF, ← ih, ← this, Nat.mul_div_cancel _ (by omega)]
end Go.Proofs.YtlppomkpmnpmcaaGreat
end

section
/- num.Power; matrix.Count. -/
open Go.RowKit
set_option linter.unusedVariables false
set_option linter.unusedSimpArgs false
namespace Go.Proofs.YtlppomkpmnpmcaaGreat

set_option maxRecDepth 100000 in
set_option maxHeartbeats 1000000 in
theorem power_ok (a n : Nat) (w : World) (hn : n ≤ 62) (ha : a ≤ 9223372036854775807) (hp : ∀ i, i ≤ n → a ^ i ≤ 9223372036854775807) :
    Calls Tryz.prog 21 #[.int .i64 (a : Int), .int .i64 (n : Int)] w (IntP ((a ^ n : Nat) : Int) 0 w) := by
  have n1 : (0 : Int) ≤ (n : Int) := by omega
  have n2 : (n : Int) ≤ 62 := by omega
  replace hp := hide hp
  obtain ⟨r, hr⟩ : ∃ r, r = a ^ n := ⟨_, rfl⟩
  rw [← hr]
  replace hr := hide hr
  have ha2 := hide ha
  clear ha
  go_enter Tryz.func21, Tryz.ntmps21
  go_wp2
  go_loopg [16, 6] n (fun g t q wr => ∃ (i p : Nat), g = n - i ∧ i ≤ n ∧ t = .int .i64 i ∧ q = .int .i64 p ∧ w = wr ∧ p = a ^ i)
  case atStart => exact ⟨0, 1, rfl, Nat.zero_le _, rfl, rfl, rfl, rfl⟩
  case round =>
    obtain ⟨i, p, hg, hi, rfl, rfl, rfl, hpi⟩ := hrel
    replace hg := hide hg
    replace hpi := hide hpi
    by_cases hlt : i < n
    · have hlt2 := hide hlt
      have hnext : p * a = a ^ (i + 1) := by rw [hpi.out]; rfl
      have hb1 : p ≤ 9223372036854775807 := by rw [hpi.out]; exact hp.out i (by omega)
      have hb2 : p * a ≤ 9223372036854775807 := by rw [hnext]; exact hp.out (i + 1) (by omega)
      have hm := hide (nmul_ok p a w hb1 ha2.out hb2)
      obtain ⟨q, hq⟩ : ∃ q, q = p * a := ⟨_, rfl⟩
      rw [← hq] at hm hnext
      replace hnext := hide hnext
      clear hb1 hb2 hq
      go_wp2_with fail
      refine hm.out.mono ?_
      rintro e w' ⟨rfl, rfl⟩
      go_wp2
      go_roundg (n - (i + 1))
      case measure => have := hg.out; have := hlt2.out; omega
      case rel => exact ⟨i + 1, q, rfl, by have := hlt2.out; omega, by go_num, rfl, rfl, hnext.out⟩
    · have hin : i = n := by omega
      have hend : r = p := by rw [hr.out, hpi.out, hin]
      replace hend := hide hend
      replace hin := hide hin
      go_wp2
      go_ret2
      rw [hend.out]
      exact ⟨rfl, rfl⟩

theorem choose_mono_n {m n k : Nat} (h : m ≤ n) : choose m k ≤ choose n k := by
  induction n with
  | zero => rw [Nat.le_zero.1 h]; exact Nat.le_refl _
  | succ n ih =>
    rcases Nat.lt_or_ge m (n + 1) with h1 | h1
    · refine Nat.le_trans (ih (by omega)) ?_
      cases k with
      | zero => rw [choose_zero, choose_zero]; exact Nat.le_refl _
      | succ k => rw [choose_succ]; omega
    · rw [show m = n + 1 by omega]; exact Nat.le_refl _

theorem choose_main {n k : Nat} (hn : n ≤ 80) (hk : k ≤ 10) : choose n k ≤ 1646492110120 := by
  refine Nat.le_trans (choose_mono_n hn) ?_
  rw [choose_fast]
  have : k = 0 ∨ k = 1 ∨ k = 2 ∨ k = 3 ∨ k = 4 ∨ k = 5 ∨ k = 6 ∨ k = 7 ∨ k = 8 ∨ k = 9 ∨ k = 10 := by omega
  rcases this with rfl | rfl | rfl | rfl | rfl | rfl | rfl | rfl | rfl | rfl | rfl <;> decide

theorem choose_bonus {n k : Nat} (hn : n ≤ 80) (hk : k ≤ 4) : choose n k ≤ 1581580 := by
  refine Nat.le_trans (choose_mono_n hn) ?_
  rw [choose_fast]
  have : k = 0 ∨ k = 1 ∨ k = 2 ∨ k = 3 ∨ k = 4 := by omega
  rcases this with rfl | rfl | rfl | rfl | rfl <;> decide

theorem game_kind {g : GameD} (h : gameE g = 0) : g.kind = 1 ∨ g.kind = 2 := by
  unfold gameE at h
  split at h
  · omega
  · split at h
    · omega
    · rename_i h1 h2; omega

theorem game_mat {g : GameD} (h : gameE g = 0) : matB g = true := by
  unfold gameE at h
  split at h
  · omega
  · split at h
    · omega
    · split at h
      · omega
      · rename_i h1 h2 h3; simpa using h3

theorem mat_facts {g : GameD} (h : matB g = true) : 1 ≤ g.main ∧ g.main ≤ 10 ∧ 0 ≤ g.bonus ∧ g.bonus ≤ 4 ∧ 0 ≤ g.of ∧ g.of ≤ 80 ∧ (g.kind = 2 → 2 ≤ g.of ∧ g.of ≤ 10) ∧ (g.kind ≠ 2 → g.main ≤ g.of) ∧ g.bonus ≤ g.bonusOf ∧ 0 ≤ g.bonusOf ∧ g.bonusOf ≤ 80 := by
  unfold matB at h
  simp only [Bool.and_eq_true] at h
  obtain ⟨⟨⟨⟨⟨⟨⟨h1, h2⟩, h3⟩, h4⟩, h5⟩, h6⟩, h7⟩, h8⟩ := h
  have a2 := inB_iff.1 h2
  split at h3 <;> split at h4 <;> split at h5 <;> (have a3 := inB_iff.1 h3; have a4 := inB_iff.1 h4; have a5 := inB_iff.1 h5; omega)

theorem pow_ten {a n : Nat} (ha : a ≤ 10) (hn : n ≤ 10) : a ^ n ≤ 10000000000 := by
  refine Nat.le_trans (Nat.pow_le_pow_left ha n) (Nat.le_trans (Nat.pow_le_pow_right (by omega) hn) (by decide))

set_option maxHeartbeats 2000000 in
set_option maxRecDepth 100000 in
theorem mcount_bad (g : GameD) (av tv : Value) (ms : List AddonM) (w : World) (h : GameR w av tv ms g) (he : gameE g ≠ 0) :
    Calls Tryz.prog 9 #[gameVal g av tv] w (IntC 0 (gameE g) w) := by
  have hc := hide (fun X (hX : GameR X av tv ms g) => gcheck_any g av tv ms X hX)
  have hh := hide h
  obtain ⟨aa, ac, rfl, hal, ham⟩ := h.1.1.shape
  obtain ⟨ta, tc, rfl, htl, htm⟩ := h.2.2.shape
  clear h
  obtain ⟨c, hcc⟩ : ∃ c, c = gameE g := ⟨_, rfl⟩
  rw [← hcc] at hc he ⊢
  clear hcc
  obtain ⟨gname, gkind, gprice, gmain, gof, gbonus, gbonusOf, gextra, gdraws, gsystem, gdays, gat, gclose, gcancel, gexpiry, gpool, greserve, ground, gcap, grolls, ga, gt⟩ := g
  unfold gameVal at hc ⊢
  (try simp only [] at hc ⊢)
  have hcb : (c != 0) = true := by simpa using he
  replace he := hide he
  go_enter Tryz.func9, Tryz.ntmps9
  go_upto_region 1 with (fail)
  obtain ⟨W, hW⟩ : ∃ W, W = (w.alloc (Obj.cells #[.string gname, .int .i64 gkind, .int .i64 gprice, .int .i64 gmain, .int .i64 gof, .int .i64 gbonus, .int .i64 gbonusOf, .int .i64 gextra, .int .i64 gdraws, .int .i64 gsystem, .int .i64 gdays, .int .i64 gat, .int .i64 gclose, .int .i64 gcancel, .int .i64 gexpiry, .int .i64 gpool, .int .i64 greserve, .int .i64 ground, .int .i64 gcap, .int .i64 grolls, (.slice aa ms.length ac), (.slice ta gt.length tc)] 25)) := ⟨_, rfl⟩
  have bW : Below w.heap.size w W := by rw [hW]; exact Bel.al (Below.refl _ _) _
  have r0 : Row W (w.heap.size) 25 [.string gname, .int .i64 gkind, .int .i64 gprice, .int .i64 gmain, .int .i64 gof, .int .i64 gbonus, .int .i64 gbonusOf, .int .i64 gextra, .int .i64 gdraws, .int .i64 gsystem, .int .i64 gdays, .int .i64 gat, .int .i64 gclose, .int .i64 gcancel, .int .i64 gexpiry, .int .i64 gpool, .int .i64 greserve, .int .i64 ground, .int .i64 gcap, .int .i64 grolls, (.slice aa ms.length ac), (.slice ta gt.length tc)] := by rw [hW]; exact Row.new _ _ _
  have c0_1 : W.cell? ⟨w.heap.size, 1, none⟩ = some (.int .i64 gkind) := Row.cell r0 (i := 1) (by simp)
  have c0_3 : W.cell? ⟨w.heap.size, 3, none⟩ = some (.int .i64 gmain) := Row.cell r0 (i := 3) (by simp)
  have c0_4 : W.cell? ⟨w.heap.size, 4, none⟩ = some (.int .i64 gof) := Row.cell r0 (i := 4) (by simp)
  have c0_5 : W.cell? ⟨w.heap.size, 5, none⟩ = some (.int .i64 gbonus) := Row.cell r0 (i := 5) (by simp)
  have c0_6 : W.cell? ⟨w.heap.size, 6, none⟩ = some (.int .i64 gbonusOf) := Row.cell r0 (i := 6) (by simp)
  have sW : w.heap.size < W.heap.size := by rw [hW]; simp
  rw [← hW]
  clear hW
  go_wp2_with (first | (refine wpList_load_row rfl 25 _ rfl _ rfl _ _ _ _ r0 Tryz.underlying25 rfl (by kernel_rfl) ?_) | fail)
  refine (hc.out _ (hh.out.below bW)).mono ?_
  rintro e w1 ⟨s, rfl, hb1⟩
  go_wp2
  go_ret2
  exact ⟨rfl, Bel.to bW hb1⟩

theorem countV_fit {n k : Int} {N K : Nat} (hn : n = N) (hk : k = K) (h80 : N ≤ 80) (hx : choose N K ≤ 9223372036854775807) : countV n k = ((choose N K : Int), 0) := by
  unfold countV
  rw [chooseI_nat N K n k hn hk, if_pos (by omega), if_pos hx]

set_option maxHeartbeats 2000000 in
set_option maxRecDepth 100000 in
theorem mcount_ok (g : GameD) (av tv : Value) (ms : List AddonM) (w : World) (h : GameR w av tv ms g) (he : gameE g = 0) :
    Calls Tryz.prog 9 #[gameVal g av tv] w (IntC (countG g) 0 w) := by
  have hc := hide (fun X (hX : GameR X av tv ms g) => gcheck_any g av tv ms X hX)
  have hk := game_kind he
  have hf := mat_facts (game_mat he)
  have hh := hide h
  obtain ⟨aa, ac, rfl, hal, ham⟩ := h.1.1.shape
  obtain ⟨ta, tc, rfl, htl, htm⟩ := h.2.2.shape
  clear h
  rw [he] at hc
  clear he
  obtain ⟨r, hr⟩ : ∃ r, r = countG g := ⟨_, rfl⟩
  rw [← hr]
  unfold countG at hr
  obtain ⟨gname, gkind, gprice, gmain, gof, gbonus, gbonusOf, gextra, gdraws, gsystem, gdays, gat, gclose, gcancel, gexpiry, gpool, greserve, ground, gcap, grolls, ga, gt⟩ := g
  unfold gameVal at hc ⊢
  (try simp only [] at hc hk hf hr ⊢)
  obtain ⟨f1, f2, f3, f4, f5, f6, f7, f8, f9, f10, f11⟩ := hf
  obtain ⟨nm, rfl⟩ := Int.eq_ofNat_of_zero_le (show 0 ≤ gmain by omega)
  obtain ⟨nof, rfl⟩ := Int.eq_ofNat_of_zero_le f5
  obtain ⟨nb, rfl⟩ := Int.eq_ofNat_of_zero_le f3
  obtain ⟨nbo, rfl⟩ := Int.eq_ofNat_of_zero_le f10
  have hbel := hide (fun W (bW : Below w.heap.size w W) => hc.out W (hh.out.below bW))
  clear hc hh
  by_cases hk2 : gkind = 2
  · obtain ⟨e1, e2⟩ := f7 hk2
    have hp := hide (fun X => power_ok nof nm X (by omega) (by omega) (fun i hi => Nat.le_trans (pow_ten (by omega) (by omega)) (by omega)))
    rw [if_pos hk2] at hr
    have hr2 : r = nof ^ nm := by rw [hr]; simp
    rw [← hr2] at hp
    replace hr2 := hide hr2
    have hkb : (gkind == 2) = true := by simpa using hk2
    replace hk2 := hide hk2
    clear hr hk f1 f2 f3 f4 f5 f6 f7 f8 f9 f10 f11 e1 e2
    go_enter Tryz.func9, Tryz.ntmps9
    go_upto_region 1 with (fail)
    obtain ⟨W, hW⟩ : ∃ W, W = (w.alloc (Obj.cells #[.string gname, .int .i64 gkind, .int .i64 gprice, .int .i64 (nm : Int), .int .i64 (nof : Int), .int .i64 (nb : Int), .int .i64 (nbo : Int), .int .i64 gextra, .int .i64 gdraws, .int .i64 gsystem, .int .i64 gdays, .int .i64 gat, .int .i64 gclose, .int .i64 gcancel, .int .i64 gexpiry, .int .i64 gpool, .int .i64 greserve, .int .i64 ground, .int .i64 gcap, .int .i64 grolls, (.slice aa ms.length ac), (.slice ta gt.length tc)] 25)) := ⟨_, rfl⟩
    have bW : Below w.heap.size w W := by rw [hW]; exact Bel.al (Below.refl _ _) _
    have r0 : Row W (w.heap.size) 25 [.string gname, .int .i64 gkind, .int .i64 gprice, .int .i64 (nm : Int), .int .i64 (nof : Int), .int .i64 (nb : Int), .int .i64 (nbo : Int), .int .i64 gextra, .int .i64 gdraws, .int .i64 gsystem, .int .i64 gdays, .int .i64 gat, .int .i64 gclose, .int .i64 gcancel, .int .i64 gexpiry, .int .i64 gpool, .int .i64 greserve, .int .i64 ground, .int .i64 gcap, .int .i64 grolls, (.slice aa ms.length ac), (.slice ta gt.length tc)] := by rw [hW]; exact Row.new _ _ _
    have c0_1 : W.cell? ⟨w.heap.size, 1, none⟩ = some (.int .i64 gkind) := Row.cell r0 (i := 1) (by simp)
    have c0_3 : W.cell? ⟨w.heap.size, 3, none⟩ = some (.int .i64 (nm : Int)) := Row.cell r0 (i := 3) (by simp)
    have c0_4 : W.cell? ⟨w.heap.size, 4, none⟩ = some (.int .i64 (nof : Int)) := Row.cell r0 (i := 4) (by simp)
    have c0_5 : W.cell? ⟨w.heap.size, 5, none⟩ = some (.int .i64 (nb : Int)) := Row.cell r0 (i := 5) (by simp)
    have c0_6 : W.cell? ⟨w.heap.size, 6, none⟩ = some (.int .i64 (nbo : Int)) := Row.cell r0 (i := 6) (by simp)
    have sW : w.heap.size < W.heap.size := by rw [hW]; simp
    rw [← hW]
    clear hW
    go_wp2_with (first | (refine wpList_load_row rfl 25 _ rfl _ rfl _ _ _ _ r0 Tryz.underlying25 rfl (by kernel_rfl) ?_) | fail)
    refine (hbel.out _ bW).mono ?_
    rintro e w1 ⟨s, rfl, hb1⟩
    have d1 := Bel.cellOf hb1 c0_1
    have d3 := Bel.cellOf hb1 c0_3
    have d4 := Bel.cellOf hb1 c0_4
    have B1 := Bel.to bW hb1
    clear c0_1 c0_3 c0_4 c0_5 c0_6 r0 hb1
    go_wp2_with fail
    refine (hp.out _).mono ?_
    rintro e w2 ⟨rfl, rfl⟩
    go_wp2
    go_ret2
    exact ⟨rfl, B1⟩
  · rw [if_neg hk2] at hr
    have b1 := choose_main (n := nof) (k := nm) (by omega) (by omega)
    have b2 := choose_bonus (n := nbo) (k := nb) (by omega) (by omega)
    have v1 := countV_fit (n := (nof : Int)) (k := (nm : Int)) rfl rfl (by omega) (by omega)
    have v2 := countV_fit (n := (nbo : Int)) (k := (nb : Int)) rfl rfl (by omega) (by omega)
    have c1 := hide (count_any (nof : Int) (nm : Int))
    have c2 := hide (count_any (nbo : Int) (nb : Int))
    rw [v1] at c1
    rw [v2] at c2
    have hr2 : r = choose nof nm * choose nbo nb := by rw [hr]; simp
    obtain ⟨A, hA⟩ : ∃ A, A = choose nof nm := ⟨_, rfl⟩
    obtain ⟨B, hB⟩ : ∃ B, B = choose nbo nb := ⟨_, rfl⟩
    rw [← hA] at c1 b1 hr2
    rw [← hB] at c2 b2 hr2
    have hm := hide (fun X => nmul_ok A B X (by omega) (by omega) (Nat.le_trans (Nat.mul_le_mul b1 b2) (by omega)))
    rw [← hr2] at hm
    have hkb : (gkind == 2) = false := by simpa using hk2
    replace hk2 := hide hk2
    clear hr hk f1 f2 f3 f4 f5 f6 f7 f8 f9 f10 f11 b1 b2 v1 v2 hr2 hA hB
    go_enter Tryz.func9, Tryz.ntmps9
    go_upto_region 1 with (fail)
    obtain ⟨W, hW⟩ : ∃ W, W = (w.alloc (Obj.cells #[.string gname, .int .i64 gkind, .int .i64 gprice, .int .i64 (nm : Int), .int .i64 (nof : Int), .int .i64 (nb : Int), .int .i64 (nbo : Int), .int .i64 gextra, .int .i64 gdraws, .int .i64 gsystem, .int .i64 gdays, .int .i64 gat, .int .i64 gclose, .int .i64 gcancel, .int .i64 gexpiry, .int .i64 gpool, .int .i64 greserve, .int .i64 ground, .int .i64 gcap, .int .i64 grolls, (.slice aa ms.length ac), (.slice ta gt.length tc)] 25)) := ⟨_, rfl⟩
    have bW : Below w.heap.size w W := by rw [hW]; exact Bel.al (Below.refl _ _) _
    have r0 : Row W (w.heap.size) 25 [.string gname, .int .i64 gkind, .int .i64 gprice, .int .i64 (nm : Int), .int .i64 (nof : Int), .int .i64 (nb : Int), .int .i64 (nbo : Int), .int .i64 gextra, .int .i64 gdraws, .int .i64 gsystem, .int .i64 gdays, .int .i64 gat, .int .i64 gclose, .int .i64 gcancel, .int .i64 gexpiry, .int .i64 gpool, .int .i64 greserve, .int .i64 ground, .int .i64 gcap, .int .i64 grolls, (.slice aa ms.length ac), (.slice ta gt.length tc)] := by rw [hW]; exact Row.new _ _ _
    have c0_1 : W.cell? ⟨w.heap.size, 1, none⟩ = some (.int .i64 gkind) := Row.cell r0 (i := 1) (by simp)
    have c0_3 : W.cell? ⟨w.heap.size, 3, none⟩ = some (.int .i64 (nm : Int)) := Row.cell r0 (i := 3) (by simp)
    have c0_4 : W.cell? ⟨w.heap.size, 4, none⟩ = some (.int .i64 (nof : Int)) := Row.cell r0 (i := 4) (by simp)
    have c0_5 : W.cell? ⟨w.heap.size, 5, none⟩ = some (.int .i64 (nb : Int)) := Row.cell r0 (i := 5) (by simp)
    have c0_6 : W.cell? ⟨w.heap.size, 6, none⟩ = some (.int .i64 (nbo : Int)) := Row.cell r0 (i := 6) (by simp)
    have sW : w.heap.size < W.heap.size := by rw [hW]; simp
    rw [← hW]
    clear hW
    go_wp2_with (first | (refine wpList_load_row rfl 25 _ rfl _ rfl _ _ _ _ r0 Tryz.underlying25 rfl (by kernel_rfl) ?_) | fail)
    refine (hbel.out _ bW).mono ?_
    rintro e w1 ⟨s, rfl, hb1⟩
    have d1 := Bel.cellOf hb1 c0_1
    have d3 := Bel.cellOf hb1 c0_3
    have d4 := Bel.cellOf hb1 c0_4
    have d5 := Bel.cellOf hb1 c0_5
    have d6 := Bel.cellOf hb1 c0_6
    have B1 := Bel.to bW hb1
    clear c0_1 c0_3 c0_4 c0_5 c0_6 r0 hb1
    go_wp2_with fail
    refine (c1.out _).mono ?_
    rintro e w2 ⟨rfl, hb2⟩
    replace d5 := Bel.cellOf hb2 d5
    replace d6 := Bel.cellOf hb2 d6
    replace B1 := Bel.to B1 hb2
    clear d1 d3 d4 hb2
    go_wp2_with fail
    refine (c2.out _).mono ?_
    rintro e w3 ⟨rfl, hb3⟩
    replace B1 := Bel.to B1 hb3
    clear d5 d6 hb3
    go_wp2_with fail
    refine (hm.out _).mono ?_
    rintro e w4 ⟨rfl, rfl⟩
    go_wp2
    go_ret2
    exact ⟨rfl, B1⟩
end Go.Proofs.YtlppomkpmnpmcaaGreat
end

section
/- matrix.repeated: is a number twice in a list? -/
open Go.RowKit
set_option linter.unusedVariables false
set_option linter.unusedSimpArgs false
namespace Go.Proofs.YtlppomkpmnpmcaaGreat

theorem contains_take {l : List Int} {i : Nat} {x : Int} (hi : i ≤ l.length) : (l.take i).contains x = true ↔ ∃ k, ∃ h : k < i, l[k]'(by omega) = x := by
  rw [List.contains_iff_mem]
  constructor
  · intro h
    obtain ⟨k, hk, e⟩ := List.getElem_of_mem h
    rw [List.length_take] at hk
    exact ⟨k, by omega, by rw [← e, List.getElem_take]⟩
  · rintro ⟨k, hk, e⟩
    rw [← e]
    have : (l.take i)[k]'(by rw [List.length_take]; omega) = l[k]'(by omega) := List.getElem_take
    rw [← this]
    exact List.getElem_mem _

set_option maxHeartbeats 1000000 in
theorem repeated13_any (v : Value) (l : List Int) (w : World) (h : Rd I64 w v l) :
    Calls Tryz.prog 26 #[v] w (Pure (.bool (dupB l)) w) := by
  obtain ⟨ao, cap, rfl, hle, hmax, hrd⟩ := Rd.form h
  have hmax2 : cap ≤ 9223372036854775807 := by unfold maxLen at hmax; omega
  go_enter Tryz.func26, Tryz.ntmps26
  go_wp2
  go_loopg [7] l.length (fun g t wr => ∃ (i : Nat), g = l.length - i ∧ i ≤ l.length ∧ t = .int .i64 i ∧ w = wr ∧ ∀ p (hp : p < l.length), p < i → ∀ q (hq : q < p), l[p] ≠ l[q])
  case atStart => exact ⟨0, rfl, Nat.zero_le _, rfl, rfl, fun p hp hpi => absurd hpi (Nat.not_lt_zero _)⟩
  case round =>
    obtain ⟨i, hg, hi', rfl, rfl, hall⟩ := hrel
    replace hg := hide hg
    replace hall := hide hall
    by_cases hlt : i < l.length
    · have hlt2 := hide hlt
      have htk : Rd I64 w (.slice ao i cap) (l.take i) := hrd.take rfl (by omega) (by omega) hmax
      obtain ⟨b, off, rfl, hbb, hcell⟩ := hrd.at_ hlt
      have i1 : (0 : Int) ≤ (i : Int) := by omega
      have i2 : (i : Int) < (l.length : Int) := by omega
      have i3 : (i : Int) ≤ (cap : Int) := by omega
      obtain ⟨x, hx, c1⟩ : ∃ x, x = l[i] ∧ w.cell? ⟨b, off + i, none⟩ = some (.int .i64 x) := ⟨_, rfl, hcell _ hlt⟩
      clear hcell
      obtain ⟨r, hr⟩ : ∃ r, r = (l.take i).contains x := ⟨_, rfl⟩
      have hcon := hide (contains_any (.slice (some ⟨b, off, none⟩) i cap) (l.take i) x w htk)
      rw [← hr] at hcon
      cases r
      · have hnext : ∀ p (hp : p < l.length), p < i + 1 → ∀ q (hq : q < p), l[p] ≠ l[q] := by
          intro p hp hpi q hq
          rcases Nat.lt_succ_iff_lt_or_eq.1 hpi with h | rfl
          · exact hall.out p hp h q hq
          · intro e
            have := contains_take (l := l) (i := p) (x := x) (by omega)
            rw [← hr] at this
            have h2 := this.2 ⟨q, hq, by rw [hx]; exact e.symm⟩
            cases h2
        replace hnext := hide hnext
        replace hx := hide hx
        replace hr := hide hr
        go_wp2_with fail
        refine hcon.out.mono ?_
        rintro e w' ⟨rfl, rfl⟩
        go_wp2
        go_roundg (l.length - (i + 1))
        case measure => have := hg.out; have := hlt2.out; omega
        case rel => exact ⟨i + 1, rfl, by have := hlt2.out; omega, by go_num, rfl, hnext.out⟩
      · obtain ⟨k, hk, e⟩ := (contains_take (l := l) (i := i) (x := x) (by omega)).1 hr.symm
        have hrr := hide (dupB_at hlt hk (by rw [e]; exact hx.symm))
        clear e
        replace hx := hide hx
        replace hr := hide hr
        go_wp2_with fail
        refine hcon.out.mono ?_
        rintro e w' ⟨rfl, rfl⟩
        go_wp2
        go_ret
        rw [hrr.out]
        exact ⟨rfl, rfl⟩
    · have hr := hide (dupB_none (l := l) (fun i hi k hk => hall.out i hi (by omega) k hk))
      go_wp2
      go_ret
      rw [hr.out]
      exact ⟨rfl, rfl⟩
end Go.Proofs.YtlppomkpmnpmcaaGreat
end

section
/- matrix.Check, lotteryref13.Check: the code of a line. -/
open Go.RowKit
set_option linter.unusedVariables false
set_option linter.unusedSimpArgs false
namespace Go.Proofs.YtlppomkpmnpmcaaGreat

set_option maxHeartbeats 4000000 in
set_option maxRecDepth 100000 in
theorem rlcheck_any (g : GameD) (av tv mv bv : Value) (ms : List AddonM) (a b : List Int) (w : World) (h : GameR w av tv ms g) (hl : LineR w mv bv a b) :
    Calls Tryz.prog 16 #[gameVal g av tv, lineVal mv bv] w (IntB (lineE g a b) w) := by
  have hc := hide (fun X (hX : GameR X av tv ms g) => rcheck_any g av tv ms X hX)
  have hh := hide h
  have hl' := hide hl
  obtain ⟨aa, ac, rfl, hal, ham⟩ := h.1.1.shape
  obtain ⟨ta, tc, rfl, htl, htm⟩ := h.2.2.shape
  obtain ⟨ma, mc, rfl, hma, hmc, -⟩ := hl.1.form
  obtain ⟨ba, bc, rfl, hba, hbc, -⟩ := hl.2.form
  clear h hl
  obtain ⟨r, hr⟩ : ∃ r, r = lineE g a b := ⟨_, rfl⟩
  rw [← hr]
  unfold lineE at hr
  obtain ⟨c, hcc⟩ : ∃ c, c = gameE g := ⟨_, rfl⟩
  obtain ⟨A, hA⟩ : ∃ A, A = allB a (lowG g) (highG g) := ⟨_, rfl⟩
  obtain ⟨B, hB⟩ : ∃ B, B = allB b 1 g.bonusOf := ⟨_, rfl⟩
  obtain ⟨D, hD⟩ : ∃ D, D = dupB a := ⟨_, rfl⟩
  obtain ⟨E, hE⟩ : ∃ E, E = dupB b := ⟨_, rfl⟩
  obtain ⟨p, hp⟩ : ∃ p, p = ((a.length : Int) != g.main) := ⟨_, rfl⟩
  obtain ⟨q, hq⟩ : ∃ q, q = ((b.length : Int) != g.bonus) := ⟨_, rfl⟩
  have cA := hide (fun X (hX : LineR X (.slice ma a.length mc) (.slice ba b.length bc) a b) => within13_any _ a (lowG g) (highG g) X hX.1)
  have cB := hide (fun X (hX : LineR X (.slice ma a.length mc) (.slice ba b.length bc) a b) => within13_any _ b 1 g.bonusOf X hX.2)
  have cD := hide (fun X (hX : LineR X (.slice ma a.length mc) (.slice ba b.length bc) a b) => twice13_any _ a X hX.1)
  have cE := hide (fun X (hX : LineR X (.slice ma a.length mc) (.slice ba b.length bc) a b) => twice13_any _ b X hX.2)
  rw [← hcc] at hc hr
  rw [← hA] at hr cA
  rw [← hB] at hr cB
  rw [← hD] at hr cD
  rw [← hE] at hr cE
  have hr2 : r = if c ≠ 0 then c else if p = true ∨ q = true then 3 else if A = false ∨ B = false then 2 else if (g.kind ≠ 2 ∧ D = true) ∨ E = true then 6 else 0 := by
    rw [hr, hp, hq]; simp
  clear hr hA hB hD hE
  by_cases hc0 : c = 0
  · have hf := mat_facts (game_mat (hcc.symm.trans hc0))
    rw [if_neg (by simpa using hc0)] at hr2
    subst hc0
    have hof1 : 0 ≤ g.of := by omega
    have hof2 : g.of ≤ 80 := by omega
    clear hf hcc
    replace hp := hp.symm
    replace hq := hq.symm
    by_cases hk : g.kind = 2
    all_goals
      first
        | (have hlo : lowG g = 0 := if_pos hk; have hhi : highG g = g.of - 1 := if_pos hk; have hkb : (g.kind == 2) = true := (by simpa using hk); have hkb2 : (g.kind != 2) = false := (by simpa using hk))
        | (have hlo : lowG g = 1 := if_neg hk; have hhi : highG g = g.of := if_neg hk; have hkb : (g.kind == 2) = false := (by simpa using hk); have hkb2 : (g.kind != 2) = true := (by simpa using hk))
      rw [hlo, hhi] at cA
      have hr3 : r = if p = true ∨ q = true then 3 else if A = false ∨ B = false then 2 else if ((g.kind != 2) = true ∧ D = true) ∨ E = true then 6 else 0 := by
        rw [hr2]; simp
      rw [hkb2] at hr3
      replace hr3 := hide hr3
      replace hk := hide hk
      clear hlo hhi hr2
      unfold gameVal lineVal
      go_enter Tryz.func16, Tryz.ntmps16
      go_upto_region 1 with (fail)
      obtain ⟨W, hW⟩ : ∃ W, W = ((w.alloc (Obj.cells #[.string g.name, .int .i64 g.kind, .int .i64 g.price, .int .i64 g.main, .int .i64 g.of, .int .i64 g.bonus, .int .i64 g.bonusOf, .int .i64 g.extra, .int .i64 g.draws, .int .i64 g.system, .int .i64 g.days, .int .i64 g.at_, .int .i64 g.close, .int .i64 g.cancel, .int .i64 g.expiry, .int .i64 g.pool, .int .i64 g.reserve, .int .i64 g.round, .int .i64 g.cap, .int .i64 g.rolls, (.slice aa ms.length ac), (.slice ta g.tiers.length tc)] 25)).alloc (Obj.cells #[(.slice ma a.length mc), (.slice ba b.length bc)] 28)) := ⟨_, rfl⟩
      have bW : Below w.heap.size w W := by rw [hW]; exact Bel.al (Bel.al (Below.refl _ _) _) _
      have r0 : GameAt W (w.heap.size) g ((.slice aa ms.length ac)) ((.slice ta g.tiers.length tc)) := by rw [hW]; exact Row.alloc (Row.new _ _ _) _
      have r1 : LineAt W (w.heap.size + 1) ((.slice ma a.length mc)) ((.slice ba b.length bc)) := by rw [hW]; exact Row.at2 _ _ _ _
      have sW : w.heap.size + 1 < W.heap.size := by rw [hW]; simp
      rw [← hW]
      clear hW
      go_wp2_with (first | (refine wpList_load_row rfl 25 _ rfl _ rfl _ _ _ _ r0 Tryz.underlying25 rfl (by kernel_rfl) ?_) | fail)
      refine (hc.out _ (hh.out.below bW)).mono ?_
      rintro e w1 ⟨s, rfl, hb1⟩
      have B1 := Bel.to bW hb1
      have r0 := r0.keep hb1
      have r1 := r1.keep hb1
      have hl1 := hide (hl'.out.below B1)
      have d1 := r0.kind
      have d3 := r0.main
      have d4 := r0.of
      have d5 := r0.bonus
      have d6 := r0.bonusOf
      have l0 := r1.main
      have l1 := r1.bonus
      clear hb1
      go_wp2_with (first | (go_at_call 34; first | ((with_reducible refine (cA.out _ hl1.out).mono ?_); rintro e w' ⟨rfl, rfl⟩) | ((with_reducible refine (cB.out _ hl1.out).mono ?_); rintro e w' ⟨rfl, rfl⟩)) | (go_at_call 35; first | ((with_reducible refine (cD.out _ hl1.out).mono ?_); rintro e w2 ⟨rfl, hb2⟩; have l1 := Bel.cellOf hb2 l1; have hl1 := hide (hl1.out.below hb2); have B1 := Bel.to B1 hb2; clear hb2) | ((with_reducible refine (cE.out _ hl1.out).mono ?_); rintro e w2 ⟨rfl, hb2⟩; have B1 := Bel.to B1 hb2; clear hb2)) | fail)
      all_goals
        go_ret
        refine ⟨?_, by assumption⟩
        rw [hr3.out]
        simp_all
  · rw [if_pos hc0] at hr2
    have hcb : (c != 0) = true := by simpa using hc0
    replace hr2 := hide hr2
    replace hc0 := hide hc0
    clear hp hq hcc
    unfold gameVal lineVal
    go_enter Tryz.func16, Tryz.ntmps16
    go_upto_region 1 with (fail)
    obtain ⟨W, hW⟩ : ∃ W, W = ((w.alloc (Obj.cells #[.string g.name, .int .i64 g.kind, .int .i64 g.price, .int .i64 g.main, .int .i64 g.of, .int .i64 g.bonus, .int .i64 g.bonusOf, .int .i64 g.extra, .int .i64 g.draws, .int .i64 g.system, .int .i64 g.days, .int .i64 g.at_, .int .i64 g.close, .int .i64 g.cancel, .int .i64 g.expiry, .int .i64 g.pool, .int .i64 g.reserve, .int .i64 g.round, .int .i64 g.cap, .int .i64 g.rolls, (.slice aa ms.length ac), (.slice ta g.tiers.length tc)] 25)).alloc (Obj.cells #[(.slice ma a.length mc), (.slice ba b.length bc)] 28)) := ⟨_, rfl⟩
    have bW : Below w.heap.size w W := by rw [hW]; exact Bel.al (Bel.al (Below.refl _ _) _) _
    have r0 : GameAt W (w.heap.size) g ((.slice aa ms.length ac)) ((.slice ta g.tiers.length tc)) := by rw [hW]; exact Row.alloc (Row.new _ _ _) _
    have r1 : LineAt W (w.heap.size + 1) ((.slice ma a.length mc)) ((.slice ba b.length bc)) := by rw [hW]; exact Row.at2 _ _ _ _
    have sW : w.heap.size + 1 < W.heap.size := by rw [hW]; simp
    rw [← hW]
    clear hW
    go_wp2_with (first | (refine wpList_load_row rfl 25 _ rfl _ rfl _ _ _ _ r0 Tryz.underlying25 rfl (by kernel_rfl) ?_) | fail)
    refine (hc.out _ (hh.out.below bW)).mono ?_
    rintro e w1 ⟨s, rfl, hb1⟩
    have B1 := Bel.to bW hb1
    clear hb1
    go_wp2
    go_ret
    rw [hr2.out]
    exact ⟨rfl, B1⟩

set_option maxHeartbeats 4000000 in
set_option maxRecDepth 100000 in
theorem mlcheck_any (g : GameD) (av tv mv bv : Value) (ms : List AddonM) (a b : List Int) (w : World) (h : GameR w av tv ms g) (hl : LineR w mv bv a b) :
    Calls Tryz.prog 12 #[gameVal g av tv, lineVal mv bv] w (IntB (lineE g a b) w) := by
  have hc := hide (fun X (hX : GameR X av tv ms g) => gcheck_any g av tv ms X hX)
  have hh := hide h
  have hl' := hide hl
  obtain ⟨aa, ac, rfl, hal, ham⟩ := h.1.1.shape
  obtain ⟨ta, tc, rfl, htl, htm⟩ := h.2.2.shape
  obtain ⟨ma, mc, rfl, hma, hmc, -⟩ := hl.1.form
  obtain ⟨ba, bc, rfl, hba, hbc, -⟩ := hl.2.form
  clear h hl
  obtain ⟨r, hr⟩ : ∃ r, r = lineE g a b := ⟨_, rfl⟩
  rw [← hr]
  unfold lineE at hr
  obtain ⟨c, hcc⟩ : ∃ c, c = gameE g := ⟨_, rfl⟩
  obtain ⟨A, hA⟩ : ∃ A, A = allB a (lowG g) (highG g) := ⟨_, rfl⟩
  obtain ⟨B, hB⟩ : ∃ B, B = allB b 1 g.bonusOf := ⟨_, rfl⟩
  obtain ⟨D, hD⟩ : ∃ D, D = dupB a := ⟨_, rfl⟩
  obtain ⟨E, hE⟩ : ∃ E, E = dupB b := ⟨_, rfl⟩
  obtain ⟨p, hp⟩ : ∃ p, p = ((a.length : Int) != g.main) := ⟨_, rfl⟩
  obtain ⟨q, hq⟩ : ∃ q, q = ((b.length : Int) != g.bonus) := ⟨_, rfl⟩
  have cA := hide (fun X (hX : LineR X (.slice ma a.length mc) (.slice ba b.length bc) a b) => inside13_any _ a (lowG g) (highG g) X hX.1)
  have cB := hide (fun X (hX : LineR X (.slice ma a.length mc) (.slice ba b.length bc) a b) => inside13_any _ b 1 g.bonusOf X hX.2)
  have cD := hide (fun X (hX : LineR X (.slice ma a.length mc) (.slice ba b.length bc) a b) => repeated13_any _ a X hX.1)
  have cE := hide (fun X (hX : LineR X (.slice ma a.length mc) (.slice ba b.length bc) a b) => repeated13_any _ b X hX.2)
  rw [← hcc] at hc hr
  rw [← hA] at hr cA
  rw [← hB] at hr cB
  rw [← hD] at hr cD
  rw [← hE] at hr cE
  have hr2 : r = if c ≠ 0 then c else if p = true ∨ q = true then 3 else if A = false ∨ B = false then 2 else if (g.kind ≠ 2 ∧ D = true) ∨ E = true then 6 else 0 := by
    rw [hr, hp, hq]; simp
  clear hr hA hB hD hE
  by_cases hc0 : c = 0
  · have hf := mat_facts (game_mat (hcc.symm.trans hc0))
    rw [if_neg (by simpa using hc0)] at hr2
    subst hc0
    have hof1 : 0 ≤ g.of := by omega
    have hof2 : g.of ≤ 80 := by omega
    clear hf hcc
    replace hp := hp.symm
    replace hq := hq.symm
    by_cases hk : g.kind = 2
    all_goals
      first
        | (have hlo : lowG g = 0 := if_pos hk; have hhi : highG g = g.of - 1 := if_pos hk; have hkb : (g.kind == 2) = true := (by simpa using hk); have hkb2 : (g.kind != 2) = false := (by simpa using hk))
        | (have hlo : lowG g = 1 := if_neg hk; have hhi : highG g = g.of := if_neg hk; have hkb : (g.kind == 2) = false := (by simpa using hk); have hkb2 : (g.kind != 2) = true := (by simpa using hk))
      rw [hlo, hhi] at cA
      have hr3 : r = if p = true ∨ q = true then 3 else if A = false ∨ B = false then 2 else if ((g.kind != 2) = true ∧ D = true) ∨ E = true then 6 else 0 := by
        rw [hr2]; simp
      rw [hkb2] at hr3
      replace hr3 := hide hr3
      replace hk := hide hk
      clear hlo hhi hr2
      unfold gameVal lineVal
      go_enter Tryz.func12, Tryz.ntmps12
      go_upto_region 1 with (fail)
      obtain ⟨W, hW⟩ : ∃ W, W = ((w.alloc (Obj.cells #[.string g.name, .int .i64 g.kind, .int .i64 g.price, .int .i64 g.main, .int .i64 g.of, .int .i64 g.bonus, .int .i64 g.bonusOf, .int .i64 g.extra, .int .i64 g.draws, .int .i64 g.system, .int .i64 g.days, .int .i64 g.at_, .int .i64 g.close, .int .i64 g.cancel, .int .i64 g.expiry, .int .i64 g.pool, .int .i64 g.reserve, .int .i64 g.round, .int .i64 g.cap, .int .i64 g.rolls, (.slice aa ms.length ac), (.slice ta g.tiers.length tc)] 25)).alloc (Obj.cells #[(.slice ma a.length mc), (.slice ba b.length bc)] 28)) := ⟨_, rfl⟩
      have bW : Below w.heap.size w W := by rw [hW]; exact Bel.al (Bel.al (Below.refl _ _) _) _
      have r0 : GameAt W (w.heap.size) g ((.slice aa ms.length ac)) ((.slice ta g.tiers.length tc)) := by rw [hW]; exact Row.alloc (Row.new _ _ _) _
      have r1 : LineAt W (w.heap.size + 1) ((.slice ma a.length mc)) ((.slice ba b.length bc)) := by rw [hW]; exact Row.at2 _ _ _ _
      have sW : w.heap.size + 1 < W.heap.size := by rw [hW]; simp
      rw [← hW]
      clear hW
      go_wp2_with (first | (refine wpList_load_row rfl 25 _ rfl _ rfl _ _ _ _ r0 Tryz.underlying25 rfl (by kernel_rfl) ?_) | fail)
      refine (hc.out _ (hh.out.below bW)).mono ?_
      rintro e w1 ⟨s, rfl, hb1⟩
      have B1 := Bel.to bW hb1
      have r0 := r0.keep hb1
      have r1 := r1.keep hb1
      have hl1 := hide (hl'.out.below B1)
      have d1 := r0.kind
      have d3 := r0.main
      have d4 := r0.of
      have d5 := r0.bonus
      have d6 := r0.bonusOf
      have l0 := r1.main
      have l1 := r1.bonus
      clear hb1
      go_wp2
      all_goals first
        | (go_ret; refine ⟨?_, B1⟩; rw [hr3.out]; simp_all; done)
        | (go_quiet (fail); go_upto_region 10 with (fail); first | (go_quiet (fail); go_wp2_with (first | (go_at_call 25; first | ((with_reducible refine (cA.out _ ?_).mono ?_); (exact hl1.out); rintro e w' ⟨rfl, rfl⟩) | ((with_reducible refine (cB.out _ ?_).mono ?_); (exact hl1.out); rintro e w' ⟨rfl, rfl⟩)) | (go_at_call 26; first | ((with_reducible refine (cD.out _ ?_).mono ?_); (exact hl1.out); rintro e w' ⟨rfl, rfl⟩) | ((with_reducible refine (cE.out _ ?_).mono ?_); (exact hl1.out); rintro e w' ⟨rfl, rfl⟩)) | fail)) | go_wp2_with (first | (go_at_call 25; first | ((with_reducible refine (cA.out _ ?_).mono ?_); (exact hl1.out); rintro e w' ⟨rfl, rfl⟩) | ((with_reducible refine (cB.out _ ?_).mono ?_); (exact hl1.out); rintro e w' ⟨rfl, rfl⟩)) | (go_at_call 26; first | ((with_reducible refine (cD.out _ ?_).mono ?_); (exact hl1.out); rintro e w' ⟨rfl, rfl⟩) | ((with_reducible refine (cE.out _ ?_).mono ?_); (exact hl1.out); rintro e w' ⟨rfl, rfl⟩)) | fail))

      all_goals
        go_ret
        refine ⟨?_, by first | exact B1 | exact Bel.drN B1 _ | exact Bel.drN (Bel.drN B1 _) _⟩
        rw [hr3.out]
        simp_all
  · rw [if_pos hc0] at hr2
    have hcb : (c != 0) = true := by simpa using hc0
    replace hr2 := hide hr2
    replace hc0 := hide hc0
    clear hp hq hcc
    unfold gameVal lineVal
    go_enter Tryz.func12, Tryz.ntmps12
    go_upto_region 1 with (fail)
    obtain ⟨W, hW⟩ : ∃ W, W = ((w.alloc (Obj.cells #[.string g.name, .int .i64 g.kind, .int .i64 g.price, .int .i64 g.main, .int .i64 g.of, .int .i64 g.bonus, .int .i64 g.bonusOf, .int .i64 g.extra, .int .i64 g.draws, .int .i64 g.system, .int .i64 g.days, .int .i64 g.at_, .int .i64 g.close, .int .i64 g.cancel, .int .i64 g.expiry, .int .i64 g.pool, .int .i64 g.reserve, .int .i64 g.round, .int .i64 g.cap, .int .i64 g.rolls, (.slice aa ms.length ac), (.slice ta g.tiers.length tc)] 25)).alloc (Obj.cells #[(.slice ma a.length mc), (.slice ba b.length bc)] 28)) := ⟨_, rfl⟩
    have bW : Below w.heap.size w W := by rw [hW]; exact Bel.al (Bel.al (Below.refl _ _) _) _
    have r0 : GameAt W (w.heap.size) g ((.slice aa ms.length ac)) ((.slice ta g.tiers.length tc)) := by rw [hW]; exact Row.alloc (Row.new _ _ _) _
    have r1 : LineAt W (w.heap.size + 1) ((.slice ma a.length mc)) ((.slice ba b.length bc)) := by rw [hW]; exact Row.at2 _ _ _ _
    have sW : w.heap.size + 1 < W.heap.size := by rw [hW]; simp
    rw [← hW]
    clear hW
    go_wp2_with (first | (refine wpList_load_row rfl 25 _ rfl _ rfl _ _ _ _ r0 Tryz.underlying25 rfl (by kernel_rfl) ?_) | fail)
    refine (hc.out _ (hh.out.below bW)).mono ?_
    rintro e w1 ⟨s, rfl, hb1⟩
    have B1 := Bel.to bW hb1
    clear hb1
    go_wp2
    go_ret
    rw [hr2.out]
    exact ⟨rfl, B1⟩
end Go.Proofs.YtlppomkpmnpmcaaGreat
end

section
/- lotteryref01: MulDiv, Size, signed, Mul. -/
open Go.RowKit
set_option linter.unusedVariables false
set_option linter.unusedSimpArgs false
namespace Go.Proofs.YtlppomkpmnpmcaaGreat

/-- One step of the long division, bit by bit. -/
theorem bit_div {P c q r i : Nat} (hc : 0 < c) (h : P / 2 ^ (i + 1) = q * c + r) (hr : r < c) :
    P / 2 ^ i = 2 * q * c + (2 * r + P / 2 ^ i % 2) := by
  have h1 := half_pow P i
  rw [h] at h1
  have h2 : P / 2 ^ i = 2 * (P / 2 ^ i / 2) + P / 2 ^ i % 2 := by omega
  rw [h1] at h2
  generalize P / 2 ^ i = x at *
  grind

theorem quot_lt {P c q r i : Nat} (hP : P < c * 18446744073709551616) (h : P / 2 ^ i = q * c + r) : q < 18446744073709551616 := by
  have h1 : P / 2 ^ i ≤ P := Nat.div_le_self _ _
  have h2 : q * c < 18446744073709551616 * c := by rw [Nat.mul_comm 18446744073709551616]; omega
  exact Nat.lt_of_mul_lt_mul_right h2

theorem bit_int (hi lo : Nat) (x : Int) (w : World) (h1 : hi < 18446744073709551616) (h2 : lo < 18446744073709551616) (h0 : 0 ≤ x) (h3 : x < 128) :
    Calls Tryz.prog 91 #[.int .u64 (hi : Int), .int .u64 (lo : Int), .int .i64 x] w
      (Pure (.int .u64 (((hi * 18446744073709551616 + lo) / 2 ^ x.toNat % 2 : Nat) : Int)) w) := by
  obtain ⟨i, rfl⟩ := Int.eq_ofNat_of_zero_le h0
  exact bit_any hi lo i w h1 h2 (by omega)

def Int3 (x y c : Int) (w : World) (e : Ending) (w' : World) : Prop := e = .returned (.tuple #[.int .i64 x, .int .i64 y, .int .i64 c]) ∧ w = w'

set_option maxHeartbeats 2000000 in
set_option maxRecDepth 100000 in
theorem muldiv_any (a b c : Nat) (w : World) (ha : a ≤ 9223372036854775807) (hb : b ≤ 9223372036854775807) (hc0 : 0 < c) (hc : c ≤ 9223372036854775807) (hq : a * b / c ≤ 9223372036854775807) :
    Calls Tryz.prog 62 #[.int .i64 (a : Int), .int .i64 (b : Int), .int .i64 (c : Int)] w (Int3 ((a * b / c : Nat) : Int) ((a * b % c : Nat) : Int) 0 w) := by
  obtain ⟨P, hP⟩ : ∃ P, P = a * b := ⟨_, rfl⟩
  have hPc : P < c * 18446744073709551616 := by
    have := Nat.div_add_mod P c
    have h2 := Nat.mod_lt P hc0
    rw [← hP] at hq
    have h3 : c * (P / c) ≤ c * 9223372036854775807 := Nat.mul_le_mul_left _ hq
    omega
  obtain ⟨hi, hhi⟩ : ∃ hi, hi = P / 18446744073709551616 := ⟨_, rfl⟩
  obtain ⟨lo, hlo⟩ : ∃ lo, lo = P % 18446744073709551616 := ⟨_, rfl⟩
  have hhc : hi < c := by rw [hhi]; omega
  have hlb : lo < 18446744073709551616 := by omega
  have hPe : hi * 18446744073709551616 + lo = P := by omega
  have hw := hide (fun w => wide_any a b w (by omega) (by omega))
  obtain ⟨Q, hQ⟩ : ∃ Q, Q = a * b / c := ⟨_, rfl⟩
  obtain ⟨R, hR⟩ : ∃ R, R = a * b % c := ⟨_, rfl⟩
  rw [← hQ, ← hR]
  rw [← hP] at hQ hR
  have hQb : Q ≤ 9223372036854775807 := by rw [hQ, hP]; exact hq
  have hz : ((c : Int) == 0) = false := by simp; omega
  have hhi2 : (hi : Int) < (c : Int) := by omega
  have hdc : decide (c ≤ hi) = false := decide_eq_false (by omega)
  replace hP := hide hP
  replace hhi := hide hhi
  replace hlo := hide hlo
  replace hPe := hide hPe
  replace hQ := hide hQ
  replace hR := hide hR
  clear hq
  go_enter Tryz.func62, Tryz.ntmps62
  go_wp2_with fail
  refine (hw.out _).mono ?_
  rintro e w' ⟨rfl, rfl⟩
  rw [← hP.out, ← hhi.out, ← hlo.out]
  go_wp2
  go_loopw [11, 12, 13] (fun qq rr ii wr => w = wr ∧ ∃ (q r m : Nat), m ≤ 128 ∧ qq = .int .u64 q ∧ rr = .int .u64 r ∧ ii = .int .i64 ((m : Int) - 1) ∧ r < c ∧ Hid (P / 2 ^ m = q * c + r) ∧ q < 18446744073709551616) (fun _ _ ii _ => (intOf ii + 1).toNat)
  case atStart =>
    refine ⟨rfl, 0, 0, 128, by omega, rfl, rfl, rfl, hc0, ?_, by omega⟩
    show P / 2 ^ 128 = _
    rw [Nat.div_eq_of_lt]
    · simp
    · have : (2 : Nat) ^ 128 = 18446744073709551616 * 18446744073709551616 := by decide
      omega
  case round =>
    obtain ⟨rfl, q, r, m, hm, rfl, rfl, rfl, hr, hE, hqb⟩ := hrel
    by_cases hm0 : m = 0
    · subst hm0
      have hE2 := hE.out
      rw [Nat.pow_zero, Nat.div_one] at hE2
      have hq1 : Q = q := by rw [hQ.out, hE2, Nat.mul_comm q c, Nat.mul_add_div hc0, Nat.div_eq_of_lt hr]; omega
      have hr1 : R = r := by rw [hR.out, hE2, Nat.mul_comm q c, Nat.mul_add_mod, Nat.mod_eq_of_lt hr]
      subst hq1 hr1
      clear hE2 hE
      go_wp2
      go_ret3
      exact ⟨rfl, rfl⟩
    · have hst := bit_div (i := m - 1) hc0 (by rw [Nat.sub_add_cancel (by omega)]; exact hE.out) hr
      obtain ⟨bt, hbt⟩ : ∃ bt, bt = P / 2 ^ (m - 1) % 2 := ⟨_, rfl⟩
      rw [← hbt] at hst
      rw [show m - 1 = ((m : Int) - 1).toNat by omega] at hbt
      have hb2 : bt < 2 := by omega
      have h2q : 2 * q < 18446744073709551616 := quot_lt hPc hst
      replace hbt := hide hbt
      by_cases hge : c ≤ 2 * r + bt
      · have hnew : P / 2 ^ (m - 1) = (2 * q + 1) * c + (2 * r + bt - c) := by
          rw [hst, Nat.add_mul]; omega
        have h2q1 : 2 * q + 1 < 18446744073709551616 := quot_lt hPc hnew
        replace hnew := hide hnew
        clear hst
        go_wp2_with fail
        refine (bit_int hi lo _ _ (by omega) hlb (by omega) (by omega)).mono ?_
        rintro e w' ⟨rfl, rfl⟩
        rw [hPe.out, ← hbt.out]
        go_wp2
        go_roundw
        case rel => exact ⟨trivial, 2 * q + 1, 2 * r + bt - c, m - 1, by omega, by go_num, by go_num, by go_num, by omega, hnew, by omega⟩
        case measure => simp [intOf] <;> omega
      · replace hst := hide hst
        go_wp2_with fail
        refine (bit_int hi lo _ _ (by omega) hlb (by omega) (by omega)).mono ?_
        rintro e w' ⟨rfl, rfl⟩
        rw [hPe.out, ← hbt.out]
        go_wp2
        go_roundw
        case rel => exact ⟨trivial, 2 * q, 2 * r + bt, m - 1, by omega, by go_num, by go_num, by go_num, by omega, hst, by omega⟩
        case measure => simp [intOf] <;> omega
set_option maxHeartbeats 2000000 in
set_option maxRecDepth 100000 in
theorem muldiv_over (a b c : Nat) (w : World) (ha : a ≤ 9223372036854775807) (hb : b ≤ 9223372036854775807) (hc0 : 0 < c) (hc : c ≤ 9223372036854775807) (hq : 9223372036854775807 < a * b / c) :
    Calls Tryz.prog 62 #[.int .i64 (a : Int), .int .i64 (b : Int), .int .i64 (c : Int)] w (Int3 0 0 9 w) := by
  obtain ⟨P, hP⟩ : ∃ P, P = a * b := ⟨_, rfl⟩
  obtain ⟨hi, hhi⟩ : ∃ hi, hi = P / 18446744073709551616 := ⟨_, rfl⟩
  obtain ⟨lo, hlo⟩ : ∃ lo, lo = P % 18446744073709551616 := ⟨_, rfl⟩
  have hlb : lo < 18446744073709551616 := by omega
  have hib : hi < 18446744073709551616 := by
    have : P ≤ 9223372036854775807 * 9223372036854775807 := by rw [hP]; exact Nat.mul_le_mul ha hb
    omega
  have hPe : hi * 18446744073709551616 + lo = P := by omega
  have hw := hide (fun w => wide_any a b w (by omega) (by omega))
  have hz : ((c : Int) == 0) = false := by simp; omega
  by_cases hhc : hi < c
  · have hPc : P < c * 18446744073709551616 := by omega
    obtain ⟨Q, hQ⟩ : ∃ Q, Q = a * b / c := ⟨_, rfl⟩
    rw [← hQ] at hq
    rw [← hP] at hQ
    have hhi2 : (hi : Int) < (c : Int) := by omega
    have hdc : decide (c ≤ hi) = false := decide_eq_false (by omega)
    replace hP := hide hP
    replace hhi := hide hhi
    replace hlo := hide hlo
    replace hPe := hide hPe
    replace hQ := hide hQ
    go_enter Tryz.func62, Tryz.ntmps62
    go_wp2_with fail
    refine (hw.out _).mono ?_
    rintro e w' ⟨rfl, rfl⟩
    rw [← hP.out, ← hhi.out, ← hlo.out]
    go_wp2
    go_loopw [11, 12, 13] (fun qq rr ii wr => w = wr ∧ ∃ (q r m : Nat), m ≤ 128 ∧ qq = .int .u64 q ∧ rr = .int .u64 r ∧ ii = .int .i64 ((m : Int) - 1) ∧ r < c ∧ Hid (P / 2 ^ m = q * c + r) ∧ q < 18446744073709551616) (fun _ _ ii _ => (intOf ii + 1).toNat)
    case atStart =>
      refine ⟨rfl, 0, 0, 128, by omega, rfl, rfl, rfl, hc0, ?_, by omega⟩
      show P / 2 ^ 128 = _
      rw [Nat.div_eq_of_lt]
      · simp
      · have : (2 : Nat) ^ 128 = 18446744073709551616 * 18446744073709551616 := by decide
        omega
    case round =>
      obtain ⟨rfl, q, r, m, hm, rfl, rfl, rfl, hr, hE, hqb⟩ := hrel
      by_cases hm0 : m = 0
      · subst hm0
        have hE2 := hE.out
        rw [Nat.pow_zero, Nat.div_one] at hE2
        have hq1 : Q = q := by rw [hQ.out, hE2, Nat.mul_comm q c, Nat.mul_add_div hc0, Nat.div_eq_of_lt hr]; omega
        subst hq1
        clear hE2 hE
        go_wp2
        go_ret3
        exact ⟨rfl, rfl⟩
      · have hst := bit_div (i := m - 1) hc0 (by rw [Nat.sub_add_cancel (by omega)]; exact hE.out) hr
        obtain ⟨bt, hbt⟩ : ∃ bt, bt = P / 2 ^ (m - 1) % 2 := ⟨_, rfl⟩
        rw [← hbt] at hst
        rw [show m - 1 = ((m : Int) - 1).toNat by omega] at hbt
        have hb2 : bt < 2 := by omega
        have h2q : 2 * q < 18446744073709551616 := quot_lt hPc hst
        replace hbt := hide hbt
        by_cases hge : c ≤ 2 * r + bt
        · have hnew : P / 2 ^ (m - 1) = (2 * q + 1) * c + (2 * r + bt - c) := by
            rw [hst, Nat.add_mul]; omega
          have h2q1 : 2 * q + 1 < 18446744073709551616 := quot_lt hPc hnew
          replace hnew := hide hnew
          clear hst
          go_wp2_with fail
          refine (bit_int hi lo _ _ (by omega) hlb (by omega) (by omega)).mono ?_
          rintro e w' ⟨rfl, rfl⟩
          rw [hPe.out, ← hbt.out]
          go_wp2
          go_roundw
          case rel => exact ⟨trivial, 2 * q + 1, 2 * r + bt - c, m - 1, by omega, by go_num, by go_num, by go_num, by omega, hnew, by omega⟩
          case measure => simp [intOf] <;> omega
        · replace hst := hide hst
          go_wp2_with fail
          refine (bit_int hi lo _ _ (by omega) hlb (by omega) (by omega)).mono ?_
          rintro e w' ⟨rfl, rfl⟩
          rw [hPe.out, ← hbt.out]
          go_wp2
          go_roundw
          case rel => exact ⟨trivial, 2 * q, 2 * r + bt, m - 1, by omega, by go_num, by go_num, by go_num, by omega, hst, by omega⟩
          case measure => simp [intOf] <;> omega
  · have hhi2 : (c : Int) ≤ (hi : Int) := by omega
    replace hP := hide hP
    replace hhi := hide hhi
    replace hlo := hide hlo
    replace hPe := hide hPe
    clear hq
    go_enter Tryz.func62, Tryz.ntmps62
    go_wp2_with fail
    refine (hw.out _).mono ?_
    rintro e w' ⟨rfl, rfl⟩
    rw [← hP.out, ← hhi.out, ← hlo.out]
    go_wp2
    go_ret3
    exact ⟨rfl, rfl⟩
end Go.Proofs.YtlppomkpmnpmcaaGreat
end

section
/- lotteryref05: in, Count, Hits, Check. -/
open Go.RowKit
set_option linter.unusedVariables false
set_option linter.unusedSimpArgs false
namespace Go.Proofs.YtlppomkpmnpmcaaGreat

theorem in_any (x m : Int) (w : World) : Calls Tryz.prog 61 #[.int .i64 x, .int .i64 m] w (Pure (.bool (decide (0 ≤ x ∧ x ≤ m))) w) := by
  by_cases h1 : 0 ≤ x
  · by_cases h2 : x ≤ m
    · have h : decide (0 ≤ x ∧ x ≤ m) = true := decide_eq_true ⟨h1, h2⟩
      rw [h]
      clear h
      go_enter Tryz.func61, Tryz.ntmps61
      go_wp2
      go_ret
      exact ⟨rfl, rfl⟩
    · have h : decide (0 ≤ x ∧ x ≤ m) = false := decide_eq_false (by omega)
      rw [h]
      clear h
      go_enter Tryz.func61, Tryz.ntmps61
      go_wp2
      go_ret
      exact ⟨rfl, rfl⟩
  · have h : decide (0 ≤ x ∧ x ≤ m) = false := decide_eq_false (by omega)
    rw [h]
    clear h
    go_enter Tryz.func61, Tryz.ntmps61
    go_wp2
    go_ret
    exact ⟨rfl, rfl⟩

theorem in_yes (x m : Int) (w : World) (h1 : 0 ≤ x) (h2 : x ≤ m) : Calls Tryz.prog 61 #[.int .i64 x, .int .i64 m] w (Pure (.bool true) w) := by
  have := in_any x m w
  rwa [decide_eq_true (⟨h1, h2⟩ : 0 ≤ x ∧ x ≤ m)] at this
theorem in_no (x m : Int) (w : World) (h : ¬ (0 ≤ x ∧ x ≤ m)) : Calls Tryz.prog 61 #[.int .i64 x, .int .i64 m] w (Pure (.bool false) w) := by
  have := in_any x m w
  rwa [decide_eq_false h] at this

theorem muldiv_int (a : Nat) (b : Int) (c : Nat) (w : World) (ha : a ≤ 9223372036854775807) (hb0 : 0 ≤ b) (hb : b ≤ 9223372036854775807) (hc0 : 0 < c) (hc : c ≤ 9223372036854775807) (hq : a * b.toNat / c ≤ 9223372036854775807) :
    Calls Tryz.prog 62 #[.int .i64 (a : Int), .int .i64 b, .int .i64 (c : Int)] w (Int3 ((a * b.toNat / c : Nat) : Int) ((a * b.toNat % c : Nat) : Int) 0 w) := by
  obtain ⟨b, rfl⟩ := Int.eq_ofNat_of_zero_le hb0
  exact muldiv_any a b c w ha (by omega) hc0 hc hq
theorem muldiv_int_over (a : Nat) (b : Int) (c : Nat) (w : World) (ha : a ≤ 9223372036854775807) (hb0 : 0 ≤ b) (hb : b ≤ 9223372036854775807) (hc0 : 0 < c) (hc : c ≤ 9223372036854775807) (hq : 9223372036854775807 < a * b.toNat / c) :
    Calls Tryz.prog 62 #[.int .i64 (a : Int), .int .i64 b, .int .i64 (c : Int)] w (Int3 0 0 9 w) := by
  obtain ⟨b, rfl⟩ := Int.eq_ofNat_of_zero_le hb0
  exact muldiv_over a b c w ha (by omega) hc0 hc hq

theorem choose_mono (n k i : Nat) (hk : k ≤ n) (hi : i ≤ k) : choose (n - k + i) i ≤ choose n k := by
  obtain ⟨d, rfl⟩ : ∃ d, k = i + d := ⟨k - i, by omega⟩
  clear hi
  induction d generalizing i with
  | zero => rw [Nat.add_zero, show n - i + i = n by omega]; exact Nat.le_refl _
  | succ d ih =>
    have h1 := ih (i := i + 1) (by omega)
    have h2 := (choose_mono_step (n - (i + (d + 1)) + i) i).1
    rw [show i + 1 + d = i + (d + 1) by omega, show n - (i + (d + 1)) + (i + 1) = n - (i + (d + 1)) + i + 1 by omega] at h1
    omega

set_option maxHeartbeats 2000000 in
set_option maxRecDepth 100000 in
theorem rcount_in (n k : Nat) (w : World) (hn : n ≤ 80) (hk : k ≤ n) :
    Calls Tryz.prog 38 #[.int .i64 (n : Int), .int .i64 (k : Int)] w (IntP (countV n k).1 (countV n k).2 w) := by
  have hcv : countV n k = if choose n k ≤ 9223372036854775807 then ((choose n k : Int), 0) else (0, 9) := by
    unfold countV
    rw [if_pos (by omega), chooseI_nat n k n k rfl rfl]
  replace hcv := hide hcv
  go_enter Tryz.func38, Tryz.ntmps38
  go_wp2_with fail
  refine (in_yes _ _ _ (by omega) (by omega)).mono ?_
  rintro e w' ⟨rfl, rfl⟩
  go_wp2_with fail
  refine (in_yes _ _ _ (by omega) (by omega)).mono ?_
  rintro e w' ⟨rfl, rfl⟩
  go_wp2
  go_loopw [6, 7] (fun c t wr => w = wr ∧ ∃ (i x : Nat), 1 ≤ i ∧ i ≤ k + 1 ∧ t = .int .i64 i ∧ c = .int .i64 x ∧ Hid (x = choose (n - k + i - 1) (i - 1)) ∧ x ≤ 9223372036854775807) (fun _ t _ => k + 1 - (intOf t).toNat)
  case atStart => exact ⟨rfl, 1, 1, Nat.le_refl _, by omega, rfl, rfl, by show _ = _; rw [Nat.sub_self, choose_zero], by omega⟩
  case round =>
    obtain ⟨rfl, i, x, hi1, hik, rfl, rfl, hx, hxb⟩ := hrel
    by_cases hik' : i ≤ k
    · have hprod : x * (n - k + i) / i = choose (n - k + i) i := by
        have h1 := choose_mul (n - k + i - 1) (i - 1)
        rw [show n - k + i - 1 + 1 = n - k + i by omega, Nat.sub_add_cancel hi1, ← hx.out] at h1
        rw [← h1, Nat.mul_div_cancel _ (by omega)]
      have hmono := choose_mono n k i hk hik'
      have htn : ((n : Int) - k + i).toNat = n - k + i := by omega
      obtain ⟨y, hy⟩ : ∃ y, y = choose (n - k + i) i := ⟨_, rfl⟩
      rw [← hy] at hprod hmono
      rw [← htn] at hprod
      replace hprod := hide hprod
      replace hy := hide hy
      clear htn
      by_cases hyb : y ≤ 9223372036854775807
      · clear hmono
        go_wp2_with fail
        refine (muldiv_int _ _ _ _ hxb (by omega) (by omega) (by omega) (by omega) (by rw [hprod.out]; exact hyb)).mono ?_
        rintro e w' ⟨rfl, rfl⟩
        rw [hprod.out]
        go_wp2
        go_roundw
        case rel => exact ⟨trivial, i + 1, y, by omega, by omega, by go_num, rfl, by show _ = _; rw [hy.out, show n - k + (i + 1) - 1 = n - k + i by omega, Nat.add_sub_cancel], hyb⟩
        case measure => simp [intOf]; omega
      · have hov := hide (show countV n k = (0, 9) by rw [hcv.out, if_neg (by omega)])
        clear hmono
        go_wp2_with fail
        refine (muldiv_int_over _ _ _ _ hxb (by omega) (by omega) (by omega) (by omega) (by rw [hprod.out]; omega)).mono ?_
        rintro e w' ⟨rfl, rfl⟩
        clear hyb
        go_wp2
        go_ret2
        rw [hov.out]
        exact ⟨rfl, rfl⟩
    · have hxe := hx.out
      rw [show n - k + i - 1 = n by omega, show i - 1 = k by omega] at hxe
      have hok := hide (show countV n k = ((x : Int), 0) by rw [hcv.out, ← hxe, if_pos hxb])
      clear hxe hx
      go_wp2
      go_ret2
      rw [hok.out]
      exact ⟨rfl, rfl⟩

theorem rcount_any (n k : Int) (w : World) : Calls Tryz.prog 38 #[.int .i64 n, .int .i64 k] w (IntP (countV n k).1 (countV n k).2 w) := by
  by_cases hn : 0 ≤ n ∧ n ≤ 80
  · by_cases hk : 0 ≤ k ∧ k ≤ n
    · obtain ⟨n, rfl⟩ := Int.eq_ofNat_of_zero_le hn.1
      obtain ⟨k, rfl⟩ := Int.eq_ofNat_of_zero_le hk.1
      exact rcount_in n k w (by omega) (by omega)
    · have h0 : chooseI n k = 0 := by
        unfold chooseI
        by_cases h : k < 0
        · rw [if_pos h]
        · rw [if_neg h, choose_gt (by omega)]
      have hc : countV n k = (0, 0) := by unfold countV; rw [if_pos hn, h0]; rfl
      rw [hc]
      clear hc h0
      go_enter Tryz.func38, Tryz.ntmps38
      go_wp2_with fail
      refine (in_yes _ _ _ (by omega) (by omega)).mono ?_
      rintro e w' ⟨rfl, rfl⟩
      go_wp2_with fail
      refine (in_no _ _ _ hk).mono ?_
      rintro e w' ⟨rfl, rfl⟩
      clear hn hk
      go_wp2
      go_ret2
      exact ⟨rfl, rfl⟩
  · have hc : countV n k = (0, 2) := by unfold countV; rw [if_neg hn]
    rw [hc]
    clear hc
    go_enter Tryz.func38, Tryz.ntmps38
    go_wp2_with fail
    refine (in_no _ _ _ hn).mono ?_
    rintro e w' ⟨rfl, rfl⟩
    clear hn
    go_wp2
    go_ret2
    exact ⟨rfl, rfl⟩

theorem countV_ok (n k : Nat) (hn : n ≤ 80) (hx : choose n k ≤ 9223372036854775807) (x y : Int) (h1 : x = n) (h2 : y = k) : countV x y = ((choose n k : Int), 0) := by
  unfold countV
  rw [chooseI_nat n k x y h1 h2, if_pos (by omega), if_pos hx]
end Go.Proofs.YtlppomkpmnpmcaaGreat
end

section
/- lotteryref13: bonuses, Count. -/
open Go.RowKit
set_option linter.unusedVariables false
set_option linter.unusedSimpArgs false
namespace Go.Proofs.YtlppomkpmnpmcaaGreat

set_option maxHeartbeats 1000000 in
set_option maxRecDepth 100000 in
theorem bonuses_any (g : GameD) (av tv : Value) (w : World) (sa : ∃ a n c, av = .slice a n c) (st : ∃ a n c, tv = .slice a n c) (he : gameE g = 0) :
    Calls Tryz.prog 19 #[gameVal g av tv] w (IntB (bonusN g) w) := by
  obtain ⟨aa, an, ac, rfl⟩ := sa
  obtain ⟨ta, tn, tc, rfl⟩ := st
  have hf := mat_facts (game_mat he)
  have hbo : g.bonusOf = ((g.bonusOf.toNat : Nat) : Int) := by omega
  have hbn : g.bonus = ((g.bonus.toNat : Nat) : Int) := by omega
  have hc := hide (rcount_any g.bonusOf g.bonus)
  rw [countV_fit hbo hbn (by omega) (Nat.le_trans (choose_bonus (by omega) (by omega)) (by omega))] at hc
  have hr0 : g.bonus = 0 → bonusN g = 1 := by
    intro h
    unfold bonusN
    rw [h]
    exact choose_zero _
  obtain ⟨r, hr⟩ : ∃ r, r = bonusN g := ⟨_, rfl⟩
  rw [show choose g.bonusOf.toNat g.bonus.toNat = r from hr.symm] at hc
  rw [← hr] at hr0 ⊢
  clear hf hr
  replace hbo := hide hbo
  replace hbn := hide hbn
  unfold gameVal
  by_cases h0 : g.bonus = 0
  · have hr2 := hide (hr0 h0)
    have hb : (g.bonus == 0) = true := by simpa using h0
    replace h0 := hide h0
    clear hr0
    go_enter Tryz.func19, Tryz.ntmps19
    go_upto_region 1 with (fail)
    obtain ⟨W, hW⟩ : ∃ W, W = (w.alloc (Obj.cells #[.string g.name, .int .i64 g.kind, .int .i64 g.price, .int .i64 g.main, .int .i64 g.of, .int .i64 g.bonus, .int .i64 g.bonusOf, .int .i64 g.extra, .int .i64 g.draws, .int .i64 g.system, .int .i64 g.days, .int .i64 g.at_, .int .i64 g.close, .int .i64 g.cancel, .int .i64 g.expiry, .int .i64 g.pool, .int .i64 g.reserve, .int .i64 g.round, .int .i64 g.cap, .int .i64 g.rolls, (.slice aa an ac), (.slice ta tn tc)] 25)) := ⟨_, rfl⟩
    have bW : Below w.heap.size w W := by rw [hW]; exact Bel.al (Below.refl _ _) _
    have r0 : GameAt W (w.heap.size) g ((.slice aa an ac)) ((.slice ta tn tc)) := by rw [hW]; exact Row.new _ _ _
    have sW : w.heap.size < W.heap.size := by rw [hW]; simp
    rw [← hW]
    clear hW
    have d5 := r0.bonus
    go_wp2
    go_ret
    rw [hr2.out]
    exact ⟨rfl, bW⟩
  · have hb : (g.bonus == 0) = false := by simpa using h0
    replace h0 := hide h0
    clear hr0
    go_enter Tryz.func19, Tryz.ntmps19
    go_upto_region 1 with (fail)
    obtain ⟨W, hW⟩ : ∃ W, W = (w.alloc (Obj.cells #[.string g.name, .int .i64 g.kind, .int .i64 g.price, .int .i64 g.main, .int .i64 g.of, .int .i64 g.bonus, .int .i64 g.bonusOf, .int .i64 g.extra, .int .i64 g.draws, .int .i64 g.system, .int .i64 g.days, .int .i64 g.at_, .int .i64 g.close, .int .i64 g.cancel, .int .i64 g.expiry, .int .i64 g.pool, .int .i64 g.reserve, .int .i64 g.round, .int .i64 g.cap, .int .i64 g.rolls, (.slice aa an ac), (.slice ta tn tc)] 25)) := ⟨_, rfl⟩
    have bW : Below w.heap.size w W := by rw [hW]; exact Bel.al (Below.refl _ _) _
    have r0 : GameAt W (w.heap.size) g ((.slice aa an ac)) ((.slice ta tn tc)) := by rw [hW]; exact Row.new _ _ _
    have sW : w.heap.size < W.heap.size := by rw [hW]; simp
    rw [← hW]
    clear hW
    have d5 := r0.bonus
    have d6 := r0.bonusOf
    go_wp2_with fail
    refine (hc.out _).mono ?_
    rintro e w' ⟨rfl, rfl⟩
    go_wp2
    go_ret
    exact ⟨rfl, bW⟩

/-- matrix.Count: the value and the code. -/
theorem mcount_any (g : GameD) (av tv : Value) (ms : List AddonM) (w : World) (h : GameR w av tv ms g) :
    Calls Tryz.prog 9 #[gameVal g av tv] w (IntC (countP g).1 (countP g).2 w) := by
  unfold countP
  by_cases he : gameE g = 0
  · rw [if_pos he]; exact mcount_ok g av tv ms w h he
  · rw [if_neg he]; exact mcount_bad g av tv ms w h he
end Go.Proofs.YtlppomkpmnpmcaaGreat
end

section
/- lotteryref05: Check, Rank. -/
open Go.RowKit
set_option linter.unusedVariables false
set_option linter.unusedSimpArgs false
namespace Go.Proofs.YtlppomkpmnpmcaaGreat

def DrewB (v : Value) (w : World) (e : Ending) (w' : World) : Prop := e = .returned v ∧ Below w.heap.size w w'

/-- Elements before place k fit: the check goes on with the last of them. -/
theorem checkL_step (l : List Int) (n : Int) (k : Nat) (hk : k < l.length) (last : Int) (hlast : last = if k = 0 then 0 else l.getD (k - 1) 0) (hpos : k = 0 → 1 ≤ l[k] → last < l[k]) :
    (k = 0 → (l[k] < 1 ∨ n < l[k]) ∨ ¬ l[k] ≤ last) := by
  intro h
  by_cases h1 : l[k] < 1
  · exact .inl (.inl h1)
  · exact .inr (by have := hpos h (by omega); omega)

set_option maxHeartbeats 2000000 in
set_option maxRecDepth 100000 in
theorem rcheck_in (v : Value) (l : List Int) (n : Int) (w : World) (h : Rd I64 w v l) (hn : 0 ≤ n ∧ n ≤ 80) :
    Calls Tryz.prog 37 #[v, .int .i64 n] w (DrewB (.int .i64 (checkL n 0 l)) w) := by
  obtain ⟨ao, cap, rfl, hlc, hcm, hr⟩ := Rd.form h
  have hcm' : cap ≤ 9223372036854775807 := by unfold maxLen at hcm; omega
  go_enter Tryz.func37, Tryz.ntmps37
  go_wp2_with fail
  refine (in_yes _ _ _ hn.1 hn.2).mono ?_
  rintro e w' ⟨rfl, rfl⟩
  go_wp2
  go_loopw [5] (fun i wr => ∃ (k d : Nat) (last : Int), k ≤ l.length ∧ i = .int .i64 k ∧ wr = w.drewN d ∧ Hid (checkL n last (l.drop k) = checkL n 0 l) ∧ Hid (k = 0 → last = 0) ∧ Hid (0 < k → last = l.getD (k - 1) 0)) (fun i _ => l.length - (intOf i).toNat)
  case atStart => exact ⟨0, 0, 0, Nat.zero_le _, rfl, rfl, rfl, fun _ => rfl, fun h => absurd h (by omega)⟩
  case round =>
    obtain ⟨k, d, last, hk, rfl, rfl, hv, hl0, hl1⟩ := hrel
    by_cases hkl : k < l.length
    · obtain ⟨b, off, rfl, hb, hc⟩ := hr.at_ hkl
      have d1 := hc k hkl
      have hv1 := hv.out
      rw [List.drop_eq_getElem_cons hkl, checkL] at hv1
      have hnewl : 0 < k + 1 → l[k] = l.getD (k + 1 - 1) 0 := by
        intro _
        rw [Nat.add_sub_cancel, List.getD_eq_getElem?_getD, List.getElem?_eq_getElem hkl]; rfl
      have i1 : (0 : Int) ≤ (k : Int) := by omega
      have i2 : (k : Int) < (l.length : Int) := by omega
      by_cases h1 : l[k] < 1
      · rw [if_pos (.inl h1)] at hv1
        have hv2 := hide hv1
        clear hv1 hv hnewl hc
        go_wp2
        go_ret
        exact ⟨by rw [← hv2.out]; rfl, Bel.drN (Below.refl _ _) _⟩
      · by_cases h2 : n < l[k]
        · rw [if_pos (.inr h2)] at hv1
          have hv2 := hide hv1
          clear hv1 hv hnewl hc
          go_wp2
          go_ret
          exact ⟨by rw [← hv2.out]; rfl, Bel.drN (Below.refl _ _) _⟩
        · rw [if_neg (by omega)] at hv1
          by_cases hk0 : k = 0
          · have hlz := hl0.out hk0
            rw [if_neg (by omega)] at hv1
            have hv2 := hide hv1
            replace hnewl := hide hnewl
            have t1 : decide (0 < k) = false := decide_eq_false (by omega)
            replace hk0 := hide hk0
            clear hv1 hv hlz hc
            go_wp2
            go_quiet (fail)
            go_wp2
            go_roundw
            case rel => exact ⟨k + 1, _, l[k], by omega, by go_num, rfl, hv2, fun h => absurd h (by omega), hnewl⟩
            case measure => simp [intOf]; omega
          · have hlz := hl1.out (by omega)
            have hk1 : k - 1 < l.length := by omega
            have d2 := hc (k - 1) hk1
            have hg : l.getD (k - 1) 0 = l[k - 1] := by rw [List.getD_eq_getElem?_getD, List.getElem?_eq_getElem hk1]; rfl
            rw [hg] at hlz
            subst hlz
            have t0 : (0 : Int) < (k : Int) := by omega
            have t1 : decide (0 < k) = true := decide_eq_true (by omega)
            have a1 : IntKind.i64.wrap ((k : Int) - 1) = (k : Int) - 1 := IntWalk.i64_in _ (by omega)
            have a2 : (0 : Int) ≤ (k : Int) - 1 := by omega
            have a3 : (k : Int) - 1 < (l.length : Int) := by omega
            have a4 : ((k : Int) - 1).toNat = k - 1 := by omega
            by_cases h3 : l[k] ≤ l[k - 1]
            · rw [if_pos h3] at hv1
              have hv2 := hide hv1
              clear hv1 hv hnewl hc hg hl1
              go_wp2
              go_quiet (fail)
              go_wp2
              go_ret
              exact ⟨by rw [← hv2.out]; rfl, Bel.drN (Bel.drN (Below.refl _ _) _) _⟩
            · rw [if_neg h3] at hv1
              have hv2 := hide hv1
              replace hnewl := hide hnewl
              clear hv1 hv hc hg hl1
              go_wp2
              go_quiet (fail)
              go_wp2
              go_roundw
              case rel => exact ⟨k + 1, _, l[k], by omega, by go_num, rfl, hv2, fun h => absurd h (by omega), hnewl⟩
              case measure => simp [intOf]; omega
    · have hv1 := hv.out
      rw [drop_len hkl, checkL] at hv1
      have hv2 := hide hv1
      clear hv1 hv
      go_wp2
      go_ret
      exact ⟨by rw [← hv2.out]; rfl, Bel.drN (Below.refl _ _) _⟩
theorem rcheck_out (v : Value) (l : List Int) (n : Int) (w : World) (hn : ¬ (0 ≤ n ∧ n ≤ 80)) :
    Calls Tryz.prog 37 #[v, .int .i64 n] w (DrewB (.int .i64 2) w) := by
  go_enter Tryz.func37, Tryz.ntmps37
  go_wp2_with fail
  refine (in_no _ _ _ hn).mono ?_
  rintro e w' ⟨rfl, rfl⟩
  clear hn
  go_wp2
  go_ret
  exact ⟨rfl, Below.refl _ _⟩

set_option maxHeartbeats 2000000 in
set_option maxRecDepth 100000 in
theorem rrank_ok (v : Value) (l : List Int) (n : Nat) (w : World) (h : Rd I64 w v l) (hn : n ≤ 80) (hchk : checkL n 0 l = 0) (hct : choose n l.length ≤ 9223372036854775807) :
    Calls Tryz.prog 18 #[v, .int .i64 (n : Int)] w (IntC (rankL n 0 l) 0 w) := by
  obtain ⟨ao, cap, rfl, hlc, hcm, hr⟩ := Rd.form h
  have hcm' : cap ≤ 9223372036854775807 := by unfold maxLen at hcm; omega
  have hcv := hide (countV_ok n l.length hn hct n l.length rfl rfl)
  go_enter Tryz.func18, Tryz.ntmps18
  go_wp2_with fail
  refine (rcheck_in _ l _ _ (by exact hr) (by omega)).mono ?_
  rintro e w1 ⟨rfl, hb1⟩
  rw [hchk]
  replace hchk := hide hchk
  go_wp2_with fail
  refine (rcount_any _ _ _).mono ?_
  rintro e w' ⟨rfl, rfl⟩
  rw [hcv.out]
  go_wp2
  go_loopw [9, 10, 11] (fun r last i wr => ∃ (k R la : Nat), k ≤ l.length ∧ i = .int .i64 k ∧ r = .int .i64 R ∧ last = .int .i64 la ∧ la ≤ n ∧ Hid (checkL n la (l.drop k) = 0) ∧ Hid (R + rankL n la (l.drop k) = rankL n 0 l) ∧
      R + choose (n - la) (l.length - k) ≤ choose n l.length ∧ Below w.heap.size w wr) (fun _ _ i _ => l.length - (intOf i).toNat)
  case atStart => exact ⟨0, 0, 0, Nat.zero_le _, rfl, rfl, rfl, Nat.zero_le _, hchk, by show _ = _; rw [List.drop_zero]; omega, by simp, hb1⟩
  case round =>
    obtain ⟨k, R, la, hk, rfl, rfl, rfl, hla, hc1, hR, hB, hbel⟩ := hrel
    by_cases hkl : k < l.length
    · have hc2 := hc1.out
      have hR2 := hR.out
      rw [List.drop_eq_getElem_cons hkl] at hc2 hR2
      obtain ⟨q1, q2, q3, q4⟩ := checkL_cons hc2
      have hr2 := hr.below hbel
      obtain ⟨b, off, rfl, hb, hc⟩ := hr2.at_ hkl
      obtain ⟨x, hx⟩ := Int.eq_ofNat_of_zero_le (show 0 ≤ l[k] by omega)
      rw [hx] at q1 q2 q3 q4
      rw [rankL, hx, Int.toNat_natCast, List.length_drop] at hR2
      obtain ⟨j, hj⟩ : ∃ j, l.length - k = j + 1 := ⟨l.length - k - 1, by omega⟩
      rw [hj] at hB
      rw [show l.length - (k + 1) = j by omega] at hR2
      replace q4 := hide q4
      replace hR2 := hide hR2
      replace hj := hide hj
      replace hx := hide hx
      clear hc hc2 hr2 hc1 hR
      go_wp2
      obtain ⟨wo, rfl⟩ : ∃ wo : World, wo = wr := ⟨_, rfl⟩
      go_loopw [9, 12] (fun r i wr => ∃ (d wv rv : Nat), la + d + 1 ≤ x ∧ wv ≤ la + d + 1 ∧ la + d + 1 ≤ wv ∧ i = .int .i64 wv ∧ r = .int .i64 rv ∧ Hid (rv = R + sumC n j la d) ∧ Below w.heap.size w wr) (fun _ i _ => x - (intOf i).toNat)
      case atStart => exact ⟨0, la + 1, R, by omega, by omega, by omega, by go_num, rfl, by show _ = _; simp [sumC], hbel⟩
      case round =>
        obtain ⟨d, wv, rv, hdx, hw1, hw2, rfl, rfl, hrv, hbel2⟩ := hrel
        have ht := sumC_tele (n := n) (j := j) (a := la) (d := d) (by omega)
        have hr3 := hr.below hbel2
        obtain ⟨b', off', eb, hb', hc'⟩ := hr3.at_ hkl
        injection eb with eb
        injection eb with eb1 eb2
        subst eb1 eb2
        have d1 := hc' k hkl
        rw [hx.out] at d1
        clear hc' hr3
        by_cases hlt : wv < x
        · obtain ⟨t1, t2⟩ := choose_tail (n := n) (w := la + d) (j := j) (by omega)
          have hss := sumC_succ n j la d
          have hrvo := hrv.out
          obtain ⟨C, hC⟩ : ∃ C, C = choose (n - (la + d + 1)) j := ⟨_, rfl⟩
          rw [← hC] at t1 t2 hss
          have hb5 : rv + C ≤ 9223372036854775807 := by omega
          have hC5 : C ≤ 9223372036854775807 := by omega
          have hci := countV_ok (n - (la + d + 1)) j (by omega) (by rw [← hC]; exact hC5) ((n : Int) - (wv : Int)) ((l.length : Int) - 1 - k) (by omega) (by have := hj.out; omega)
          rw [← hC] at hci
          replace hC := hide hC
          have hnew := hide (show rv + C = R + sumC n j la (d + 1) by omega)
          replace hci := hide hci
          clear ht t1 t2 hB hss hrvo
          go_wp2_with fail
          refine (rcount_any _ _ _).mono ?_
          rintro e w2 ⟨rfl, rfl⟩
          rw [hci.out]
          go_wp2
          go_roundw
          case rel => exact ⟨d + 1, wv + 1, rv + C, by omega, by omega, by omega, by go_num, by go_num, hnew, hbel2⟩
          case measure => simp [intOf]; omega
        · have hex : x = la + d + 1 := by omega
          have h5 : x - 1 - la = d := by omega
          have hrvo := hrv.out
          obtain ⟨t1, t2⟩ := choose_tail (n := n) (w := la + d) (j := j) (by omega)
          have hR3 := hR2.out
          rw [h5] at hR3
          have hB2 : rv + choose (n - x) (l.length - (k + 1)) ≤ choose n l.length := by
            have := hj.out
            rw [show l.length - (k + 1) = j by omega, hex]
            omega
          have hnew := hide (show rv + rankL n x (l.drop (k + 1)) = rankL n 0 l by omega)
          clear t1 t2 hR3 hrvo ht hex h5
          go_wp2
          go_roundw
          case rel => exact ⟨k + 1, rv, x, by omega, by go_num, rfl, rfl, by omega, q4, hnew, hB2, hbel2⟩
          case measure => simp [intOf]; omega
    · have hR2 := hR.out
      rw [drop_len hkl, rankL] at hR2
      have hR3 := hide (show R = rankL n 0 l by omega)
      clear hR2 hR
      go_wp2
      go_ret2
      exact ⟨by rw [hR3.out]; rfl, hbel⟩

set_option maxHeartbeats 1000000 in
theorem rrank_any (v : Value) (l : List Int) (n : Int) (w : World) (h : Rd I64 w v l) :
    Calls Tryz.prog 18 #[v, .int .i64 n] w (IntC (rankV n l).1 (rankV n l).2 w) := by
  unfold rankV
  by_cases hn : 0 ≤ n ∧ n ≤ 80
  · rw [if_pos hn]
    by_cases hc : checkL n 0 l = 0
    · rw [if_neg (by omega)]
      obtain ⟨n, rfl⟩ := Int.eq_ofNat_of_zero_le hn.1
      rw [Int.toNat_natCast]
      by_cases hx : choose n l.length ≤ 9223372036854775807
      · rw [if_pos hx]
        exact rrank_ok v l n w h (by omega) hc hx
      · rw [if_neg hx]
        have hcv : countV n l.length = (0, 9) := by
          unfold countV
          rw [chooseI_nat n l.length _ _ rfl rfl, if_pos hn, if_neg hx]
        obtain ⟨ao, cap, rfl, hlc, hcm, hr⟩ := Rd.form h
        replace hcv := hide hcv
        go_enter Tryz.func18, Tryz.ntmps18
        go_wp2_with fail
        refine (rcheck_in _ l _ _ (by exact hr) hn).mono ?_
        rintro e w1 ⟨rfl, hb1⟩
        rw [hc]
        replace hc := hide hc
        go_wp2_with fail
        refine (rcount_any _ _ _).mono ?_
        rintro e w' ⟨rfl, rfl⟩
        rw [hcv.out]
        clear hx hn
        go_wp2
        go_ret2
        exact ⟨rfl, hb1⟩
    · rw [if_pos hc]
      obtain ⟨ao, cap, rfl, hlc, hcm, hr⟩ := Rd.form h
      obtain ⟨c, hcc⟩ : ∃ c, c = checkL n 0 l := ⟨_, rfl⟩
      rw [← hcc] at hc ⊢
      replace hcc := hide hcc
      have hb : (c != 0) = true := by simpa using hc
      go_enter Tryz.func18, Tryz.ntmps18
      go_wp2_with fail
      refine (rcheck_in _ l _ _ (by exact hr) hn).mono ?_
      rintro e w1 ⟨rfl, hb1⟩
      rw [← hcc.out]
      clear hn hc
      go_wp2
      go_ret2
      exact ⟨rfl, hb1⟩
  · rw [if_neg hn]
    go_enter Tryz.func18, Tryz.ntmps18
    go_wp2_with fail
    refine (rcheck_out _ l _ _ hn).mono ?_
    rintro e w1 ⟨rfl, hb1⟩
    clear hn
    go_wp2
    go_ret2
    exact ⟨rfl, hb1⟩
end Go.Proofs.YtlppomkpmnpmcaaGreat
end

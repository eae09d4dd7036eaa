/- Plain: binomial coefficients. -/
import Derived.Test.YtlppomkpmnpmcaaGreatNat
set_option linter.unusedVariables false
set_option linter.unusedSimpArgs false
namespace Go.Proofs.YtlppomkpmnpmcaaGreat

def choose : Nat → Nat → Nat
  | _, 0 => 1
  | 0, _ + 1 => 0
  | n + 1, k + 1 => choose n k + choose n (k + 1)

theorem choose_zero (n : Nat) : choose n 0 = 1 := by cases n <;> rfl
theorem choose_succ (n k : Nat) : choose (n + 1) (k + 1) = choose n k + choose n (k + 1) := rfl
theorem choose_gt {n k : Nat} (h : n < k) : choose n k = 0 := by
  induction n generalizing k with
  | zero => cases k with
    | zero => omega
    | succ k => rfl
  | succ n ih => cases k with
    | zero => omega
    | succ k => rw [choose_succ, ih (by omega), ih (by omega)]
theorem choose_self (n : Nat) : choose n n = 1 := by
  induction n with
  | zero => rfl
  | succ n ih => rw [choose_succ, ih, choose_gt (by omega)]
theorem choose_pos {n k : Nat} (h : k ≤ n) : 0 < choose n k := by
  induction n generalizing k with
  | zero => obtain rfl : k = 0 := by omega
            rw [choose_zero]; omega
  | succ n ih => cases k with
    | zero => rw [choose_zero]; omega
    | succ k => rw [choose_succ]; have := ih (k := k) (by omega); omega
theorem choose_le (n k : Nat) : choose n k ≤ 2 ^ n := by
  induction n generalizing k with
  | zero => cases k <;> simp [choose]
  | succ n ih => cases k with
    | zero => rw [choose_zero]; exact Nat.pow_pos (by omega)
    | succ k => rw [choose_succ, Nat.pow_succ]; have := ih k; have := ih (k + 1); omega

/-- (k + 1) C(n + 1, k + 1) = (n + 1) C(n, k). -/
theorem choose_mul (n k : Nat) : choose (n + 1) (k + 1) * (k + 1) = choose n k * (n + 1) := by
  induction n generalizing k with
  | zero => cases k with
    | zero => rfl
    | succ k => rw [choose_gt (by omega), choose_gt (by omega)]; simp
  | succ n ih => cases k with
    | zero =>
      have := ih 0
      rw [choose_zero] at *
      rw [choose_succ, choose_zero]
      omega
    | succ k =>
      have h1 := ih k
      have h2 := ih (k + 1)
      rw [choose_succ (n + 1) (k + 1)]
      have h3 := choose_succ n k
      grind

theorem choose_symm {n k : Nat} (h : k ≤ n) : choose n (n - k) = choose n k := by
  induction n generalizing k with
  | zero => obtain rfl : k = 0 := by omega
            rfl
  | succ n ih => cases k with
    | zero => rw [Nat.sub_zero, choose_self, choose_zero]
    | succ k =>
      by_cases hk : k = n
      · subst hk; rw [Nat.sub_self, choose_zero, choose_self]
      · obtain ⟨j, hj⟩ : ∃ j, n - k = j + 1 := ⟨n - k - 1, by omega⟩
        have e : n + 1 - (k + 1) = j + 1 := by omega
        rw [e, choose_succ, choose_succ]
        have h1 := ih (k := k) (by omega)
        have h2 := ih (k := k + 1) (by omega)
        rw [hj] at h1
        rw [show n - (k + 1) = j by omega] at h2
        omega

theorem choose_lt_80 {n k : Nat} (h : n ≤ 80) : choose n k ≤ 1208925819614629174706176 := by
  have := choose_le n k
  have h2 : 2 ^ n ≤ 2 ^ 80 := Nat.pow_le_pow_right (by omega) h
  have : (2 : Nat) ^ 80 = 1208925819614629174706176 := by decide
  omega

/-- A number below 2^96 has at most three limbs. -/
theorem limbs_le_three {n : Nat} (h : n < 79228162514264337593543950336) : (limbs n).length ≤ 3 := length_limbs_lt.1 (by
  have : (4294967296 : Nat) ^ 3 = 79228162514264337593543950336 := by decide
  omega)

/-- C(n, k) at any integers, 0 where k is out of range. -/
def chooseI (n k : Int) : Nat := if k < 0 then 0 else choose n.toNat k.toNat
end Go.Proofs.YtlppomkpmnpmcaaGreat

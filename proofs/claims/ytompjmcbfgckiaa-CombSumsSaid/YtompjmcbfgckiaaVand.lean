/- Plain: the identity of Vandermonde. -/
import Derived.Test.YtompjmcbfgckiaaRank
set_option linter.unusedVariables false
set_option linter.unusedSimpArgs false
namespace Go.Proofs.Ytompjmcbfgckiaa

def cc (m k h : Nat) : Nat := if h ≤ k then choose m (k - h) else 0

def sumV (d m k : Nat) : Nat → Nat
  | 0 => 0
  | t + 1 => sumV d m k t + choose d t * cc m k t

theorem sumV_succ (d m k t : Nat) : sumV d m k (t + 1) = sumV d m k t + choose d t * cc m k t := rfl

theorem sumV_zero (d m t : Nat) : sumV d m 0 (t + 1) = 1 := by
  induction t with
  | zero => simp [sumV, cc, choose_zero]
  | succ t ih => rw [sumV_succ, ih]; simp [cc]

theorem sumV_split (d m k t : Nat) : sumV (d + 1) m (k + 1) (t + 1) = sumV d m (k + 1) (t + 1) + sumV d m k t := by
  induction t with
  | zero => simp [sumV, choose_zero]
  | succ t ih =>
    rw [sumV_succ, ih, sumV_succ d m (k + 1) (t + 1), sumV_succ d m k t, choose_succ, Nat.add_mul]
    have e : cc m (k + 1) (t + 1) = cc m k t := by
      unfold cc
      by_cases h : t ≤ k
      · rw [if_pos h, if_pos (by omega), show k + 1 - (t + 1) = k - t by omega]
      · rw [if_neg h, if_neg (by omega)]
    rw [e]
    omega

theorem vand (d m k : Nat) : sumV d m k (d + 1) = choose (d + m) k := by
  induction d generalizing k with
  | zero => simp [sumV, cc, choose_zero]
  | succ d ih =>
    cases k with
    | zero => rw [sumV_zero, choose_zero]
    | succ k =>
      rw [sumV_split, ih, sumV_succ d m (k + 1) (d + 1), ih, choose_gt (show d < d + 1 by omega), Nat.zero_mul, Nat.add_zero, show d + 1 + m = d + m + 1 by omega, choose_succ]
      omega

theorem sumV_mono (d m k : Nat) {s t : Nat} (h : s ≤ t) : sumV d m k s ≤ sumV d m k t := by
  induction t with
  | zero => obtain rfl : s = 0 := by omega
            exact Nat.le_refl _
  | succ t ih =>
    rcases Nat.lt_or_ge t s with h1 | h1
    · obtain rfl : s = t + 1 := by omega
      exact Nat.le_refl _
    · rw [sumV_succ]; have := ih h1; omega

/-- One term of the sum. -/
def termV (n k d h : Nat) : Nat := choose d h * cc (n - d) k h

theorem hitsN_nat (n k d h : Nat) (hk : k ≤ n) (hd : d ≤ n) (hh : h ≤ d) : hitsN n k d h = termV n k d h := by
  unfold hitsN termV cc
  rw [if_neg (by omega), chooseI_nat d h _ _ rfl rfl]
  by_cases h2 : h ≤ k
  · rw [if_pos h2, chooseI_nat (n - d) (k - h) _ _ (by omega) (by omega)]
  · rw [if_neg h2]
    have : chooseI ((n : Int) - d) ((k : Int) - h) = 0 := by unfold chooseI; rw [if_pos (by omega)]
    rw [this]
end Go.Proofs.Ytompjmcbfgckiaa

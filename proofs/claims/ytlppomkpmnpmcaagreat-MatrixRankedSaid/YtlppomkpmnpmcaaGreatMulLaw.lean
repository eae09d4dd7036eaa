/- Plain: the school's multiplication, limb by limb. -/
import Derived.Test.YtlppomkpmnpmcaaGreatNat
import Derived.Test.YtlppomkpmnpmcaaGreatMem
open Go.RowKit
set_option linter.unusedVariables false
set_option linter.unusedSimpArgs false
namespace Go.Proofs.YtlppomkpmnpmcaaGreat

theorem val_set (l : List Nat) (k y : Nat) (h : k < l.length) : val (l.set k y) + 4294967296 ^ k * l[k] = val l + 4294967296 ^ k * y := by
  induction l generalizing k with
  | nil => simp at h
  | cons x t ih =>
    cases k with
    | zero => simp [val]; omega
    | succ k =>
      have := ih k (by simpa using h)
      simp only [List.set_cons_succ, val, List.getElem_cons_succ, Nat.pow_succ]
      grind

theorem small_set {l : List Nat} (h : Small l) (k : Nat) {y : Nat} (hy : y < 4294967296) : Small (l.set k y) := fun x hx => by
  rcases List.mem_or_eq_of_mem_set hx with hx | rfl
  · exact h x hx
  · exact hy

theorem mul_lt {x y : Nat} (hx : x < 4294967296) (hy : y < 4294967296) : x * y ≤ 18446744065119617025 :=
  Nat.le_trans (Nat.mul_le_mul (Nat.le_pred_of_lt hx) (Nat.le_pred_of_lt hy)) (by decide)

theorem mul_bd {x y : Nat} (hx : x < 4294967296) (hy : y < 4294967296) : (0 : Int) ≤ (x : Int) * (y : Int) ∧ (x : Int) * (y : Int) ≤ 18446744065119617025 := by
  have h := mul_lt hx hy
  rw [← Int.natCast_mul]
  omega

theorem mul_step {P b : List Nat} {A c i j x t : Nat} (hj : j < b.length) (hi : i + j < P.length)
    (h : val P + c * 4294967296 ^ (i + j) = A + 4294967296 ^ i * (x * val (b.take j)))
    (ht : t = c + (x * b[j] + P[i + j])) :
    val (P.set (i + j) (t % 4294967296)) + (t / 4294967296) * 4294967296 ^ (i + (j + 1)) = A + 4294967296 ^ i * (x * val (b.take (j + 1))) := by
  have h1 := val_set P (i + j) (t % 4294967296) hi
  have h2 := val_take_succ b j hj
  have h3 : t = 4294967296 * (t / 4294967296) + t % 4294967296 := by omega
  generalize t / 4294967296 = q at *
  generalize t % 4294967296 = r at *
  generalize P[i + j] = p at *
  generalize b[j] = y at *
  generalize val (b.take (j + 1)) = v1 at *
  generalize val (b.take j) = v0 at *
  generalize val (P.set (i + j) r) = s1 at *
  generalize val P = s0 at *
  rw [← Nat.add_assoc, Nat.pow_succ]
  rw [Nat.pow_add] at *
  generalize 4294967296 ^ i = bi at *
  generalize 4294967296 ^ j = bj at *
  subst h2
  grind

theorem mul_row {P a b : List Nat} {c i : Nat} (hi : i < a.length) (hk : i + b.length < P.length) (hz : P[i + b.length] = 0)
    (h : val P + c * 4294967296 ^ (i + b.length) = val (a.take i) * val b + 4294967296 ^ i * (a[i] * val (b.take b.length))) :
    val (P.set (i + b.length) c) = val (a.take (i + 1)) * val b := by
  have h1 := val_set P (i + b.length) c hk
  rw [hz] at h1
  rw [val_take_succ a i hi]
  rw [List.take_length] at h
  generalize val (P.set (i + b.length) c) = s1 at *
  grind

theorem val_zeros (n : Nat) : val (List.replicate n 0) = 0 := by
  induction n with
  | zero => rfl
  | succ n ih => rw [List.replicate_succ, val, ih]

theorem small_zeros (n : Nat) : Small (List.replicate n 0) := fun x hx => by
  have := (List.mem_replicate.1 hx).2
  omega

theorem u32_mod (t : Nat) : U32 (t % 4294967296) = .int .u32 ((t : Int) % 4294967296) := by simp [U32]
end Go.Proofs.YtlppomkpmnpmcaaGreat

/- Plain: numbers as digits in base 2^16. No program in sight. No condition. -/
import Derived.Test.YtompjmcbfgckiaaTrim
set_option linter.unusedVariables false
set_option linter.unusedSimpArgs false
namespace Go.Proofs.Ytompjmcbfgckiaa

def digs (n : Nat) : List Nat := if h : n = 0 then [] else n % 65536 :: digs (n / 65536)
termination_by n
decreasing_by exact Nat.div_lt_self (by omega) (by omega)

def dval : List Nat → Nat
  | [] => 0
  | x :: t => x + 65536 * dval t

def DSmall (l : List Nat) : Prop := ∀ x ∈ l, x < 65536

theorem digs_zero : digs 0 = [] := by rw [digs]; simp
theorem digs_pos {n : Nat} (h : n ≠ 0) : digs n = n % 65536 :: digs (n / 65536) := by rw [digs, dif_neg h]

theorem dval_digs (n : Nat) : dval (digs n) = n := by
  induction n using Nat.strongRecOn with
  | _ n ih =>
    by_cases h : n = 0
    · subst h; rw [digs_zero]; rfl
    · rw [digs_pos h, dval, ih _ (Nat.div_lt_self (by omega) (by omega))]; omega

theorem dsmall_digs (n : Nat) : DSmall (digs n) := by
  induction n using Nat.strongRecOn with
  | _ n ih =>
    by_cases h : n = 0
    · subst h; rw [digs_zero]; intro x hx; cases hx
    · rw [digs_pos h]
      intro x hx
      rcases List.mem_cons.1 hx with rfl | hx
      · omega
      · exact ih _ (Nat.div_lt_self (by omega) (by omega)) x hx

theorem dsmall_cons {x : Nat} {t : List Nat} (h : DSmall (x :: t)) : x < 65536 ∧ DSmall t := ⟨h x (List.mem_cons_self ..), fun y hy => h y (List.mem_cons_of_mem _ hy)⟩
theorem dsmall_get {l : List Nat} (h : DSmall l) {i : Nat} (hi : i < l.length) : l[i] < 65536 := h _ (List.getElem_mem hi)
theorem dsmall_take {l : List Nat} (h : DSmall l) (k : Nat) : DSmall (l.take k) := fun x hx => h x (List.mem_of_mem_take hx)

theorem digs_dval_cons {x : Nat} {t : List Nat} (hx : x < 65536) (h : x ≠ 0 ∨ dval t ≠ 0) : digs (x + 65536 * dval t) = x :: digs (dval t) := by
  rw [digs_pos (by omega)]
  have h1 : (x + 65536 * dval t) % 65536 = x := by omega
  have h2 : (x + 65536 * dval t) / 65536 = dval t := by omega
  rw [h1, h2]

/-- A list whose last element is not 0 is the digs of its value. -/
theorem digs_dval {l : List Nat} (hs : DSmall l) (hl : ∀ (h : 0 < l.length), l[l.length - 1] ≠ 0) : digs (dval l) = l ∧ (0 < l.length → dval l ≠ 0) := by
  induction l with
  | nil => exact ⟨digs_zero, fun h => absurd h (by simp)⟩
  | cons x t ih =>
    obtain ⟨hx, ht⟩ := dsmall_cons hs
    by_cases h0 : t.length = 0
    · have : t = [] := List.eq_nil_of_length_eq_zero h0
      subst this
      have := hl (by simp)
      simp only [List.length_cons, List.length_nil, Nat.zero_add, Nat.sub_self, List.getElem_cons_zero] at this
      refine ⟨?_, fun _ => by simp only [dval]; omega⟩
      simp only [dval]
      rw [digs_pos (by omega), show (x + 65536 * 0) % 65536 = x by omega, show (x + 65536 * 0) / 65536 = 0 by omega, digs_zero]
    · have hl' : ∀ (h : 0 < t.length), t[t.length - 1] ≠ 0 := by
        intro h
        have := hl (by simp)
        simp only [List.length_cons, Nat.add_sub_cancel] at this
        rw [List.getElem_cons, dif_neg (by omega)] at this
        exact this
      obtain ⟨i1, i2⟩ := ih ht hl'
      have i3 := i2 (by omega)
      exact ⟨by rw [dval, digs_dval_cons hx (Or.inr i3), i1], fun _ => by rw [dval]; omega⟩

theorem dval_append (a b : List Nat) : dval (a ++ b) = dval a + 65536 ^ a.length * dval b := by
  induction a with
  | nil => simp [dval]
  | cons x t ih => rw [List.cons_append, dval, dval, ih, List.length_cons, Nat.pow_succ, Nat.mul_add, ← Nat.mul_assoc, Nat.mul_comm (65536 ^ t.length) 65536]; omega


theorem dval_take_succ (l : List Nat) (k : Nat) (h : k < l.length) : dval (l.take (k + 1)) = dval (l.take k) + 65536 ^ k * l[k] := by
  rw [take_snoc l k h, dval_append, List.length_take, Nat.min_eq_left (by omega), dval, dval]; simp

theorem dval_lt {l : List Nat} (hs : DSmall l) : dval l < 65536 ^ l.length := by
  induction l with
  | nil => simp [dval]
  | cons x t ih =>
    obtain ⟨hx, ht⟩ := dsmall_cons hs
    have := ih ht
    rw [dval, List.length_cons, Nat.pow_succ]
    omega

theorem digs_take {l : List Nat} (hs : DSmall l) {n : Nat} (hn : 0 < n) (hl : n ≤ l.length) (h0 : l[n - 1] ≠ 0) : digs (dval (l.take n)) = l.take n := by
  refine (digs_dval (dsmall_take hs n) fun h => ?_).1
  have : (l.take n).length = n := by rw [List.length_take]; omega
  simp only [this, List.getElem_take]
  exact h0

theorem length_digs_lt {n k : Nat} : n < 65536 ^ k ↔ (digs n).length ≤ k := by
  induction k generalizing n with
  | zero =>
    rw [Nat.pow_zero]
    by_cases h : n = 0
    · subst h; rw [digs_zero]; simp
    · rw [digs_pos h]; simp; omega
  | succ k ih =>
    by_cases h : n = 0
    · subst h; rw [digs_zero]; simp; exact Nat.pow_pos (by omega)
    · rw [digs_pos h, List.length_cons, Nat.add_le_add_iff_right, ← ih, Nat.pow_succ, Nat.div_lt_iff_lt_mul (by omega)]

theorem digs_inj {a b : Nat} (h : digs a = digs b) : a = b := by rw [← dval_digs a, h, dval_digs]

theorem digs_last {n : Nat} (h : 0 < (digs n).length) : (digs n)[(digs n).length - 1] ≠ 0 := by
  induction n using Nat.strongRecOn with
  | _ n ih =>
    by_cases h0 : n = 0
    · subst h0; simp [digs_zero] at h
    · by_cases h1 : n / 65536 = 0
      · have e : digs n = [n % 65536] := by rw [digs_pos h0, h1, digs_zero]
        simp only [e, List.length_cons, List.length_nil, Nat.zero_add, Nat.sub_self, List.getElem_cons_zero]
        omega
      · have := ih (n / 65536) (Nat.div_lt_self (by omega) (by omega)) (by rw [digs_pos h1]; simp)
        have e := digs_pos h0
        simp only [e, List.length_cons, Nat.add_sub_cancel]
        rw [List.getElem_cons, dif_neg (by rw [digs_pos h1]; simp)]
        exact this
end Go.Proofs.Ytompjmcbfgckiaa

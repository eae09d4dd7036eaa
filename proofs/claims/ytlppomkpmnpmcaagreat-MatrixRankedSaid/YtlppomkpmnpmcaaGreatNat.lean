/- Plain: numbers as limbs in base 2^32. No program in sight. No condition. -/
set_option linter.unusedVariables false
set_option linter.unusedSimpArgs false
namespace Go.Proofs.YtlppomkpmnpmcaaGreat

def limbs (n : Nat) : List Nat := if h : n = 0 then [] else n % 4294967296 :: limbs (n / 4294967296)
termination_by n
decreasing_by exact Nat.div_lt_self (by omega) (by omega)

def val : List Nat → Nat
  | [] => 0
  | x :: t => x + 4294967296 * val t

def Small (l : List Nat) : Prop := ∀ x ∈ l, x < 4294967296

theorem limbs_zero : limbs 0 = [] := by rw [limbs]; simp
theorem limbs_pos {n : Nat} (h : n ≠ 0) : limbs n = n % 4294967296 :: limbs (n / 4294967296) := by rw [limbs, dif_neg h]

theorem val_limbs (n : Nat) : val (limbs n) = n := by
  induction n using Nat.strongRecOn with
  | _ n ih =>
    by_cases h : n = 0
    · subst h; rw [limbs_zero]; rfl
    · rw [limbs_pos h, val, ih _ (Nat.div_lt_self (by omega) (by omega))]; omega

theorem small_limbs (n : Nat) : Small (limbs n) := by
  induction n using Nat.strongRecOn with
  | _ n ih =>
    by_cases h : n = 0
    · subst h; rw [limbs_zero]; intro x hx; cases hx
    · rw [limbs_pos h]
      intro x hx
      rcases List.mem_cons.1 hx with rfl | hx
      · omega
      · exact ih _ (Nat.div_lt_self (by omega) (by omega)) x hx

theorem small_cons {x : Nat} {t : List Nat} (h : Small (x :: t)) : x < 4294967296 ∧ Small t := ⟨h x (List.mem_cons_self ..), fun y hy => h y (List.mem_cons_of_mem _ hy)⟩
theorem small_get {l : List Nat} (h : Small l) {i : Nat} (hi : i < l.length) : l[i] < 4294967296 := h _ (List.getElem_mem hi)
theorem small_take {l : List Nat} (h : Small l) (k : Nat) : Small (l.take k) := fun x hx => h x (List.mem_of_mem_take hx)

theorem limbs_val_cons {x : Nat} {t : List Nat} (hx : x < 4294967296) (h : x ≠ 0 ∨ val t ≠ 0) : limbs (x + 4294967296 * val t) = x :: limbs (val t) := by
  rw [limbs_pos (by omega)]
  have h1 : (x + 4294967296 * val t) % 4294967296 = x := by omega
  have h2 : (x + 4294967296 * val t) / 4294967296 = val t := by omega
  rw [h1, h2]

/-- A list whose last element is not 0 is the limbs of its value. -/
theorem limbs_val {l : List Nat} (hs : Small l) (hl : ∀ (h : 0 < l.length), l[l.length - 1] ≠ 0) : limbs (val l) = l ∧ (0 < l.length → val l ≠ 0) := by
  induction l with
  | nil => exact ⟨limbs_zero, fun h => absurd h (by simp)⟩
  | cons x t ih =>
    obtain ⟨hx, ht⟩ := small_cons hs
    by_cases h0 : t.length = 0
    · have : t = [] := List.eq_nil_of_length_eq_zero h0
      subst this
      have := hl (by simp)
      simp only [List.length_cons, List.length_nil, Nat.zero_add, Nat.sub_self, List.getElem_cons_zero] at this
      refine ⟨?_, fun _ => by simp only [val]; omega⟩
      simp only [val]
      rw [limbs_pos (by omega), show (x + 4294967296 * 0) % 4294967296 = x by omega, show (x + 4294967296 * 0) / 4294967296 = 0 by omega, limbs_zero]
    · have hl' : ∀ (h : 0 < t.length), t[t.length - 1] ≠ 0 := by
        intro h
        have := hl (by simp)
        simp only [List.length_cons, Nat.add_sub_cancel] at this
        rw [List.getElem_cons, dif_neg (by omega)] at this
        exact this
      obtain ⟨i1, i2⟩ := ih ht hl'
      have i3 := i2 (by omega)
      exact ⟨by rw [val, limbs_val_cons hx (Or.inr i3), i1], fun _ => by rw [val]; omega⟩

theorem val_append (a b : List Nat) : val (a ++ b) = val a + 4294967296 ^ a.length * val b := by
  induction a with
  | nil => simp [val]
  | cons x t ih => rw [List.cons_append, val, val, ih, List.length_cons, Nat.pow_succ, Nat.mul_add, ← Nat.mul_assoc, Nat.mul_comm (4294967296 ^ t.length) 4294967296]; omega

theorem take_snoc {α : Type} (l : List α) (k : Nat) (h : k < l.length) : l.take (k + 1) = l.take k ++ [l[k]] := List.take_succ_eq_append_getElem h

theorem val_take_succ (l : List Nat) (k : Nat) (h : k < l.length) : val (l.take (k + 1)) = val (l.take k) + 4294967296 ^ k * l[k] := by
  rw [take_snoc l k h, val_append, List.length_take, Nat.min_eq_left (by omega), val, val]; simp

theorem val_lt {l : List Nat} (hs : Small l) : val l < 4294967296 ^ l.length := by
  induction l with
  | nil => simp [val]
  | cons x t ih =>
    obtain ⟨hx, ht⟩ := small_cons hs
    have := ih ht
    rw [val, List.length_cons, Nat.pow_succ]
    omega

theorem limbs_take {l : List Nat} (hs : Small l) {n : Nat} (hn : 0 < n) (hl : n ≤ l.length) (h0 : l[n - 1] ≠ 0) : limbs (val (l.take n)) = l.take n := by
  refine (limbs_val (small_take hs n) fun h => ?_).1
  have : (l.take n).length = n := by rw [List.length_take]; omega
  simp only [this, List.getElem_take]
  exact h0

theorem length_limbs_lt {n k : Nat} : n < 4294967296 ^ k ↔ (limbs n).length ≤ k := by
  induction k generalizing n with
  | zero =>
    rw [Nat.pow_zero]
    by_cases h : n = 0
    · subst h; rw [limbs_zero]; simp
    · rw [limbs_pos h]; simp; omega
  | succ k ih =>
    by_cases h : n = 0
    · subst h; rw [limbs_zero]; simp; exact Nat.pow_pos (by omega)
    · rw [limbs_pos h, List.length_cons, Nat.add_le_add_iff_right, ← ih, Nat.pow_succ, Nat.div_lt_iff_lt_mul (by omega)]

theorem limbs_inj {a b : Nat} (h : limbs a = limbs b) : a = b := by rw [← val_limbs a, h, val_limbs]

theorem limbs_last {n : Nat} (h : 0 < (limbs n).length) : (limbs n)[(limbs n).length - 1] ≠ 0 := by
  induction n using Nat.strongRecOn with
  | _ n ih =>
    by_cases h0 : n = 0
    · subst h0; simp [limbs_zero] at h
    · by_cases h1 : n / 4294967296 = 0
      · have e : limbs n = [n % 4294967296] := by rw [limbs_pos h0, h1, limbs_zero]
        simp only [e, List.length_cons, List.length_nil, Nat.zero_add, Nat.sub_self, List.getElem_cons_zero]
        omega
      · have := ih (n / 4294967296) (Nat.div_lt_self (by omega) (by omega)) (by rw [limbs_pos h1]; simp)
        have e := limbs_pos h0
        simp only [e, List.length_cons, Nat.add_sub_cancel]
        rw [List.getElem_cons, dif_neg (by rw [limbs_pos h1]; simp)]
        exact this
end Go.Proofs.YtlppomkpmnpmcaaGreat

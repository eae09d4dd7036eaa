/- Plain: the next combination. -/
import Derived.Test.YtompjmcbfgckiaaCombLaw
set_option linter.unusedVariables false
set_option linter.unusedSimpArgs false
namespace Go.Proofs.Ytompjmcbfgckiaa

theorem checkL_len {n last : Int} {l : List Int} (h : checkL n last l = 0) (hl : last ≤ n) : (l.length : Int) ≤ n - last := by
  induction l generalizing last with
  | nil => simp; omega
  | cons v t ih =>
    obtain ⟨h1, h2, h3, h4⟩ := checkL_cons h
    have := ih h4 (by omega)
    rw [List.length_cons]
    omega

theorem checkL_get {n last : Int} {l : List Int} (h : checkL n last l = 0) (i : Nat) (hi : i < l.length) : 1 ≤ l[i] ∧ l[i] ≤ n ∧ last < l[i] := by
  induction l generalizing last i with
  | nil => simp at hi
  | cons v t ih =>
    obtain ⟨h1, h2, h3, h4⟩ := checkL_cons h
    cases i with
    | zero => exact ⟨h1, h2, h3⟩
    | succ i =>
      have := ih h4 i (by simpa using hi)
      rw [List.getElem_cons_succ]
      exact ⟨this.1, this.2.1, by omega⟩

/-- The place at which the next combination parts, searched from place m - 1 down. -/
def nextI (l : List Int) (n k : Int) : Nat → Option Nat
  | 0 => none
  | i + 1 => if l.getD i 0 = n - k + 1 + i then nextI l n k i else some i

def bump (x : Int) (d : Nat) : List Int := (List.range d).map fun (t : Nat) => x + (t : Int)

theorem length_bump (x : Int) (d : Nat) : (bump x d).length = d := by simp [bump]
theorem getElem_bump (x : Int) (d t : Nat) (h : t < (bump x d).length) : (bump x d)[t] = x + (t : Int) := by simp [bump]

def nextOf (l : List Int) : Option Nat → List Int × Bool
  | none => ([], false)
  | some i => (l.take i ++ bump (l.getD i 0 + 1) (l.length - i), true)

def nextV (l : List Int) (n : Int) : List Int × Bool :=
  if 0 ≤ n ∧ n ≤ 80 ∧ checkL n 0 l = 0 then nextOf l (nextI l n l.length l.length) else ([], false)

theorem nextI_lt {l : List Int} {n k : Int} {m i : Nat} (h : nextI l n k m = some i) : i < m := by
  induction m with
  | zero => cases h
  | succ m ih =>
    rw [nextI] at h
    split at h
    · have := ih h; omega
    · injection h with h; omega

/-- What stands in the row when the places below j are done. -/
def midP (l : List Int) (i j : Nat) (P : List Int) : Prop := P.length = l.length ∧ ∀ t (h : t < P.length) (h' : t < l.length), P[t] = if i ≤ t ∧ t < j then l.getD i 0 + 1 + ((t : Int) - i) else l[t]

theorem midP_set {l P : List Int} {i j : Nat} (h : midP l i j P) (hij : i ≤ j) (hj : j < l.length) : midP l i (j + 1) (P.set j (l.getD i 0 + 1 + ((j : Int) - i))) := by
  refine ⟨by rw [List.length_set]; exact h.1, fun t ht ht' => ?_⟩
  rw [List.getElem_set]
  by_cases e : j = t
  · subst e; rw [if_pos rfl, if_pos (by omega)]
  · rw [if_neg e, h.2 t (by simpa using ht) ht']
    by_cases c : i ≤ t ∧ t < j
    · rw [if_pos c, if_pos (by omega)]
    · rw [if_neg c, if_neg (by omega)]

theorem midP_end {l P : List Int} {i : Nat} (h : midP l i l.length P) (hi : i < l.length) : P = l.take i ++ bump (l.getD i 0 + 1) (l.length - i) := by
  apply List.ext_getElem
  · rw [h.1, List.length_append, List.length_take, length_bump]; omega
  · intro t h1 h2
    have hl := h.1
    rw [h.2 t h1 (by omega), List.getElem_append]
    by_cases c : t < i
    · rw [if_neg (by omega), dif_pos (by rw [List.length_take]; omega), List.getElem_take]
    · rw [if_pos (by omega), dif_neg (by rw [List.length_take]; omega), getElem_bump]
      rw [List.length_take]; omega
end Go.Proofs.Ytompjmcbfgckiaa

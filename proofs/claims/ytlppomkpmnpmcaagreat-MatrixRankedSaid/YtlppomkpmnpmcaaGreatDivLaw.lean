/- Plain: comparing and dividing numbers limb by limb. -/
import Derived.Test.YtlppomkpmnpmcaaGreatMulLaw
set_option linter.unusedVariables false
set_option linter.unusedSimpArgs false
namespace Go.Proofs.YtlppomkpmnpmcaaGreat

theorem val_split (l : List Nat) (i : Nat) (hi : i ≤ l.length) : val l = val (l.take i) + 4294967296 ^ i * val (l.drop i) := by
  have h := val_append (l.take i) (l.drop i)
  rw [List.take_append_drop, List.length_take, Nat.min_eq_left hi] at h
  exact h

theorem drop_cons {α : Type} (l : List α) (i : Nat) (hi : i < l.length) : l.drop i = l[i] :: l.drop (i + 1) := List.drop_eq_getElem_cons hi

theorem val_drop (l : List Nat) (i : Nat) (hi : i < l.length) : val (l.drop i) = l[i] + 4294967296 * val (l.drop (i + 1)) := by
  rw [drop_cons l i hi, val]

theorem cmp_lt {a b : List Nat} (hl : a.length = b.length) (ha : Small a) {i : Nat} (hi : i < a.length) (heq : a.drop (i + 1) = b.drop (i + 1)) (hlt : a[i] < b[i]) : val a < val b := by
  have h1 := val_split a i (by omega)
  have h2 := val_split b i (by omega)
  have h3 := val_drop a i hi
  have h4 := val_drop b i (by omega)
  have h5 := val_lt (small_take ha i)
  rw [List.length_take, Nat.min_eq_left (by omega)] at h5
  rw [heq] at h3
  have h6 : 4294967296 ^ i * (a[i] + 1) ≤ 4294967296 ^ i * b[i] := Nat.mul_le_mul_left _ hlt
  rw [h1, h2, h3, h4, Nat.mul_add, Nat.mul_add]
  rw [Nat.mul_add] at h6
  omega

theorem lt_of_length {m n : Nat} (h : (limbs m).length < (limbs n).length) : m < n := by
  have h1 := length_limbs_lt.2 (Nat.le_refl (limbs m).length)
  have h2 : ¬ n < 4294967296 ^ (limbs m).length := fun h2 => by have := length_limbs_lt.1 h2; omega
  omega

def cmpN (m n : Nat) : Int := if m < n then -1 else if n < m then 1 else 0

theorem div_step {l L : List Nat} {d i r : Nat} (hi : i < l.length) (hL : L.length = l.length) (ht : L.take (i + 1) = l.take (i + 1)) (hd : 0 < d) (hr : r < d)
    (h : val (l.drop (i + 1)) = d * val (L.drop (i + 1)) + r) {x t : Nat} (hx : x = L[i]) (hxs : x < 4294967296) (e : t = r * 4294967296 + x) :
    t / d < 4294967296 ∧ t % d < d ∧ (L.set i (t / d)).take i = l.take i ∧ val (l.drop i) = d * val ((L.set i (t / d)).drop i) + t % d := by
  have hxl : L[i] = l[i] := by
    have h1 : (L.take (i + 1))[i]? = (l.take (i + 1))[i]? := by rw [ht]
    rw [List.getElem?_take, List.getElem?_take, if_pos (by omega), if_pos (by omega), List.getElem?_eq_getElem (by omega), List.getElem?_eq_getElem (by omega)] at h1
    injection h1
  have ht' : L.take i = l.take i := by
    have := congrArg (List.take i) ht
    rwa [List.take_take, List.take_take, Nat.min_eq_left (by omega)] at this
  have hq : t / d < 4294967296 := by
    rw [Nat.div_lt_iff_lt_mul hd]
    have : (r + 1) * 4294967296 ≤ d * 4294967296 := Nat.mul_le_mul_right _ hr
    rw [Nat.mul_comm d] at this
    omega
  have hdm := Nat.div_add_mod t d
  refine ⟨hq, Nat.mod_lt _ hd, ?_, ?_⟩
  · rw [List.take_set_of_le (Nat.le_refl _)]
    exact ht'
  · rw [val_drop l i hi, h, ← hxl, ← hx, val_drop _ i (by rw [List.length_set]; omega), List.getElem_set_self, List.drop_set_of_lt (by omega)]
    generalize t / d = q at *
    generalize t % d = s at *
    generalize val (List.drop (i + 1) L) = Q at *
    grind
end Go.Proofs.YtlppomkpmnpmcaaGreat

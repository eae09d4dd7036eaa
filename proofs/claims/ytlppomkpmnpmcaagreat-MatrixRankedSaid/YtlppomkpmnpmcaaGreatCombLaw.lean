/- Plain: combinations and their ranks. -/
import Derived.Test.YtlppomkpmnpmcaaGreatChooseLaw
set_option linter.unusedVariables false
set_option linter.unusedSimpArgs false
namespace Go.Proofs.YtlppomkpmnpmcaaGreat

/-- The code of the first element that does not fit. -/
def checkL (n : Int) : Int → List Int → Int
  | _, [] => 0
  | last, v :: t => if v < 1 ∨ n < v then 2 else if v ≤ last then 1 else checkL n v t

/-- Sum of C(n - w, j) over w from a + 1 to a + d. -/
def sumC (n j a : Nat) : Nat → Nat
  | 0 => 0
  | d + 1 => sumC n j a d + choose (n - (a + d + 1)) j

def rankL (n : Nat) : Nat → List Int → Nat
  | _, [] => 0
  | last, v :: t => sumC n t.length last (v.toNat - 1 - last) + rankL n v.toNat t

theorem sumC_tele {n j a d : Nat} (h : a + d ≤ n) : sumC n j a d + choose (n - (a + d)) (j + 1) = choose (n - a) (j + 1) := by
  induction d with
  | zero => simp [sumC]
  | succ d ih =>
    have h1 := ih (by omega)
    rw [sumC]
    obtain ⟨m, hm⟩ : ∃ m, n - (a + d) = m + 1 := ⟨n - (a + d) - 1, by omega⟩
    rw [hm, choose_succ] at h1
    rw [show n - (a + d + 1) = m by omega, show n - (a + (d + 1)) = m by omega]
    omega

theorem checkL_cons {n last v : Int} {t : List Int} (h : checkL n last (v :: t) = 0) : 1 ≤ v ∧ v ≤ n ∧ last < v ∧ checkL n v t = 0 := by
  rw [checkL] at h
  by_cases h1 : v < 1 ∨ n < v
  · rw [if_pos h1] at h; omega
  · rw [if_neg h1] at h
    by_cases h2 : v ≤ last
    · rw [if_pos h2] at h; omega
    · rw [if_neg h2] at h
      exact ⟨by omega, by omega, by omega, h⟩

/-- The rank of a combination is below the number of combinations. -/
theorem rankL_lt {n : Nat} {l : List Int} {last : Nat} (hl : last ≤ n) (h : checkL n last l = 0) : rankL n last l < choose (n - last) l.length := by
  induction l generalizing last with
  | nil => rw [rankL, List.length_nil, choose_zero]; omega
  | cons v t ih =>
    obtain ⟨h1, h2, h3, h4⟩ := checkL_cons h
    obtain ⟨v, rfl⟩ := Int.eq_ofNat_of_zero_le (show 0 ≤ v by omega)
    have i1 := ih (last := v) (by omega) h4
    have i2 := sumC_tele (n := n) (j := t.length) (a := last) (d := v - 1 - last) (by omega)
    rw [show last + (v - 1 - last) = v - 1 by omega] at i2
    obtain ⟨m, hm⟩ : ∃ m, n - (v - 1) = m + 1 := ⟨n - v, by omega⟩
    rw [hm, choose_succ] at i2
    rw [show n - v = m by omega] at i1
    rw [rankL, List.length_cons, Int.toNat_natCast]
    omega

/-- The combination with rank r of the m numbers from w on, j of them. -/
def unrankL : Nat → Nat → Nat → Nat → List Int
  | 0, _, _, _ => []
  | m + 1, w, r, j => if j = 0 then [] else if r < choose m (j - 1) then (w : Int) :: unrankL m (w + 1) r (j - 1) else unrankL m (w + 1) (r - choose m (j - 1)) j

theorem unrankL_zero (m w r : Nat) : unrankL m w r 0 = [] := by cases m <;> simp [unrankL]

theorem unrankL_len {m w r j : Nat} (h : r < choose m j) : (unrankL m w r j).length = j := by
  induction m generalizing w r j with
  | zero => cases j with
    | zero => rfl
    | succ j => rw [choose_gt (by omega)] at h; omega
  | succ m ih => cases j with
    | zero => rw [unrankL_zero]; rfl
    | succ j =>
      rw [choose_succ] at h
      rw [unrankL, if_neg (by omega), Nat.add_sub_cancel]
      split
      · rw [List.length_cons, ih (by assumption)]
      · exact ih (by omega)

/-- Rank of Unrank. -/
theorem check_unrankL {n m w r j : Nat} (hm : m + w = n + 1) (hw : 1 ≤ w) (h : r < choose m j) (last : Int) (hl : last < w) : checkL n last (unrankL m w r j) = 0 := by
  induction m generalizing w r j last with
  | zero => rfl
  | succ m ih => cases j with
    | zero => rw [unrankL_zero]; rfl
    | succ j =>
      rw [choose_succ] at h
      rw [unrankL, if_neg (by omega), Nat.add_sub_cancel]
      split
      · rw [checkL, if_neg (by omega), if_neg (by omega)]
        exact ih (by omega) (by omega) (by assumption) _ (by omega)
      · exact ih (by omega) (by omega) (by omega) _ (by omega)

/-- The numbers from a + 1 to b - 1, one after the other: skipping one. -/
theorem sumC_front {n j a d : Nat} : sumC n j a (d + 1) = choose (n - (a + 1)) j + sumC n j (a + 1) d := by
  induction d with
  | zero => simp [sumC]
  | succ d ih =>
    rw [sumC, ih, sumC, show a + (d + 1) + 1 = a + 1 + d + 1 by omega]
    omega

theorem rank_skip {n last : Nat} {v : Int} {t : List Int} (h : (last : Int) + 1 < v) : rankL n last (v :: t) = choose (n - (last + 1)) t.length + rankL n (last + 1) (v :: t) := by
  obtain ⟨v, rfl⟩ := Int.eq_ofNat_of_zero_le (show 0 ≤ v by omega)
  rw [rankL, rankL, Int.toNat_natCast]
  obtain ⟨d, hd⟩ : ∃ d, v - 1 - last = d + 1 := ⟨v - 1 - last - 1, by omega⟩
  rw [hd, sumC_front, show v - 1 - (last + 1) = d by omega]
  omega

theorem unrankL_head {n m w r j : Nat} (hm : m + w = n + 1) (h : r < choose m (j + 1)) : ∃ v t, unrankL m w r (j + 1) = v :: t ∧ t.length = j ∧ (w : Int) ≤ v := by
  induction m generalizing w r with
  | zero => rw [choose_gt (by omega)] at h; omega
  | succ m ih =>
    rw [choose_succ] at h
    rw [unrankL, if_neg (by omega), Nat.add_sub_cancel]
    split
    · exact ⟨_, _, rfl, unrankL_len (by assumption), by omega⟩
    · obtain ⟨v, t, e, e2, e3⟩ := ih (w := w + 1) (r := r - choose m j) (by omega) (by omega)
      exact ⟨v, t, e, e2, by omega⟩

theorem rank_unrankL {n m w r j : Nat} (hm : m + w = n + 1) (h : r < choose m j) (hw : 1 ≤ w) : rankL n (w - 1) (unrankL m w r j) = r := by
  induction m generalizing w r j with
  | zero => cases j with
    | zero => simp [choose] at h; subst h; rfl
    | succ j => rw [choose_gt (by omega)] at h; omega
  | succ m ih => cases j with
    | zero => rw [choose_zero] at h; rw [unrankL_zero]; simp [rankL]; omega
    | succ j =>
      rw [choose_succ] at h
      by_cases hr : r < choose m j
      · rw [unrankL, if_neg (by omega), Nat.add_sub_cancel, if_pos hr, rankL, Int.toNat_natCast, show w - 1 - (w - 1) = 0 by omega, sumC, Nat.zero_add]
        have := ih (w := w + 1) (r := r) (j := j) (by omega) hr (by omega)
        rwa [Nat.add_sub_cancel] at this
      · have h2 : r - choose m j < choose m (j + 1) := by omega
        obtain ⟨v, t, e, e2, e3⟩ := unrankL_head (n := n) (w := w + 1) (by omega) h2
        rw [unrankL, if_neg (by omega), Nat.add_sub_cancel, if_neg hr]
        have h3 := ih (w := w + 1) (r := r - choose m j) (j := j + 1) (by omega) h2 (by omega)
        rw [e] at h3 ⊢
        rw [Nat.add_sub_cancel] at h3
        rw [rank_skip (by omega), show w - 1 + 1 = w by omega, h3, e2, show n - w = m by omega]
        omega
end Go.Proofs.YtlppomkpmnpmcaaGreat

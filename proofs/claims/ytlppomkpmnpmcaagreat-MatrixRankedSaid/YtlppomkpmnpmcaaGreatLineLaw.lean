/- Plain: lines of a game: canonical form, codes, ranks. No program in sight. No condition. -/
import Derived.Test.YtlppomkpmnpmcaaGreatCombLaw
import Derived.Test.YtlppomkpmnpmcaaGreatGameLaw
set_option linter.unusedVariables false
set_option linter.unusedSimpArgs false
namespace Go.Proofs.YtlppomkpmnpmcaaGreat

/-- A list in ascending order. -/
def sortI (l : List Int) : List Int := l.mergeSort fun x y => decide (x ≤ y)

theorem sortI_perm (l : List Int) : (sortI l).Perm l := List.mergeSort_perm l _
theorem sortI_sorted (l : List Int) : (sortI l).Pairwise (· ≤ ·) := by
  have := List.pairwise_mergeSort (le := fun x y : Int => decide (x ≤ y)) (by intro a b c h1 h2; simp at *; omega) (by intro a b; simp; omega) l
  exact this.imp (by simp)
theorem sortI_eq {l m : List Int} (hp : m.Perm l) (hs : m.Pairwise (· ≤ ·)) : m = sortI l :=
  List.Perm.eq_of_pairwise (fun a b _ _ h1 h2 => by omega) hs (sortI_sorted l) (hp.trans (sortI_perm l).symm)
theorem sortI_len (l : List Int) : (sortI l).length = l.length := (sortI_perm l).length_eq
theorem sortI_congr {l m : List Int} (h : l.Perm m) : sortI l = sortI m := sortI_eq ((sortI_perm l).trans h) (sortI_sorted l)
theorem sortI_idem (l : List Int) : sortI (sortI l) = sortI l := (sortI_eq (List.Perm.refl _) (sortI_sorted l)).symm
theorem sortI_of {l : List Int} (h : l.Pairwise (· ≤ ·)) : sortI l = l := (sortI_eq (List.Perm.refl _) h).symm
theorem sortI_nil : sortI [] = [] := sortI_of List.Pairwise.nil

def lowG (g : GameD) : Int := if g.kind = 2 then 0 else 1
def highG (g : GameD) : Int := if g.kind = 2 then g.of - 1 else g.of
def allB (l : List Int) (lo hi : Int) : Bool := l.all fun x => inB x lo hi
def dupB (l : List Int) : Bool := decide (¬ l.Nodup)

theorem allB_iff {l : List Int} {lo hi : Int} : allB l lo hi = true ↔ ∀ x ∈ l, lo ≤ x ∧ x ≤ hi := by
  unfold allB
  rw [List.all_eq_true]
  exact ⟨fun h x hx => inB_iff.1 (h x hx), fun h x hx => inB_iff.2 (h x hx)⟩
theorem allB_perm {l m : List Int} (h : l.Perm m) (lo hi : Int) : allB l lo hi = allB m lo hi := by
  rw [Bool.eq_iff_iff, allB_iff, allB_iff]
  exact ⟨fun H x hx => H x (h.mem_iff.2 hx), fun H x hx => H x (h.mem_iff.1 hx)⟩
theorem dupB_perm {l m : List Int} (h : l.Perm m) : dupB l = dupB m := by
  unfold dupB; rw [decide_eq_decide, h.nodup_iff]
theorem dupB_no {l : List Int} : dupB l = false ↔ l.Nodup := by unfold dupB; simp

/-- The code of a line of a game. -/
def lineE (g : GameD) (a b : List Int) : Int :=
  if gameE g ≠ 0 then gameE g
  else if (a.length : Int) ≠ g.main ∨ (b.length : Int) ≠ g.bonus then 3
  else if allB a (lowG g) (highG g) = false ∨ allB b 1 g.bonusOf = false then 2
  else if (g.kind ≠ 2 ∧ dupB a = true) ∨ dupB b = true then 6
  else 0

theorem lineE_perm {g : GameD} {a b c d : List Int} (h1 : a.Perm c) (h2 : b.Perm d) : lineE g a b = lineE g c d := by
  unfold lineE
  rw [h1.length_eq, h2.length_eq, allB_perm h1, allB_perm h2, dupB_perm h1, dupB_perm h2]

theorem lineE_ok {g : GameD} {a b : List Int} : lineE g a b = 0 ↔ gameE g = 0 ∧ (a.length : Int) = g.main ∧ (b.length : Int) = g.bonus ∧ (∀ x ∈ a, lowG g ≤ x ∧ x ≤ highG g) ∧ (∀ x ∈ b, 1 ≤ x ∧ x ≤ g.bonusOf) ∧ (g.kind ≠ 2 → a.Nodup) ∧ b.Nodup := by
  unfold lineE
  rw [← allB_iff, ← allB_iff, ← dupB_no (l := a), ← dupB_no (l := b)]
  by_cases h1 : gameE g = 0
  · rw [if_neg (by simpa using h1)]
    by_cases h2 : (a.length : Int) ≠ g.main ∨ (b.length : Int) ≠ g.bonus
    · rw [if_pos h2]; constructor
      · intro h; omega
      · intro h; omega
    · rw [if_neg h2]
      cases h3 : allB a (lowG g) (highG g) <;> cases h4 : allB b 1 g.bonusOf <;> simp
      cases h5 : dupB a <;> cases h6 : dupB b <;> by_cases h7 : g.kind = 2 <;> simp [h7] <;> omega
  · rw [if_pos (by simpa using h1)]
    exact ⟨fun h => absurd h h1, fun h => absurd h.1 h1⟩

def bonusN (g : GameD) : Nat := choose g.bonusOf.toNat g.bonus.toNat

/-- How many lines a valid game has. -/
def countG (g : GameD) : Nat := if g.kind = 2 then g.of.toNat ^ g.main.toNat else choose g.of.toNat g.main.toNat * choose g.bonusOf.toNat g.bonus.toNat

/-- The number with the digits l. -/
def digitsN (q : Int) (l : List Int) : Int := l.foldl (fun n x => n * q + x) 0

/-- The rank of a valid line. -/
def rankG (g : GameD) (a b : List Int) : Int :=
  if g.kind = 2 then digitsN g.of a else ((rankL g.of.toNat 0 (sortI a) * bonusN g + rankL g.bonusOf.toNat 0 (sortI b) : Nat) : Int)

/-- The value and the code of Rank. -/
def rankP (g : GameD) (a b : List Int) : Int × Int := if lineE g a b = 0 then (rankG g a b, 0) else (0, lineE g a b)

/-- n digits of r. -/
def digitsL (q : Nat) : Nat → Nat → List Int
  | 0, _ => []
  | n + 1, r => digitsL q n (r / q) ++ [((r % q : Nat) : Int)]

def unrankG (g : GameD) (r : Nat) : List Int × List Int :=
  if g.kind = 2 then (digitsL g.of.toNat g.main.toNat r, []) else (unrankL g.of.toNat 1 (r / bonusN g) g.main.toNat, unrankL g.bonusOf.toNat 1 (r % bonusN g) g.bonus.toNat)

/-- The line and the code of Unrank. -/
def unrankP (g : GameD) (r : Int) : (List Int × List Int) × Int :=
  if gameE g ≠ 0 then (([], []), gameE g) else if r < 0 ∨ (countG g : Int) ≤ r then (([], []), 2) else (unrankG g r.toNat, 0)

/-- The value and the code of Count. -/
def countP (g : GameD) : Int × Int := if gameE g = 0 then ((countG g : Int), 0) else (0, gameE g)

theorem digitsL_len (q n r : Nat) : (digitsL q n r).length = n := by
  induction n generalizing r with
  | zero => rfl
  | succ n ih => rw [digitsL, List.length_append, ih]; rfl

theorem digitsL_mem {q n r : Nat} (hq : 0 < q) : ∀ x ∈ digitsL q n r, 0 ≤ x ∧ x ≤ (q : Int) - 1 := by
  induction n generalizing r with
  | zero => intro x hx; cases hx
  | succ n ih =>
    intro x hx
    rw [digitsL, List.mem_append] at hx
    rcases hx with hx | hx
    · exact ih x hx
    · rw [List.mem_singleton] at hx
      subst hx
      have := Nat.mod_lt r hq
      omega

theorem digitsN_snoc (q : Int) (l : List Int) (x : Int) : digitsN q (l ++ [x]) = digitsN q l * q + x := by
  unfold digitsN; rw [List.foldl_append]; rfl

theorem digitsN_digitsL {q n r : Nat} (h : r < q ^ n) : digitsN q (digitsL q n r) = r := by
  induction n generalizing r with
  | zero => rw [Nat.pow_zero] at h; obtain rfl : r = 0 := by omega
            rfl
  | succ n ih =>
    have hq : 0 < q := by
      rcases Nat.eq_zero_or_pos q with h0 | h0
      · subst h0; rw [Nat.pow_succ, Nat.mul_zero] at h; omega
      · exact h0
    have h2 : r / q < q ^ n := Nat.div_lt_of_lt_mul (by rw [Nat.mul_comm, ← Nat.pow_succ]; exact h)
    rw [digitsL, digitsN_snoc, ih h2]
    have := Nat.div_add_mod r q
    have e : ((r / q : Nat) : Int) * (q : Int) + ((r % q : Nat) : Int) = ((r / q * q + r % q : Nat) : Int) := by simp
    rw [e, Nat.mul_comm (r / q) q, this]

/-- A strictly ascending list of numbers from 1 to n. -/
theorem checkL_of {n last : Int} {l : List Int} (h1 : l.Pairwise (· < ·)) (h2 : ∀ x ∈ l, last < x ∧ 1 ≤ x ∧ x ≤ n) : checkL n last l = 0 := by
  induction l generalizing last with
  | nil => rfl
  | cons v t ih =>
    rw [List.pairwise_cons] at h1
    have hv := h2 v (List.mem_cons_self ..)
    rw [checkL, if_neg (by omega), if_neg (by omega)]
    refine ih h1.2 (fun x hx => ?_)
    have := h2 x (List.mem_cons_of_mem _ hx)
    have := h1.1 x hx
    omega

theorem checkL_pair {n last : Int} {l : List Int} (h : checkL n last l = 0) : l.Pairwise (· < ·) ∧ ∀ x ∈ l, last < x ∧ 1 ≤ x ∧ x ≤ n := by
  induction l generalizing last with
  | nil => exact ⟨List.Pairwise.nil, fun x hx => by cases hx⟩
  | cons v t ih =>
    obtain ⟨h1, h2, h3, h4⟩ := checkL_cons h
    obtain ⟨i1, i2⟩ := ih h4
    refine ⟨List.pairwise_cons.2 ⟨fun x hx => (i2 x hx).1, i1⟩, fun x hx => ?_⟩
    rcases List.mem_cons.1 hx with rfl | hx
    · omega
    · have := i2 x hx; omega

theorem lt_nodup {l : List Int} (h : l.Pairwise (· < ·)) : l.Nodup := h.imp (fun h => by omega)
theorem lt_le {l : List Int} (h : l.Pairwise (· < ·)) : l.Pairwise (· ≤ ·) := h.imp (fun h => by omega)

theorem sortI_lt {l : List Int} (h : l.Nodup) : (sortI l).Pairwise (· < ·) := by
  have h1 := sortI_sorted l
  have h2 : (sortI l).Nodup := (sortI_perm l).nodup_iff.2 h
  exact (h1.and h2).imp (fun h => by have := h.1; have := h.2; omega)

/-- The canonical form of a list of different numbers from 1 to n is a combination. -/
theorem check_sortI {n : Int} {l : List Int} (h : l.Nodup) (h2 : ∀ x ∈ l, 1 ≤ x ∧ x ≤ n) : checkL n 0 (sortI l) = 0 := by
  refine checkL_of (sortI_lt h) (fun x hx => ?_)
  have := h2 x ((sortI_perm l).mem_iff.1 hx)
  omega

theorem unrankL_sumC {n m w j r : Nat} (d : Nat) (hm : m + w = n + 1) (hd : d ≤ m) (hr : r < choose (m - d) (j + 1)) :
    unrankL m w (sumC n j (w - 1) d + r) (j + 1) = unrankL (m - d) (w + d) r (j + 1) ∨ w = 0 := by
  induction d generalizing m w with
  | zero => left; simp [sumC]
  | succ d ih =>
    rcases Nat.eq_zero_or_pos w with hw | hw
    · exact .inr hw
    left
    obtain ⟨m, rfl⟩ : ∃ m', m = m' + 1 := ⟨m - 1, by omega⟩
    rw [sumC_front, show w - 1 + 1 = w by omega, show n - w = m by omega, unrankL, if_neg (by omega), Nat.add_sub_cancel, if_neg (by omega)]
    have := ih (m := m) (w := w + 1) (by omega) (by omega) (by rwa [show m + 1 - (d + 1) = m - d by omega] at hr)
    rw [show w + 1 - 1 = w by omega] at this
    rw [show choose m j + sumC n j w d + r - choose m j = sumC n j w d + r by omega]
    rcases this with h | h
    · rw [h, show m + 1 - (d + 1) = m - d by omega, show w + (d + 1) = w + 1 + d by omega]
    · omega

/-- Unrank of Rank. -/
theorem unrank_rankL {n last : Nat} {l : List Int} (hl : last ≤ n) (h : checkL n last l = 0) : unrankL (n - last) (last + 1) (rankL n last l) l.length = l := by
  induction l generalizing last with
  | nil => rw [List.length_nil, unrankL_zero]
  | cons v t ih =>
    obtain ⟨h1, h2, h3, h4⟩ := checkL_cons h
    obtain ⟨v, rfl⟩ := Int.eq_ofNat_of_zero_le (show 0 ≤ v by omega)
    have hlt := rankL_lt (n := n) (last := v) (by omega) h4
    rw [rankL, List.length_cons, Int.toNat_natCast]
    obtain ⟨d, hd⟩ : ∃ d, v - 1 - last = d := ⟨_, rfl⟩
    obtain ⟨m, hm⟩ : ∃ m, n - last - d = m + 1 := ⟨n - last - d - 1, by omega⟩
    have hv : n - v = m := by omega
    rw [hv] at hlt
    have := unrankL_sumC (n := n) (m := n - last) (w := last + 1) (j := t.length) (r := rankL n v t) d (by omega) (by omega) (by rw [hm, choose_succ]; omega)
    rw [Nat.add_sub_cancel] at this
    rw [hd]
    rcases this with h | h
    · rw [h, hm, unrankL, if_neg (by omega), Nat.add_sub_cancel, if_pos hlt]
      have e := ih (last := v) (by omega) h4
      rw [hv] at e
      rw [show last + 1 + d = v by omega, e]
    · omega

/-- Does a list come before another one of the same length? -/
def lessB : List Int → List Int → Bool
  | a :: s, b :: t => if a = b then lessB s t else decide (a < b)
  | _, _ => false

theorem unrankL_succ (m w r j : Nat) : unrankL (m + 1) w r (j + 1) = if r < choose m j then (w : Int) :: unrankL m (w + 1) r j else unrankL m (w + 1) (r - choose m j) (j + 1) := by
  rw [unrankL, if_neg (by omega), Nat.add_sub_cancel]

theorem unrankL_less {n m w r s j : Nat} (hm : m + w = n + 1) (hs : s < choose m j) (hrs : r < s) : lessB (unrankL m w r j) (unrankL m w s j) = true := by
  induction m generalizing w r s j with
  | zero => cases j with
    | zero => rw [choose_zero] at hs; omega
    | succ j => rw [choose_gt (by omega)] at hs; omega
  | succ m ih => cases j with
    | zero => rw [choose_zero] at hs; omega
    | succ j =>
      rw [choose_succ] at hs
      rw [unrankL_succ, unrankL_succ]
      by_cases h1 : s < choose m j
      · rw [if_pos h1, if_pos (show r < choose m j by omega), lessB, if_pos rfl]
        exact ih (by omega) h1 hrs
      · rw [if_neg h1]
        by_cases h2 : r < choose m j
        · rw [if_pos h2]
          obtain ⟨v, t, e, e2, e3⟩ := unrankL_head (n := n) (w := w + 1) (m := m) (r := s - choose m j) (j := j) (by omega) (by omega)
          rw [e, lessB, if_neg (by omega), decide_eq_true_iff]
          omega
        · rw [if_neg h2]
          exact ih (by omega) (by omega) (by omega)

theorem digits_less {q n r s : Nat} (hs : s < q ^ n) (hrs : r < s) : ∀ (t u : List Int), lessB (digitsL q n r ++ t) (digitsL q n s ++ u) = true := by
  induction n generalizing r s with
  | zero => rw [Nat.pow_zero] at hs; omega
  | succ n ih =>
    intro t u
    have hq : 0 < q := by
      rcases Nat.eq_zero_or_pos q with h0 | h0
      · subst h0; rw [Nat.pow_succ, Nat.mul_zero] at hs; omega
      · exact h0
    have h2 : s / q < q ^ n := Nat.div_lt_of_lt_mul (by rw [Nat.mul_comm, ← Nat.pow_succ]; exact hs)
    rw [digitsL, digitsL, List.append_assoc, List.append_assoc]
    by_cases h : r / q < s / q
    · exact ih h2 h _ _
    · have h3 : r / q ≤ s / q := Nat.div_le_div_right (by omega)
      have h4 : r / q = s / q := by omega
      have h5 := Nat.div_add_mod r q
      have h6 := Nat.div_add_mod s q
      rw [h4] at h5
      have h7 : r % q < s % q := by omega
      rw [h4]
      have : ∀ (p t u : List Int), lessB (p ++ t) (p ++ u) = lessB t u := by
        intro p t u
        induction p with
        | nil => rfl
        | cons x p ih => rw [List.cons_append, List.cons_append, lessB, if_pos rfl, ih]
      rw [this, List.singleton_append, List.singleton_append, lessB, if_neg (by omega), decide_eq_true_iff]
      omega
end Go.Proofs.YtlppomkpmnpmcaaGreat

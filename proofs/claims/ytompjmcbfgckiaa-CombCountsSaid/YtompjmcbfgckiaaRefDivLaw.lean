/- Plain: division of digits bit by bit. -/
import Derived.Test.YtompjmcbfgckiaaRefMul
set_option linter.unusedVariables false
set_option linter.unusedSimpArgs false
namespace Go.Proofs.Ytompjmcbfgckiaa

def bitsL : List Nat := [32768, 16384, 8192, 4096, 2048, 1024, 512, 256, 128, 64, 32, 16, 8, 4, 2, 1]

/-- What a quotient's place still lacks: with the bit b next. -/
def unit (b : Nat) : Nat := if b = 0 then 1 else 2 * b

theorem bit_arith {b p top Qi rest C : Nat} (hb : b ∈ bitsL) (hp : p < 65536) (hq : Qi < 65536) (hQ : Qi + 65536 * rest = 2 * b * C) :
    (top * 65536 + p) / b = 2 * ((top * 65536 + p) / (2 * b)) + p / b % 2 ∧ Qi + b < 65536 ∧ 0 < b ∧ b ≤ 32768 ∧ (b / 2 = 0 ∨ b / 2 ∈ bitsL) ∧ unit (b / 2) = b := by
  simp only [bitsL, List.mem_cons, List.not_mem_nil, or_false] at hb
  rcases hb with rfl | rfl | rfl | rfl | rfl | rfl | rfl | rfl | rfl | rfl | rfl | rfl | rfl | rfl | rfl | rfl
  all_goals exact ⟨by omega, by omega, by omega, by omega, by decide, by decide⟩

def DivS (n top p i : Nat) (Q : List Nat) (b R : Nat) : Prop :=
  R < n ∧ DSmall Q ∧ (b = 0 ∨ b ∈ bitsL) ∧ (∀ t, t < i → Q.getD t 0 = 0) ∧ ∃ C, n * C + R = (top * 65536 + p) / unit b ∧ dval (Q.drop i) = unit b * C

def DivO (n : Nat) (a : List Nat) (j : Nat) (Q : List Nat) (R : Nat) : Prop :=
  R < n ∧ DSmall Q ∧ (∀ t, t < j → Q.getD t 0 = 0) ∧ n * dval (Q.drop j) + R = dval (a.drop j)

theorem div_begin {n : Nat} {a Q : List Nat} {i R : Nat} (h : DivO n a (i + 1) Q R) (p : Nat) (hp : p < 65536) : DivS n (dval (a.drop (i + 1))) p i Q 32768 R := by
  obtain ⟨h1, h2, h3, h4⟩ := h
  refine ⟨h1, h2, .inr (by decide), fun t ht => h3 t (by omega), dval (Q.drop (i + 1)), ?_, ?_⟩
  · rw [show unit 32768 = 65536 by decide, h4]; omega
  · rw [show unit 32768 = 65536 by decide, dval_drop, h3 i (by omega)]; omega

theorem div_over {n : Nat} {a Q : List Nat} {i R : Nat} (h : DivS n (dval (a.drop (i + 1))) (a.getD i 0) i Q 0 R) : DivO n a i Q R := by
  obtain ⟨h1, h2, h3, h4, C, h5, h6⟩ := h
  rw [show unit 0 = 1 by decide] at h5 h6
  rw [Nat.one_mul] at h6
  refine ⟨h1, h2, h4, ?_⟩
  rw [h6, h5, dval_drop a i]; omega

theorem div_round {n top p i : Nat} {Q : List Nat} {b R : Nat} (hi : i < Q.length) (hp : p < 65536) (h : DivS n top p i Q b R) (hb : b ≠ 0) :
    0 < b ∧ b ≤ 32768 ∧ Q[i] + b < 65536 ∧
    (2 * R + p / b % 2 < n → DivS n top p i Q (b / 2) (2 * R + p / b % 2)) ∧
    (n ≤ 2 * R + p / b % 2 → DivS n top p i (Q.set i (Q[i] + b)) (b / 2) (2 * R + p / b % 2 - n)) := by
  obtain ⟨h1, h2, h3, h4, C, h5, h6⟩ := h
  have hm : b ∈ bitsL := by rcases h3 with h | h; exact absurd h hb; exact h
  have hu : unit b = 2 * b := by unfold unit; rw [if_neg hb]
  rw [hu] at h5 h6
  have hd := h6
  rw [List.drop_eq_getElem_cons hi, dval] at hd
  obtain ⟨a1, a2, a3, a4, a5, a6⟩ := bit_arith (top := top) hm hp (h2 _ (List.getElem_mem hi)) hd
  obtain ⟨X, hX⟩ : ∃ X, X = (top * 65536 + p) / (2 * b) := ⟨_, rfl⟩
  obtain ⟨Y, hY⟩ : ∃ Y, Y = (top * 65536 + p) / b := ⟨_, rfl⟩
  obtain ⟨e, he⟩ : ∃ e, e = p / b % 2 := ⟨_, rfl⟩
  have he2 : e < 2 := by omega
  rw [← hX] at h5 a1
  rw [← hY, ← he] at a1
  rw [← he]
  have hnC : n * (2 * C) = 2 * (n * C) := by rw [Nat.mul_left_comm]
  have hnC1 : n * (2 * C + 1) = 2 * (n * C) + n := by rw [Nat.mul_add, hnC, Nat.mul_one]
  have hbC : b * (2 * C) = 2 * b * C := by rw [← Nat.mul_assoc, Nat.mul_comm b 2]
  refine ⟨a3, a4, a2, fun hlt => ⟨hlt, h2, a5, h4, 2 * C, ?_, ?_⟩, fun hge => ⟨by omega, dsmall_set h2 i a2, a5, ?_, 2 * C + 1, ?_, ?_⟩⟩
  · rw [a6, ← hY]; omega
  · rw [a6, h6, hbC]
  · intro t ht
    rw [List.getD_eq_getElem?_getD, List.getElem?_set_ne (by omega), ← List.getD_eq_getElem?_getD]
    exact h4 t ht
  · rw [a6, ← hY, hnC1]; omega
  · rw [a6, List.drop_eq_getElem_cons (by rw [List.length_set]; exact hi), dval, List.getElem_set_self, List.drop_set_of_lt (by omega), Nat.mul_add, hbC, Nat.mul_one]
    omega

theorem div_end {n : Nat} {a Q : List Nat} {R : Nat} (hn : 0 < n) (h : DivO n a 0 Q R) : dval Q = dval a / n ∧ R = dval a % n := by
  obtain ⟨h1, h2, h3, h4⟩ := h
  rw [List.drop_zero, List.drop_zero] at h4
  rw [← h4]
  exact ⟨by rw [Nat.mul_add_div hn, Nat.div_eq_of_lt h1]; omega, by rw [Nat.mul_add_mod, Nat.mod_eq_of_lt h1]⟩

theorem div_start {n : Nat} (hn : 0 < n) (a : List Nat) : DivO n a a.length (List.replicate a.length 0) 0 := by
  refine ⟨hn, dsmall_zeros _, fun t ht => ?_, ?_⟩
  · rw [List.getD_eq_getElem?_getD, List.getElem?_replicate, if_pos ht]; rfl
  · rw [List.drop_of_length_le (by simp), List.drop_of_length_le (Nat.le_refl _)]; rfl
end Go.Proofs.Ytompjmcbfgckiaa

/- The eighteen ranges of lotteryref12 are those of rulecheck. -/
import Derived.Test.YtlppomkpmnpmcaaGreatRNums
set_option linter.unusedVariables false
set_option linter.unusedSimpArgs false
namespace Go.Proofs.YtlppomkpmnpmcaaGreat
open Go.RowKit

def okAt (g : GameD) (i : Nat) : Bool := inB ((numsL g).getD i 0) ((lowL g).getD i 0) ((highL g).getD i 0)

theorem ok_all (g : GameD) : (∀ i, i < 18 → okAt g i = true) ↔ (okAt g 0 = true ∧ okAt g 1 = true ∧ okAt g 2 = true ∧ okAt g 3 = true ∧ okAt g 4 = true ∧ okAt g 5 = true ∧ okAt g 6 = true ∧ okAt g 7 = true ∧ okAt g 8 = true ∧ okAt g 9 = true ∧ okAt g 10 = true ∧ okAt g 11 = true ∧ okAt g 12 = true ∧ okAt g 13 = true ∧ okAt g 14 = true ∧ okAt g 15 = true ∧ okAt g 16 = true ∧ okAt g 17 = true) := by
  constructor
  · intro h
    exact ⟨h 0 (by omega), h 1 (by omega), h 2 (by omega), h 3 (by omega), h 4 (by omega), h 5 (by omega), h 6 (by omega), h 7 (by omega), h 8 (by omega), h 9 (by omega), h 10 (by omega), h 11 (by omega), h 12 (by omega), h 13 (by omega), h 14 (by omega), h 15 (by omega), h 16 (by omega), h 17 (by omega)⟩
  · rintro ⟨h0, h1, h2, h3, h4, h5, h6, h7, h8, h9, h10, h11, h12, h13, h14, h15, h16, h17⟩ i hi
    have : i = 0 ∨ i = 1 ∨ i = 2 ∨ i = 3 ∨ i = 4 ∨ i = 5 ∨ i = 6 ∨ i = 7 ∨ i = 8 ∨ i = 9 ∨ i = 10 ∨ i = 11 ∨ i = 12 ∨ i = 13 ∨ i = 14 ∨ i = 15 ∨ i = 16 ∨ i = 17 := by omega
    rcases this with rfl | rfl | rfl | rfl | rfl | rfl | rfl | rfl | rfl | rfl | rfl | rfl | rfl | rfl | rfl | rfl | rfl | rfl <;> assumption

theorem least_le (a b x : Int) : x ≤ leastI a b ↔ x ≤ a ∧ x ≤ b := by
  unfold leastI
  split <;> omega

theorem nums_ok {g : GameD} (hk : g.kind = 1 ∨ g.kind = 2) : (∀ i, i < 18 → okAt g i = true) ↔ (matB g = true ∧ termB g = true) := by
  rw [ok_all]
  obtain ⟨gname, gkind, gprice, gmain, gof, gbonus, gbonusOf, gextra, gdraws, gsystem, gdays, gat, gclose, gcancel, gexpiry, gpool, greserve, ground, gcap, grolls, ga, gt⟩ := g
  unfold okAt matB termB numsL lowL highL
  simp only [List.getD_cons_zero, List.getD_cons_succ, Bool.and_eq_true, inB_iff, decide_eq_true_iff] at hk ⊢
  have hw : gmain ≤ 10 → 1 ≤ gmain → gof ≤ 80 → gmain ≤ gof → wrap64 (gof - gmain) = gof - gmain := fun h1 h2 h3 h4 => IntWalk.wrap64_in _ (by omega)
  have hk2 : gkind = 2 ∨ ¬ gkind = 2 := by omega
  by_cases hb : gbonus = 0
  · rcases hk2 with h2 | h2
    · simp only [h2, hb, if_true, inB_iff]
      omega
    · simp only [h2, hb, if_true, if_false, inB_iff, least_le, Bool.and_eq_true, decide_eq_true_iff]
      constructor
      · rintro ⟨h0, h1, h2, h3, h4, h5, h6, h7, h⟩
        rw [hw (by omega) (by omega) (by omega) (by omega)] at h5
        omega
      · rintro ⟨⟨⟨⟨⟨⟨⟨⟨h0, h1⟩, h2⟩, h3⟩, h4⟩, h5⟩, h6⟩, h7⟩, h⟩
        rw [hw (by omega) (by omega) (by omega) (by omega)]
        omega
  · rcases hk2 with h2 | h2
    · simp only [h2, hb, if_true, if_false, inB_iff]
      omega
    · simp only [h2, hb, if_true, if_false, inB_iff, least_le, Bool.and_eq_true, decide_eq_true_iff]
      constructor
      · rintro ⟨h0, h1, h2, h3, h4, h5, h6, h7, h⟩
        rw [hw (by omega) (by omega) (by omega) (by omega)] at h5
        omega
      · rintro ⟨⟨⟨⟨⟨⟨⟨⟨h0, h1⟩, h2⟩, h3⟩, h4⟩, h5⟩, h6⟩, h7⟩, h⟩
        rw [hw (by omega) (by omega) (by omega) (by omega)]
        omega
end Go.Proofs.YtlppomkpmnpmcaaGreat

/- slices.Contains, slices.Clone, slices.Sort at []int in words of lists (the shelf's contracts). No condition but sizes. -/
import Derived.Test.YtlppomkpmnpmcaaGreatShelf
import Derived.Test.YtlppomkpmnpmcaaGreatApp
import Derived.Test.YtlppomkpmnpmcaaGreatLineLaw
import Derived.Sort.OwnSortedInts
open Go.RowKit
set_option linter.unusedVariables false
set_option linter.unusedSimpArgs false
namespace Go.Proofs.YtlppomkpmnpmcaaGreat

theorem contains_any (v : Value) (l : List Int) (x : Int) (w : World) (h : Rd I64 w v l) :
    Calls Tryz.prog 46 #[v, .int .i64 x] w (Pure (.bool (l.contains x)) w) := by
  obtain ⟨ao, cap, rfl, h1, h2, h3⟩ := h
  by_cases h0 : l.length = 0
  · have : l = [] := List.eq_nil_of_length_eq_zero h0
    subst this
    refine (Tryz.slices_Contains_int_empty ao cap x w).mono ?_
    rintro e w' ⟨rfl, rfl⟩
    exact ⟨rfl, rfl⟩
  · obtain ⟨b, off, rfl, hb, hc⟩ := h3 (by omega)
    have hlen : l.length ≤ 9223372036854775807 := by unfold maxLen at h2; omega
    refine (Tryz.slices_Contains_int b off l.length cap l x w (Nat.le_refl _) hlen (fun j hj => ?_)).mono ?_
    · have := hc j l[j] (List.getElem?_eq_getElem hj)
      rw [this]; simp [hj]
    · rintro e w' ⟨rfl, rfl⟩
      rw [List.take_length]
      exact ⟨rfl, rfl⟩

/-- A copy of a list in memory of the call's own. -/
def CloneP (l : List Int) (w : World) (e : Ending) (w' : World) : Prop := ∃ v, e = .returned v ∧ Own I64 w' w.heap.size 3 v l ∧ Below w.heap.size w w'

/-- Behind the sort. -/
def SortP (v : Value) (l : List Int) (base : Nat) (w : World) (e : Ending) (w' : World) : Prop := e = .returned (.tuple #[]) ∧ Own I64 w' base 3 v (sortI l) ∧ w.grownBy w' v.ownBlock

theorem sort_own (v : Value) (l : List Int) (base : Nat) (w : World) (h : Own I64 w base 3 v l) (hl : l.length < 4611686018427387904) :
    Calls Tryz.prog 28 #[v] w (SortP v l base w) := by
  have h' := h
  rcases h.2 with ⟨rfl, h0⟩ | ⟨g, cap, cur, rfl, hb, hh, hnc, hcm, hsz, ht⟩
  · have : l = [] := List.eq_nil_of_length_eq_zero h0
    subst this
    refine (Tryz.slices_Sort_int_none none 0 w).mono ?_
    rintro e w' ⟨rfl, rfl⟩
    exact ⟨rfl, by rw [sortI_nil]; exact h', Gb.refl _ _⟩
  · rw [Nat.mul_one] at ht
    have hH := holds_of_blockI (ss := l) hh ht
    refine (Tryz.slices_Sort_int g 0 cap l w hH (h'.lt g rfl).2 hl).mono ?_
    rintro e w' ⟨rfl, n, os, rfl⟩
    refine ⟨rfl, ?_, grownBy_sortedI _⟩
    have := ownsRow_sortedI (w := w) (base := base) (n := n) (os := os) (ts := sortI l) (ss := l) (sortI_len l) hb hh hnc hcm (by omega)
    unfold Own
    rw [sortI_len]
    exact this
end Go.Proofs.YtlppomkpmnpmcaaGreat

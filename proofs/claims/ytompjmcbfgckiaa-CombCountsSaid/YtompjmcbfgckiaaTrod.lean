/- An argument's slice of ints reads as a list. -/
import Derived.Test.YtompjmcbfgckiaaMem
import Derived.OpenShut
import Derived.ChangeSlices
open Go.ChangeShapes Go.WideShapes Go.RowKit
set_option linter.unusedVariables false
namespace Go.Proofs.Ytompjmcbfgckiaa

/-- A slice of numbers that an argument's reading finds. -/
theorem rd_trod {H : Type} {enc : TypeId × Value → H} {P : Program} {w : World} {base : Nat} {spare : Nat → Bool} {held : Bool} {t e : TypeId} {k : IntKind} {ao : Option Addr} {len cap : Nat} {d : DataW H} {ps : List MemPlace}
    (ht : P.underlying t = some (.slice e)) (he : P.underlying e = some (.int k)) (hc : P.cellsOf e = 1) (h : DataW.Trod enc P w base spare held t (.slice ao len cap) d ps) :
    ∃ zs : List Int, Rd (fun x => .int k x) w (.slice ao len cap) zs ∧ ∀ z ∈ zs, (Lit.int k z).wf = true := by
  obtain ⟨fuel, hf⟩ := h
  rcases open_ints ht he hc hf with ⟨hcs, hx⟩ | ⟨a, len', cap', zs, hcs, _, hle, hmax, hall, hx, hcell, hwf⟩
  · simp [Value.cells] at hcs
    obtain ⟨rfl, rfl, rfl⟩ := hcs
    exact ⟨[], Rd.nil, fun z hz => by simp at hz⟩
  · simp [Value.cells] at hcs
    obtain ⟨rfl, rfl, rfl⟩ := hcs
    have hzl : len ≤ zs.length := by rw [hall]; split <;> omega
    have hl : (zs.take len).length = len := by rw [List.length_take]; omega
    refine ⟨zs.take len, ⟨some a, cap, by rw [hl], by omega, hmax, fun hp => ?_⟩, fun z hz => hwf z (List.mem_of_mem_take hz)⟩
    rw [hl] at hp
    obtain ⟨b, off, rfl, hat⟩ := Go.ints_at hcell (by omega)
    refine ⟨b, off, rfl, World.block_lt_of_cell? w _ (hat 0 (by omega)), fun i x hx => ?_⟩
    rw [List.getElem?_take] at hx
    split at hx
    · rw [hat i (by omega)]
      rw [List.getD_eq_getElem?_getD, hx]; rfl
    · cases hx

theorem rd_of_trod {H : Type} {enc : TypeId × Value → H} {P : Program} {w : World} {base : Nat} {spare : Nat → Bool} {held : Bool} {t e : TypeId} {ao : Option Addr} {len cap : Nat} {d : DataW H} {ps : List MemPlace}
    (ht : P.underlying t = some (.slice e)) (he : P.underlying e = some (.int .i64)) (hc : P.cellsOf e = 1) (h : DataW.Trod enc P w base spare held t (.slice ao len cap) d ps) :
    ∃ zs : List Int, Rd I64 w (.slice ao len cap) zs := by
  obtain ⟨zs, h, -⟩ := rd_trod ht he hc h
  exact ⟨zs, h⟩
end Go.Proofs.Ytompjmcbfgckiaa

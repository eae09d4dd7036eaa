/- Lemmas, merged out of smaller texts (wip/tools/merge.py). No condition. -/
import Derived.Test.YtgmbnbdbmkdlgaaGreatGTrod
import Derived.Test.YtgmbnbdbmkdlgaaGreatGBetA

section
/- What an argument's reading of a bet says of its cells. -/
open Go.ChangeShapes Go.WideShapes Go.RowKit
set_option linter.unusedVariables false
set_option linter.unusedSimpArgs false
namespace Go.Proofs.YtgmbnbdbmkdlgaaGreat

section
variable {H : Type} {enc : TypeId × Value → H} {w : World} {base : Nat} {spare : Nat → Bool} {held : Bool}

instance : Inhabited (Value × Value) := ⟨(.slice none 0 0, .slice none 0 0)⟩

theorem ln_trod {n : Nat} {l : List Value} {x : DataW H × List MemPlace} (h : DataW.trod enc Tryz.prog w base spare held n 43 l = some x) : ∃ p : Value × Value, l = LnV p ∧ ∃ q : LineD, LineR w p.1 p.2 q.1 q.2 := by
  obtain ⟨mv, bv, a, b, e, hr⟩ := line_trod (d := x.1) (ps := x.2) (cs := l.toArray) ⟨n, by simpa [Value.cells] using h⟩
  unfold lineVal at e
  injection e with e
  have e2 : l = [mv, bv] := by simpa using congrArg Array.toList e
  exact ⟨(mv, bv), e2, (a, b), hr⟩

theorem pick_all {α β : Type} {R : α → β → Prop} (vs : List α) (h : ∀ (i : Nat) p, vs[i]? = some p → ∃ x, R p x) : ∃ ls : List β, vs.length = ls.length ∧ ∀ (i : Nat) p x, vs[i]? = some p → ls[i]? = some x → R p x := by
  induction vs with
  | nil => exact ⟨[], rfl, fun i p x hp => by simp at hp⟩
  | cons v r ih =>
    obtain ⟨x, hx⟩ := h 0 v rfl
    obtain ⟨ls, hl, hr⟩ := ih (fun i p hp => h (i + 1) p hp)
    refine ⟨x :: ls, by simp [hl], fun i p y hp hy => ?_⟩
    cases i with
    | zero => simp at hp hy; subst hp hy; exact hx
    | succ i => exact hr i p y hp hy

theorem bet_trod {cs : Array Value} {d : DataW H} {ps : List MemPlace}
    (h : DataW.Trod enc Tryz.prog w base spare held 28 (.agg cs) d ps) : ∃ lv B, Value.agg cs = betVal lv B ∧ LinesR w lv B.lines := by
  obtain ⟨fuel, hf⟩ := h
  obtain ⟨l⟩ := cs
  have hf' : DataW.trod enc Tryz.prog w base spare held fuel 28 l = some (d, ps) := by simpa [Value.cells] using hf
  obtain ⟨xs, m, -, -, hl, hxl, hx⟩ := DataW.trod_struct Tryz.underlying28 hf'
  rw [show Tryz.prog.cellsOf 28 = 4 by kernel_rfl] at hl
  have hxl' : xs.length = 4 := hxl
  clear hf hf'
  have hc : Tryz.prog.cellsOf 3 = 1 := by kernel_rfl
  have hcb : Tryz.prog.cellsOf 4 = 1 := by kernel_rfl
  have hcl : Tryz.prog.cellsOf 26 = 1 := by kernel_rfl
  rcases l with _ | ⟨c0, l⟩
  · simp at hl
  rcases l with _ | ⟨c1, l⟩
  · simp at hl
  rcases l with _ | ⟨c2, l⟩
  · simp at hl
  rcases l with _ | ⟨c3, l⟩
  · simp at hl
  rcases l with _ | ⟨cx, l⟩
  rotate_left
  · simp at hl
  have f0 : DataW.trod enc Tryz.prog w base spare held m 26 (([c0, c1, c2, c3].drop 0).take (Tryz.prog.cellsOf 26)) = xs[0]? := hx 0 _ rfl
  rw [hcl, List.getElem?_eq_getElem (by omega)] at f0
  replace f0 : DataW.trod enc Tryz.prog w base spare held m 26 [c0] = some xs[0] := f0
  have f1 : DataW.trod enc Tryz.prog w base spare held m 4 (([c0, c1, c2, c3].drop 1).take (Tryz.prog.cellsOf 4)) = xs[1]? := hx 1 _ rfl
  rw [hcb, List.getElem?_eq_getElem (by omega)] at f1
  replace f1 : DataW.trod enc Tryz.prog w base spare held m 4 [c1] = some xs[1] := f1
  have f2 : DataW.trod enc Tryz.prog w base spare held m 3 (([c0, c1, c2, c3].drop 2).take (Tryz.prog.cellsOf 3)) = xs[2]? := hx 2 _ rfl
  rw [hc, List.getElem?_eq_getElem (by omega)] at f2
  replace f2 : DataW.trod enc Tryz.prog w base spare held m 3 [c2] = some xs[2] := f2
  have f3 : DataW.trod enc Tryz.prog w base spare held m 3 (([c0, c1, c2, c3].drop 3).take (Tryz.prog.cellsOf 3)) = xs[3]? := hx 3 _ rfl
  rw [hc, List.getElem?_eq_getElem (by omega)] at f3
  replace f3 : DataW.trod enc Tryz.prog w base spare held m 3 [c3] = some xs[3] := f3
  obtain ⟨a2, e2, -, -⟩ := DataW.trod_int Tryz.underlying3 f2
  injection e2 with e2 _
  subst e2
  obtain ⟨a3, e3, -, -⟩ := DataW.trod_int Tryz.underlying3 f3
  injection e3 with e3 _
  subst e3
  obtain ⟨a1, e1⟩ : ∃ b, c1 = .bool b := by
    obtain ⟨b, e, -⟩ := DataW.trod_bool Tryz.underlying4 f1
    injection e with e _
    exact ⟨b, e⟩
  subst e1
  obtain ⟨vs, rA, qA⟩ := rds_trod (V := LnV) (Q := fun p => ∃ q : LineD, LineR w p.1 p.2 q.1 q.2) (sz := 2) Tryz.underlying26 (by kernel_rfl) (by decide) (fun _ => rfl) (fun _ _ _ h => ln_trod h) f0
  obtain ⟨ls, hll, hls⟩ := pick_all vs qA
  exact ⟨c0, ⟨ls, a1, a2, a3⟩, rfl, vs, rA, hll, hls⟩
end
end Go.Proofs.YtgmbnbdbmkdlgaaGreat
end

/- copy of a whole list into a row that the call has made, of the same length. -/
import Derived.Test.YtlppomkpmnpmcaaGreatRow
import Derived.Laws.CopyOwn
open Go.RowKit
set_option linter.unusedVariables false
set_option linter.unusedSimpArgs false
namespace Go.Proofs.YtlppomkpmnpmcaaGreat

theorem splice_all {α : Type} (L cs : List α) (h : L.length = cs.length) : splice L 0 cs = cs := by
  unfold splice
  rw [List.take_zero, List.nil_append, List.drop_of_length_le (by omega), List.append_nil]

theorem wpList_copy_all {P : Program} {w : World} {α : Type} {V : α → Value} {ops : Array Oper} {rest : List Oper} {o : Oper} {a : Act} {Q : Exit → Act → World → Prop} (hgd : o.guard = none) (d s : Operand) (dT sT : TypeId)
    (ho : o.op = .call { callee := .builtin .copy, args := #[d, s], argTypes := #[dT, sT] }) (elem : TypeId) (hu : P.underlying dT = some (.slice elem)) (hsz : (P.info? elem).map (·.size) = some 1) (hone : ∀ x, (V x).oneCell' = true)
    (g n c : Nat) (hd : a.eval d = .slice (some ⟨g, 0, none⟩) n c) (v : Value) (hs : a.eval s = v) (l : List α) (hr : Rd V w v l) (hln : l.length = n)
    (cur : List Value) (t : TypeId) (hg : Row w g t cur) (hcur : cur.length = n) (w0 : World) (hb : Below w0.heap.size w0 w) (hBg : w0.heap.size ≤ g)
    (h : ∀ w', Row w' g t (l.map V) → Below w0.heap.size w0 w' → wpList P ops Q rest (a.put o.dst (goInt n)) w') : wpList P ops Q (o :: rest) a w := by
  obtain ⟨ao, cap, rfl, h1, h2, h3⟩ := hr
  refine wpList_copy_splice hgd d s dT sT ho elem hu hsz _ ao n c l.length cap hd hs g 0 cur t hg (l.map V) ?_ ?_ ?_ ?_ w0.heap.size w0 hb hBg ?_
  · rw [List.length_map, hln]; exact (Nat.min_self n).symm
  · intro hp
    rw [List.length_map] at hp
    obtain ⟨b, off, rfl, hbk, hc⟩ := h3 hp
    refine ⟨rfl, _, rfl, fun j x hx => ?_⟩
    rw [List.getElem?_map] at hx
    cases hj : l[j]? with
    | none => rw [hj] at hx; cases hx
    | some y =>
      rw [hj] at hx
      simp only [Option.map_some, Option.some.injEq] at hx
      subst hx
      have := hc j y hj
      unfold Addr.add
      split
      · next h0 => subst h0; exact this
      · exact this
  · rw [List.length_map]; omega
  · intro x hx; obtain ⟨y, _, rfl⟩ := List.mem_map.1 hx; exact hone y
  · intro w' hrow hb'
    have hrow' := hrow.out
    rw [splice_all _ _ (by rw [List.length_map]; omega)] at hrow'
    have := h w' hrow' hb'
    rw [List.length_map, hln]
    exact this
end Go.Proofs.YtlppomkpmnpmcaaGreat

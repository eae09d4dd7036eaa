/- append onto a slice of the call's own (nil, or a row from block 'base' on); the source is any slice that reads as a list. Elements of one cell. -/
import Derived.Test.YtlppomkpmnpmcaaGreatRow
import Derived.Maps.AppendAt
open Go.RowKit
set_option linter.unusedVariables false
set_option linter.unusedSimpArgs false
namespace Go.Proofs.YtlppomkpmnpmcaaGreat

/-- The slice value v owns the list l: it is nil, or its row is a block of the call's own. -/
def Own {α : Type} (V : α → Value) (w : World) (base e : Nat) (v : Value) (l : List α) : Prop := w.ownsRow base e 1 v l.length (l.map V)

section
variable {α : Type} {V : α → Value} {w w' : World} {base e : Nat} {v : Value} {l : List α}
theorem Own.nil (w : World) (base e : Nat) : Own V w base e (.slice none 0 0) [] := World.ownsRow_nil w base e 1
theorem Own.rd (h : Own V w base e v l) : Rd V w v l := Rd.own h
theorem Own.alloc (h : Own V w base e v l) (o : Obj) : Own V (w.alloc o) base e v l := World.ownsRow.alloc h o
theorem Own.drewN (h : Own V w base e v l) (n : Nat) : Own V (w.drewN n) base e v l := h
theorem Own.grown {row : Option Nat} (h : Own V w base e v l) (hg : w.grownBy w' row) (hne : v.ownBlock = none ∨ v.ownBlock ≠ row) : Own V w' base e v l := World.ownsRow.kept h hg hne
theorem Own.keep (h : Own V w base e v l) (hb : Below w.heap.size w w') : Own V w' base e v l :=
  World.ownsRow.kept (row := none) h ⟨hb.os, hb.tape, hb.output, hb.size, fun k hk _ => hb.block k hk⟩ (by
    cases hv : v.ownBlock with
    | none => exact .inl rfl
    | some k => exact .inr (by simp))
theorem Own.lt (h : Own V w base e v l) : ∀ k, v.ownBlock = some k → base ≤ k ∧ k < w.heap.size := World.ownsRow.lt h
theorem Own.form (h : Own V w base e v l) (hl : 0 < l.length) : ∃ g cap, v = .slice (some ⟨g, 0, none⟩) l.length cap ∧ base ≤ g ∧ g < w.heap.size := by
  have hlt := h.lt
  rcases h.2 with ⟨rfl, h0⟩ | ⟨g, cap, cur, rfl, hb, _⟩
  · omega
  · exact ⟨g, cap, rfl, hb, (hlt g rfl).2⟩
theorem Own.ofRow {g m : Nat} {z : Value} (h : Row w g e (List.replicate m z)) (hb : base ≤ g) (hm : m ≤ 9223372036854775807) : Own V w base e (.slice (some ⟨g, 0, none⟩) 0 m) ([] : List α) :=
  ⟨by simp, .inr ⟨g, m, _, rfl, hb, h, Nat.zero_le _, by unfold maxLen; omega, by simp, by simp⟩⟩
theorem Own.shape (h : Own V w base e v l) : ∃ ao cap, v = .slice ao l.length cap := by
  obtain ⟨ao, cap, rfl, _⟩ := h.rd
  exact ⟨_, _, rfl⟩
/-- A store elsewhere. -/
theorem Own.far (h : Own V w base e v l) {p : Addr} (hp : v.ownBlock ≠ some p.block) (u : Value) : Own V (w.setCell p u) base e v l := by
  obtain ⟨h1, h2⟩ := h
  refine ⟨h1, ?_⟩
  rcases h2 with h2 | ⟨g, cap, cur, hv, hg, hh, r⟩
  · exact Or.inl h2
  · subst hv
    exact Or.inr ⟨g, cap, cur, rfl, hg, by rw [Below.heap_setCell _ _ _ _ (by intro h; exact hp (by rw [← h]; rfl))]; exact hh, r⟩
/-- A store to a cell that is known to hold something else than an element: a block of another element type. -/
theorem Own.farRow {g : Nat} {t : TypeId} {cs : List Value} (h : Own V w base e v l) (hr : Row w g t cs) (hne : e ≠ t) (i : Nat) (u : Value) : Own V (w.setCell ⟨g, i, none⟩ u) base e v l := by
  refine h.far ?_ u
  obtain ⟨h1, h2⟩ := h
  rcases h2 with ⟨rfl, _⟩ | ⟨g', cap, cur, rfl, hg, hh, r⟩
  · simp [Value.ownBlock]
  · intro he
    have : g' = g := by simpa [Value.ownBlock] using he
    subst this
    unfold Row at hr
    rw [hh] at hr
    injection hr with hr
    injection hr with _ ht
    exact hne ht
end

section
variable {P : Program} (w : World) {α : Type} {V : α → Value}

theorem run_append_rd (hone : ∀ x, (V x).oneCell' = true) (base : Nat) (t ty e : TypeId) (z : Value) (bytes : Nat) (ht : P.underlying t = some (.slice e)) (hi : (P.info? e).map (fun i => (i.zero, i.size, i.bytes)) = some (some z, 1, bytes)) (hzs : z.cells.size = 1)
    (v : Value) (l : List α) (hown : Own V w base e v l) (u : Value) (l2 : List α) (hr : Rd V w u l2)
    (h63 : l.length + l2.length ≤ 9223372036854775807) (hbytes : (l.length + l2.length) * bytes ≤ 140737488355328) (hbase : base ≤ w.heap.size) :
    ∃ v' w', (Builtin.append_ #[t, t] ty #[v, u]).run P w = .ok v' w' ∧ Own V w' base e v' (l ++ l2) ∧ w.grownBy w' v.ownBlock ∧
      (v'.ownBlock = v.ownBlock ∨ v'.ownBlock = some w.heap.size) := by
  obtain ⟨i, hi, hz, hs, hb⟩ := info_parts hi
  obtain ⟨ao, cap, rfl, h1, h2, h3⟩ := hr
  by_cases hl : l2.length = 0
  · have : l2 = [] := List.eq_nil_of_length_eq_zero hl
    subst this
    rw [List.append_nil, List.length_nil]
    cases ao with
    | none =>
      refine ⟨v, w, ?_, hown, Gb.refl _ _, .inl rfl⟩
      have hown' := hown
      rcases hown.2 with ⟨rfl, h0⟩ | ⟨g, cap, cur, rfl, _, _, hnc, _⟩
      · simp [Builtin.append_, run_underlying ht, sizeOf, typeInfo, hi, Builtin.lenOf, Builtin.firstCells]
      · simp [Builtin.append_, run_underlying ht, sizeOf, typeInfo, hi, Builtin.lenOf, Builtin.firstCells, hnc, storeCells]
    | some ad =>
      obtain ⟨v', w', e1, e2, e3, _, e5⟩ := run_append_own_at (P := P) w base t ty e i z 1 bytes ht hi hz hs hb hzs (by omega) v l.length (l.map V) hown ad 0 cap [] (by simp) (by simp) (by simp) (by have := hown.1; unfold maxLen; omega) (by simpa using hbytes) hbase
      exact ⟨v', w', e1, by simpa [Own] using e2, e3, e5⟩
  · obtain ⟨b, off, rfl, hbk, hc⟩ := h3 (by omega)
    obtain ⟨v', w', e1, e2, e3, _, e5⟩ := run_append_own_at (P := P) w base t ty e i z 1 bytes ht hi hz hs hb hzs (by omega) v l.length (l.map V) hown ⟨b, off, none⟩ l2.length cap (l2.map V) (by simp)
      (by
        intro j x hx
        rw [List.getElem?_map] at hx
        cases hj : l2[j]? with
        | none => rw [hj] at hx; cases hx
        | some y =>
          rw [hj] at hx
          simp only [Option.map_some, Option.some.injEq] at hx
          subst hx
          have := hc j y hj
          unfold Addr.add
          split
          · next h0 => subst h0; exact this
          · exact this)
      (by intro x hx; obtain ⟨y, _, rfl⟩ := List.mem_map.1 hx; exact hone y) (by unfold maxLen; omega) hbytes hbase
    exact ⟨v', w', e1, by simpa [Own] using e2, e3, e5⟩

theorem wpList_append_rd {ops : Array Oper} {rest : List Oper} {o : Oper} {a : Act} {Q : Exit → Act → World → Prop} (hgd : o.guard = none) (s x : Operand) (t : TypeId)
    (ho : o.op = .call { callee := .builtin .append, args := #[s, x], argTypes := #[t, t] })
    (hone : ∀ x, (V x).oneCell' = true) (base : Nat) (e : TypeId) (z : Value) (bytes : Nat) (ht : P.underlying t = some (.slice e)) (hi : (P.info? e).map (fun i => (i.zero, i.size, i.bytes)) = some (some z, 1, bytes)) (hzs : z.cells.size = 1)
    (v : Value) (l : List α) (hs : a.eval s = v) (hown : Own V w base e v l) (u : Value) (l2 : List α) (hx : a.eval x = u) (hr : Rd V w u l2)
    (h63 : l.length + l2.length ≤ 9223372036854775807) (hbytes : (l.length + l2.length) * bytes ≤ 140737488355328) (hbase : base ≤ w.heap.size)
    (h : ∀ v' w', Own V w' base e v' (l ++ l2) → w.grownBy w' v.ownBlock → (v'.ownBlock = v.ownBlock ∨ v'.ownBlock = some w.heap.size) → wpList P ops Q rest (a.put o.dst v') w') : wpList P ops Q (o :: rest) a w := by
  refine wpList_plain hgd fun K hK => ?_
  obtain ⟨v', w', hr, h2, h3, h4⟩ := run_append_rd (P := P) w hone base t o.type e z bytes ht hi hzs v l hown u l2 hr h63 hbytes hbase
  unfold Oper.wp execOp
  simp only [ho, resolve, invoke, builtin, Sem.run_bind, Sem.run_pure, Result.andThen_ok, List.map_toArray, List.map_cons, List.map_nil, hs, hx, hr]
  exact hK _ _ (h v' w' h2 h3 h4)
end
end Go.Proofs.YtlppomkpmnpmcaaGreat

/- Words for a block of the call's own: known whole, as a list of cells. No condition. -/
import Derived.Test.YtlppomkpmnpmcaaGreatMem
open Go.RowKit
set_option linter.unusedVariables false
set_option linter.unusedSimpArgs false
namespace Go.Proofs.YtlppomkpmnpmcaaGreat

def Row (w : World) (g : Nat) (t : TypeId) (cs : List Value) : Prop := w.heap[g]? = some (.cells cs.toArray t (0, 0))

/-- What a call leaves: a value and the same world. -/
def Pure (v : Value) (w : World) (e : Ending) (w' : World) : Prop := e = .returned v ∧ w = w'
def IntP (x c : Int) (w : World) (e : Ending) (w' : World) : Prop := e = .returned (.tuple #[.int .i64 x, .int .i64 c]) ∧ w = w'
def BoolB (b : Bool) (w : World) (e : Ending) (w' : World) : Prop := e = .returned (.bool b) ∧ Below w.heap.size w w'
/-- A number, the older memory as it was. -/
def IntB (x : Int) (w : World) (e : Ending) (w' : World) : Prop := e = .returned (.int .i64 x) ∧ Below w.heap.size w w'

section
variable {α : Type} {V : α → Value} {w w' a : World} {g : Nat} {t : TypeId} {cs : List Value}

theorem Rd.shape {v : Value} {l : List α} (h : Rd V w v l) : ∃ ao n cap, v = .slice ao n cap := by
  obtain ⟨ao, cap, rfl, _⟩ := h
  exact ⟨_, _, _, rfl⟩

theorem Row.lt (h : Row w g t cs) : g < w.heap.size := by
  rcases Nat.lt_or_ge g w.heap.size with hlt | hge
  · exact hlt
  · unfold Row at h; rw [Array.getElem?_eq_none hge] at h; cases h
theorem Row.cell? (h : Row w g t cs) (i : Nat) : w.cell? ⟨g, i, none⟩ = cs[i]? := by
  have := cell_of_row w g i cs.toArray t (0, 0) h
  rw [this]; simp
theorem Row.cell (h : Row w g t cs) {i : Nat} (hi : i < cs.length) : w.cell? ⟨g, i, none⟩ = some cs[i] := by
  rw [h.cell? i]; exact List.getElem?_eq_getElem hi
theorem Row.cellV {l : List α} (h : Row w g t (l.map V)) {i : Nat} (hi : i < l.length) : w.cell? ⟨g, i, none⟩ = some (V l[i]) := by
  rw [h.cell? i, List.getElem?_map, List.getElem?_eq_getElem hi]; rfl
theorem Row.frozen (h : Row w g t cs) (i : Nat) : w.frozen? ⟨g, i, none⟩ = false := by
  unfold Row at h
  simp [World.frozen?, h]
theorem Row.new (w : World) (t : TypeId) (cs : List Value) : Row (w.alloc (.cells cs.toArray t)) w.heap.size t cs := heap_alloc_new w _
theorem Row.newOf {c : Array Value} (t : TypeId) (h : c.toList = cs) : Row (w.alloc (.cells c t)) w.heap.size t cs := by
  subst h; exact heap_alloc_new w _
theorem Row.drew (h : Row w g t cs) : Row w.drew g t cs := h
theorem Row.drewN (h : Row w g t cs) (n : Nat) : Row (w.drewN n) g t cs := h
theorem Row.alloc (h : Row w g t cs) (o : Obj) : Row (w.alloc o) g t cs := (Below.heap_alloc w o g h.lt).trans h
theorem Row.set (h : Row w g t cs) (i : Nat) (u : Value) : Row (w.setCell ⟨g, i, none⟩ u) g t (cs.set i u) := by
  unfold Row at h ⊢
  simp [World.setCell, Array.getElem?_modify, h]
theorem Row.setV {l : List α} (h : Row w g t (l.map V)) (i : Nat) (x : α) : Row (w.setCell ⟨g, i, none⟩ (V x)) g t ((l.set i x).map V) := by
  rw [List.map_set]; exact h.set i _
theorem Row.far (h : Row w g t cs) {p : Addr} (hp : g ≠ p.block) (u : Value) : Row (w.setCell p u) g t cs := (Below.heap_setCell w p u g hp).trans h
theorem Row.below {B : Nat} (h : Row w g t cs) (hb : Below B w w') (hg : g < B) : Row w' g t cs := (hb.block g hg).trans h
theorem Row.keep (h : Row w g t cs) (hb : Below w.heap.size w w') : Row w' g t cs := (hb.block g h.lt).trans h
theorem Row.grown {row : Option Nat} (h : Row w g t cs) (hb : w.grownBy w' row) (hg : some g ≠ row) : Row w' g t cs := (hb.block g h.lt hg).trans h
theorem Row.rd {l : List α} (h : Row w g t (l.map V)) {n c : Nat} (hn : n ≤ l.length) (hnc : n ≤ c) (hm : c ≤ 9223372036854775807) : Rd V w (.slice (some ⟨g, 0, none⟩) n c) (l.take n) := by
  have hl : (l.take n).length = n := by rw [List.length_take]; omega
  refine ⟨_, c, by rw [hl], by omega, by unfold maxLen; omega, fun _ => ⟨g, 0, rfl, h.lt, fun i x hx => ?_⟩⟩
  rw [Nat.zero_add, h.cell? i, List.getElem?_map]
  rw [List.getElem?_take] at hx
  split at hx
  · rw [hx]; rfl
  · cases hx
theorem Row.rdAll {l : List α} (h : Row w g t (l.map V)) {n c : Nat} (hn : n = l.length) (hnc : n ≤ c) (hm : c ≤ 9223372036854775807) : Rd V w (.slice (some ⟨g, 0, none⟩) n c) l := by
  have := h.rd (n := n) (by omega) hnc hm
  rwa [hn, List.take_length] at *

theorem Bel.cellOf (hb : Below w.heap.size w w') {p : Addr} {v : Value} (h : w.cell? p = some v) : w'.cell? p = some v := (hb.cell (World.block_lt_of_cell? w p h)).trans h
theorem Bel.frozenOf (hb : Below w.heap.size w w') {p : Addr} {v : Value} (h : w.cell? p = some v) (hf : w.frozen? p = false) : w'.frozen? p = false := (hb.frozen (World.block_lt_of_cell? w p h)).trans hf

theorem cell_alloc {p : Addr} {v : Value} (h : w.cell? p = some v) (o : Obj) : (w.alloc o).cell? p = some v := Bel.cellOf (Bel.al (Below.refl _ _) o) h
theorem frozen_alloc {p : Addr} {v : Value} (h : w.cell? p = some v) (hf : w.frozen? p = false) (o : Obj) : (w.alloc o).frozen? p = false := Bel.frozenOf (Bel.al (Below.refl _ _) o) h hf

theorem cell_far {p q : Addr} {v : Value} (h : w.cell? q = some v) (hne : q.block ≠ p.block) (u : Value) : (w.setCell p u).cell? q = some v := by
  rw [World.cell?_setCell_other w p q u (fun e => hne (by rw [e]))]; exact h

theorem new_cell (w : World) (v : Value) (t : TypeId) : (w.alloc (.cells #[v] t)).cell? ⟨w.heap.size, 0, none⟩ = some v := (Row.newOf (cs := [v]) t rfl).cell (by simp)
theorem new_frozen (w : World) (v : Value) (t : TypeId) : (w.alloc (.cells #[v] t)).frozen? ⟨w.heap.size, 0, none⟩ = false := (Row.newOf (cs := [v]) t rfl).frozen 0

theorem set_cell {b o : Nat} {v : Value} (h : w.cell? ⟨b, o, none⟩ = some v) (u : Value) : (w.setCell ⟨b, o, none⟩ u).cell? ⟨b, o, none⟩ = some u := by
  go_simp

theorem Gb.refl (w : World) (row : Option Nat) : w.grownBy w row := ⟨rfl, rfl, rfl, Nat.le_refl _, fun _ _ _ => rfl⟩
theorem Gb.drewN {row : Option Nat} (h : a.grownBy w row) (n : Nat) : a.grownBy (w.drewN n) row := ⟨h.os, h.tape, h.output, h.size, h.block⟩
theorem Gb.alloc {row : Option Nat} (h : a.grownBy w row) (o : Obj) : a.grownBy (w.alloc o) row :=
  ⟨h.os, h.tape, h.output, Nat.le_trans h.size (by simp), fun i hi hne => (Below.heap_alloc w o i (Nat.lt_of_lt_of_le hi h.size)).trans (h.block i hi hne)⟩
theorem Gb.set (h : a.grownBy w (some g)) {p : Addr} (hp : p.block = g ∨ a.heap.size ≤ p.block) (u : Value) : a.grownBy (w.setCell p u) (some g) :=
  ⟨h.os, h.tape, h.output, by simpa [World.setCell] using h.size, fun i hi hne => (Below.heap_setCell w p u i (by
    rintro rfl
    rcases hp with hp | hp
    · exact hne (by rw [hp])
    · omega)).trans (h.block i hi hne)⟩
theorem Gb.cellOf (h : a.grownBy w (some g)) {b o : Nat} {v : Value} (hv : a.cell? ⟨b, o, none⟩ = some v) (hne : b ≠ g) : w.cell? ⟨b, o, none⟩ = some v :=
  h.cell hv (fun e => hne (by injection e))
theorem Gb.frozenOf (h : a.grownBy w (some g)) {b o : Nat} (hb : b < a.heap.size) (hne : b ≠ g) : w.frozen? ⟨b, o, none⟩ = a.frozen? ⟨b, o, none⟩ :=
  World.frozen?_of_block (h.block b hb (fun e => hne (by injection e)))
/-- A step that turns one block of the call's own keeps what lies below. -/
theorem Gb.bel {W : World} (hb : Below W.heap.size W a) (h : a.grownBy w (some g)) (hg : W.heap.size ≤ g) : Below W.heap.size W w :=
  hb.grown h hb.size (fun k hk => by injection hk with hk; omega)
theorem Gb.thenBelow (h : a.grownBy w (some g)) (hb : Below w.heap.size w w') : a.grownBy w' (some g) :=
  ⟨hb.os.trans h.os, hb.tape.trans h.tape, hb.output.trans h.output, Nat.le_trans h.size hb.size, fun i hi hn => (hb.block i (Nat.lt_of_lt_of_le hi h.size)).trans (h.block i hi hn)⟩
end
end Go.Proofs.YtlppomkpmnpmcaaGreat

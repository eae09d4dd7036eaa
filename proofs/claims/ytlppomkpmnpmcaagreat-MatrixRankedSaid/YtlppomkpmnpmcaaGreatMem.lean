/- Words for memory: a slice value that reads as a list; what keeps it. No condition. -/
import Derived.WalkKit
import Derived.Lib.Hide
import Derived.Deep.Draws
open Go.RowKit
set_option linter.unusedVariables false
set_option linter.unusedSimpArgs false
namespace Go.Proofs.YtlppomkpmnpmcaaGreat

/-- The slice value v reads in world w as the list l, one cell an element, each element's cell being V of it. -/
def Rd {α : Type} (V : α → Value) (w : World) (v : Value) (l : List α) : Prop :=
  ∃ ao cap, v = .slice ao l.length cap ∧ l.length ≤ cap ∧ cap ≤ maxLen ∧
    (0 < l.length → ∃ b off, ao = some ⟨b, off, none⟩ ∧ b < w.heap.size ∧ ∀ i x, l[i]? = some x → w.cell? ⟨b, off + i, none⟩ = some (V x))

abbrev U32 (n : Nat) : Value := .int .u32 (n : Int)
abbrev I64 (n : Int) : Value := .int .i64 n

section
variable {α : Type} {V : α → Value} {w w' : World} {v : Value} {l : List α}

theorem Rd.nil : Rd V w (.slice none 0 0) [] := ⟨none, 0, rfl, Nat.le_refl _, Nat.zero_le _, fun h => absurd h (by simp)⟩

theorem Rd.keep (h : Rd V w v l) (hs : w.heap.size ≤ w'.heap.size) (hk : ∀ p : Addr, p.block < w.heap.size → v.ownBlock = some p.block → w'.cell? p = w.cell? p) : Rd V w' v l := by
  obtain ⟨ao, cap, rfl, h1, h2, h3⟩ := h
  refine ⟨ao, cap, rfl, h1, h2, fun hl => ?_⟩
  obtain ⟨b, off, rfl, hb, hc⟩ := h3 hl
  exact ⟨b, off, rfl, by omega, fun i x hx => (hk ⟨b, off + i, none⟩ hb rfl).trans (hc i x hx)⟩

theorem Rd.below (h : Rd V w v l) (hb : Below w.heap.size w w') : Rd V w' v l :=
  h.keep hb.size fun _ hp _ => hb.cell hp

theorem Rd.grown {row : Option Nat} (h : Rd V w v l) (hg : w.grownBy w' row) (hne : v.ownBlock ≠ row ∨ v.ownBlock = none) : Rd V w' v l :=
  h.keep hg.size fun p hp ho => World.cell?_of_block (hg.block p.block hp (by rw [← ho]; rcases hne with h | h; exact h; rw [h] at ho; cases ho))

theorem Rd.alloc (h : Rd V w v l) (o : Obj) : Rd V (w.alloc o) v l := h.below ((Below.refl _ _).alloc (Nat.le_refl _) o)
theorem Rd.drew (h : Rd V w v l) : Rd V w.drew v l := h
theorem Rd.drewN (h : Rd V w v l) (k : Nat) : Rd V (w.drewN k) v l := h

theorem Rd.setCell (h : Rd V w v l) {p : Addr} (hp : v.ownBlock ≠ some p.block) (u : Value) : Rd V (w.setCell p u) v l :=
  h.keep (by simp [World.setCell]) fun q _ hq => World.cell?_setCell_other w p q u (fun e => by subst e; exact hp hq)

/-- What is owned reads as what it owns. -/
theorem Rd.own {base e : Nat} {n : Nat} (h : w.ownsRow base e 1 v n (l.map V)) : Rd V w v l := by
  have hn : n = l.length := by have := h.1; simp at this; omega
  subst hn
  rcases h.2 with ⟨rfl, h0⟩ | ⟨g, cap, cur, rfl, hb, hh, hc, hm, hs, ht⟩
  · have : l = [] := List.eq_nil_of_length_eq_zero h0
    subst this; exact Rd.nil
  · refine ⟨_, cap, rfl, hc, hm, fun hl => ⟨g, 0, rfl, ?_, fun i x hx => ?_⟩⟩
    · exact (h.lt g rfl).2
    · have hi : i < l.length := (List.getElem?_eq_some_iff.1 hx).1
      rw [Nat.zero_add, h.cellAt i (by omega)]
      simp [hx]

/-- A cut of a slice that starts at its head. -/
theorem Rd.take (h : Rd V w v l) {ao : Option Addr} {cap n c : Nat} (hv : v = .slice ao l.length cap) (hn : n ≤ l.length) (hnc : n ≤ c) (hc : c ≤ maxLen) : Rd V w (.slice ao n c) (l.take n) := by
  obtain ⟨ao', cap', hv', h1, h2, h3⟩ := h
  rw [hv] at hv'
  injection hv' with e1 e2 e3
  subst e1 e3
  have hl : (l.take n).length = n := by rw [List.length_take]; omega
  refine ⟨ao, c, by rw [hl], by omega, hc, fun hp => ?_⟩
  obtain ⟨b, off, e, hb, hcell⟩ := h3 (by omega)
  exact ⟨b, off, e, hb, fun i x hx => hcell i x (by
    rw [List.getElem?_take] at hx
    split at hx
    · exact hx
    · cases hx)⟩

theorem Rd.len (h : Rd V w v l) : l.length ≤ maxLen := by
  obtain ⟨_, _, _, h1, h2, _⟩ := h; omega

/-- In a round: the address, and the cell. -/
theorem Rd.at_ {ao : Option Addr} {n cap k : Nat} (h : Rd V w (.slice ao n cap) l) (hk : k < l.length) :
    ∃ b off, ao = some ⟨b, off, none⟩ ∧ b < w.heap.size ∧ ∀ i (hi : i < l.length), w.cell? ⟨b, off + i, none⟩ = some (V l[i]) := by
  obtain ⟨ao', cap', hv, h1, h2, h3⟩ := h
  injection hv with e1 e2 e3
  subst e1
  obtain ⟨b, off, e, hb, hc⟩ := h3 (by omega)
  exact ⟨b, off, e, hb, fun i hi => hc i _ (List.getElem?_eq_getElem hi)⟩

theorem Rd.form (h : Rd V w v l) : ∃ ao cap, v = .slice ao l.length cap ∧ l.length ≤ cap ∧ cap ≤ maxLen ∧ Rd V w (.slice ao l.length cap) l := by
  obtain ⟨ao, cap, rfl, h1, h2, h3⟩ := h
  exact ⟨ao, cap, rfl, h1, h2, ⟨ao, cap, rfl, h1, h2, h3⟩⟩
end

/-- Behind a contract that ends in 'Below': every old cell and mark reads as it did. -/
theorem bcell {W w1 : World} (hb : Below W.heap.size W w1) : (∀ b o, b < W.heap.size → w1.cell? ⟨b, o, none⟩ = W.cell? ⟨b, o, none⟩) ∧ (∀ b o, b < W.heap.size → w1.frozen? ⟨b, o, none⟩ = W.frozen? ⟨b, o, none⟩) :=
  ⟨fun b o h => hb.cell (p := ⟨b, o, none⟩) h, fun b o h => hb.frozen (p := ⟨b, o, none⟩) h⟩

theorem hide {p : Prop} (h : p) : Hid p := h

theorem ret_int {k : IntKind} {a b : Int} (h : a = b) : Ending.returned (.int k a) = .returned (.int k b) := by rw [h]

section
variable {α : Type} {V : α → Value} {w W W1 : World} {v : Value} {l : List α}
/-- A store to a cell that holds no element. -/
theorem Rd.setNe (h : Rd V w v l) {p : Addr} {c : Value} (hp : w.cell? p = some c) (hc : ∀ x, V x ≠ c) (u : Value) : Rd V (w.setCell p u) v l := by
  obtain ⟨ao, cap, rfl, h1, h2, h3⟩ := h
  refine ⟨ao, cap, rfl, h1, h2, fun hl => ?_⟩
  obtain ⟨b, off, rfl, hb, hcell⟩ := h3 hl
  refine ⟨b, off, rfl, by simpa [World.setCell] using hb, fun i x hx => ?_⟩
  have := hcell i x hx
  rw [World.cell?_setCell_other w p _ u (fun e => by rw [← e] at this; rw [this] at hp; injection hp with hp; exact hc x hp)]
  exact this

theorem Rd.new {w : World} {t : TypeId} {cs : Array Value} {g n c : Nat} (l : List α) (hg : g = w.heap.size) (hn : n = l.length) (hnc : n ≤ c) (hm : c ≤ 9223372036854775807) (hcs : cs.toList = l.map V) : Rd V (w.alloc (.cells cs t)) (.slice (some ⟨g, 0, none⟩) n c) l := by
  subst hg hn
  refine ⟨_, c, rfl, hnc, by unfold maxLen; omega, fun _ => ⟨w.heap.size, 0, rfl, by simp, fun i x hx => ?_⟩⟩
  rw [Nat.zero_add, cell_of_row (w.alloc (.cells cs t)) w.heap.size i cs t (0, 0) (heap_alloc_new w _)]
  rw [← Array.getElem?_toList, hcs, List.getElem?_map, hx]; rfl

theorem Bel.al (h : Below w.heap.size w W) (o : Obj) : Below w.heap.size w (W.alloc o) := h.alloc h.size o
theorem Bel.to (h : Below w.heap.size w W) (hb : Below W.heap.size W W1) : Below w.heap.size w W1 := h.trans (hb.mono h.size)
theorem Bel.drN (h : Below w.heap.size w W) (n : Nat) : Below w.heap.size w (W.drewN n) := ⟨h.os, h.tape, h.output, h.size, h.block⟩
theorem Bel.st (h : Below w.heap.size w W) {p : Addr} (hp : w.heap.size ≤ p.block) (u : Value) : Below w.heap.size w (W.setCell p u) := h.setCell hp u
theorem Bel.one (o : Obj) (hb : Below (w.alloc o).heap.size (w.alloc o) W1) : Below w.heap.size w W1 := Bel.to (Bel.al (Below.refl _ _) o) hb
theorem Bel.two (o o' : Obj) (hb : Below ((w.alloc o).alloc o').heap.size ((w.alloc o).alloc o') W1) : Below w.heap.size w W1 := Bel.to (Bel.al (Bel.al (Below.refl _ _) o) o') hb
theorem Bel.three (o o' o'' : Obj) (hb : Below (((w.alloc o).alloc o').alloc o'').heap.size (((w.alloc o).alloc o').alloc o'') W1) : Below w.heap.size w W1 := Bel.to (Bel.al (Bel.al (Bel.al (Below.refl _ _) o) o') o'') hb
end
end Go.Proofs.YtlppomkpmnpmcaaGreat

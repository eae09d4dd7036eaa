/- Words for a game in memory: how add-ons, tiers and a game lie. No condition. -/
import Derived.Test.YtlppomkpmnpmcaaGreatGameLaw
import Derived.Test.YtlppomkpmnpmcaaGreatRow
open Go.RowKit
set_option linter.unusedVariables false
set_option linter.unusedSimpArgs false
namespace Go.Proofs.YtlppomkpmnpmcaaGreat

/-- A slice whose elements are sz cells each: V x. -/
def RdS {α : Type} (sz : Nat) (V : α → List Value) (w : World) (v : Value) (l : List α) : Prop :=
  ∃ ao cap, v = .slice ao l.length cap ∧ l.length ≤ cap ∧ cap ≤ maxLen ∧ (0 < l.length → ∃ b off, ao = some ⟨b, off, none⟩ ∧ b < w.heap.size ∧
    ∀ i x, l[i]? = some x → ∀ j u, (V x)[j]? = some u → w.cell? ⟨b, off + i * sz + j, none⟩ = some u)

section
variable {α : Type} {sz : Nat} {V : α → List Value} {w w' : World} {v : Value} {l : List α}

theorem RdS.below (h : RdS sz V w v l) (hb : Below w.heap.size w w') : RdS sz V w' v l := by
  obtain ⟨ao, cap, h1, h2, h3, h4⟩ := h
  refine ⟨ao, cap, h1, h2, h3, fun hp => ?_⟩
  obtain ⟨b, off, h5, h6, h7⟩ := h4 hp
  exact ⟨b, off, h5, Nat.lt_of_lt_of_le h6 hb.size, fun i x hx j u hu => (hb.cell (by exact h6)).trans (h7 i x hx j u hu)⟩

theorem RdS.shape (h : RdS sz V w v l) : ∃ ao cap, v = .slice ao l.length cap ∧ l.length ≤ cap ∧ cap ≤ maxLen := by
  obtain ⟨ao, cap, h1, h2, h3, -⟩ := h
  exact ⟨ao, cap, h1, h2, h3⟩

theorem RdS.at_ {ao : Option Addr} {n cap i : Nat} (h : RdS sz V w (.slice ao n cap) l) (hi : i < l.length) :
    ∃ b off, ao = some ⟨b, off, none⟩ ∧ b < w.heap.size ∧ ∀ i x, l[i]? = some x → ∀ j u, (V x)[j]? = some u → w.cell? ⟨b, off + i * sz + j, none⟩ = some u := by
  obtain ⟨ao', cap', h1, h2, h3, h4⟩ := h
  injection h1 with h1 _ _
  subst h1
  obtain ⟨b, off, h5, h6, h7⟩ := h4 (by omega)
  exact ⟨b, off, h5, h6, h7⟩

theorem RdS.take (h : RdS sz V w v l) {ao : Option Addr} {cap n c : Nat} (hv : v = .slice ao l.length cap) (hn : n ≤ l.length) (hnc : n ≤ c) (hc : c ≤ maxLen) : RdS sz V w (.slice ao n c) (l.take n) := by
  obtain ⟨ao', cap', h1, h2, h3, h4⟩ := h
  rw [hv] at h1
  injection h1 with h1 _ _
  subst h1
  have hl : (l.take n).length = n := by rw [List.length_take]; omega
  refine ⟨ao, c, by rw [hl], by omega, hc, fun hp => ?_⟩
  obtain ⟨b, off, h5, h6, h7⟩ := h4 (by omega)
  refine ⟨b, off, h5, h6, fun i x hx j u hu => ?_⟩
  rw [List.getElem?_take] at hx
  split at hx
  · exact h7 i x hx j u hu
  · cases hx
end

theorem alloc_size (w : World) (o : Obj) : (w.alloc o).heap.size = w.heap.size + 1 := by simp

theorem Row.at2 (w : World) (o : Obj) (t : TypeId) (cs : List Value) : Row ((w.alloc o).alloc (.cells cs.toArray t)) (w.heap.size + 1) t cs := by
  have := Row.new (w.alloc o) t cs
  rwa [alloc_size] at this
theorem Row.at3 (w : World) (o o' : Obj) (t : TypeId) (cs : List Value) : Row (((w.alloc o).alloc o').alloc (.cells cs.toArray t)) (w.heap.size + 1 + 1) t cs := by
  have := Row.new ((w.alloc o).alloc o') t cs
  rwa [alloc_size, alloc_size] at this

def tierCells (t : TierD) : List Value := [.int .i64 t.main, .int .i64 t.bonus, .int .i64 t.extra, .int .i64 t.mode, .int .i64 t.kind, .int .i64 t.value]

structure AddonM where
  d : AddonD
  fv : Value
  pv : Value

def AddonM.cells (m : AddonM) : List Value := [.string m.d.name, .int .i64 m.d.kind, .int .i64 m.d.price, m.fv, .int .i64 m.d.digits, m.pv]

/-- An add-on's two slices. -/
def AddonR (w : World) (m : AddonM) : Prop := Rd I64 w m.fv m.d.factors ∧ Rd I64 w m.pv m.d.prizes

theorem AddonR.below {w w' : World} {m : AddonM} (h : AddonR w m) (hb : Below w.heap.size w w') : AddonR w' m := ⟨h.1.below hb, h.2.below hb⟩

/-- A slice of add-ons. -/
def AddonsR (w : World) (v : Value) (ms : List AddonM) : Prop := RdS 6 AddonM.cells w v ms ∧ ∀ (i : Nat) m, ms[i]? = some m → AddonR w m

theorem AddonsR.below {w w' : World} {v : Value} {ms : List AddonM} (h : AddonsR w v ms) (hb : Below w.heap.size w w') : AddonsR w' v ms :=
  ⟨h.1.below hb, fun i m hm => (h.2 i m hm).below hb⟩

/-- A game's two slices: of add-ons, of tiers. -/
def GameR (w : World) (av tv : Value) (ms : List AddonM) (g : GameD) : Prop := AddonsR w av ms ∧ ms.map (·.d) = g.addons ∧ RdS 6 tierCells w tv g.tiers

theorem GameR.below {w w' : World} {av tv : Value} {ms : List AddonM} {g : GameD} (h : GameR w av tv ms g) (hb : Below w.heap.size w w') : GameR w' av tv ms g :=
  ⟨h.1.below hb, h.2.1, h.2.2.below hb⟩
theorem GameR.alloc {w : World} {av tv : Value} {ms : List AddonM} {g : GameD} (h : GameR w av tv ms g) (o : Obj) : GameR (w.alloc o) av tv ms g := h.below (Bel.al (Below.refl _ _) o)

/-- The cells of a game. -/
def gameCells (g : GameD) (av tv : Value) : List Value :=
  [.string g.name, .int .i64 g.kind, .int .i64 g.price, .int .i64 g.main, .int .i64 g.of, .int .i64 g.bonus, .int .i64 g.bonusOf, .int .i64 g.extra, .int .i64 g.draws, .int .i64 g.system, .int .i64 g.days, .int .i64 g.at_, .int .i64 g.close, .int .i64 g.cancel, .int .i64 g.expiry, .int .i64 g.pool, .int .i64 g.reserve, .int .i64 g.round, .int .i64 g.cap, .int .i64 g.rolls, av, tv]

/-- A game as a value. -/
def gameVal (g : GameD) (av tv : Value) : Value :=
  .agg #[.string g.name, .int .i64 g.kind, .int .i64 g.price, .int .i64 g.main, .int .i64 g.of, .int .i64 g.bonus, .int .i64 g.bonusOf, .int .i64 g.extra, .int .i64 g.draws, .int .i64 g.system, .int .i64 g.days, .int .i64 g.at_, .int .i64 g.close, .int .i64 g.cancel, .int .i64 g.expiry, .int .i64 g.pool, .int .i64 g.reserve, .int .i64 g.round, .int .i64 g.cap, .int .i64 g.rolls, av, tv]

def addonVal (m : AddonM) : Value := .agg #[.string m.d.name, .int .i64 m.d.kind, .int .i64 m.d.price, m.fv, .int .i64 m.d.digits, m.pv]
def tierVal (t : TierD) : Value := .agg #[.int .i64 t.main, .int .i64 t.bonus, .int .i64 t.extra, .int .i64 t.mode, .int .i64 t.kind, .int .i64 t.value]
end Go.Proofs.YtlppomkpmnpmcaaGreat

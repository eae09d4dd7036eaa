/- Words for a game, a tier and a line in a box of their own; a line as a value. No condition. -/
import Derived.Test.YtlppomkpmnpmcaaGreatGame
import Derived.Test.YtlppomkpmnpmcaaGreatLineLaw
import Derived.Test.YtlppomkpmnpmcaaGreatProg
import Derived.BigQuiet
import Derived.Deep.LoopGhost
import Derived.Deep.Cut
import Derived.Laws.Rows
open Go.RowKit
set_option linter.unusedVariables false
set_option linter.unusedSimpArgs false
namespace Go.Proofs.YtlppomkpmnpmcaaGreat

/-- A boxed game. -/
def GameAt (X : World) (b : Nat) (g : GameD) (av tv : Value) : Prop := Row X b 25 (gameCells g av tv)
/-- A boxed line. -/
def LineAt (X : World) (b : Nat) (mv bv : Value) : Prop := Row X b 28 [mv, bv]
/-- A boxed tier. -/
def TierAt (X : World) (b : Nat) (t : TierD) : Prop := Row X b 46 (tierCells t)

def lineVal (mv bv : Value) : Value := .agg #[mv, bv]

/-- A line's two lists. -/
def LineR (w : World) (mv bv : Value) (a b : List Int) : Prop := Rd I64 w mv a ∧ Rd I64 w bv b

section
variable {X Y : World} {b : Nat} {g : GameD} {av tv mv bv : Value} {t : TierD} {l k : List Int}
theorem LineR.below (h : LineR X mv bv l k) (hb : Below X.heap.size X Y) : LineR Y mv bv l k := ⟨h.1.below hb, h.2.below hb⟩
theorem GameAt.keep (h : GameAt X b g av tv) (hb : Below X.heap.size X Y) : GameAt Y b g av tv := Row.keep h hb
theorem LineAt.keep (h : LineAt X b mv bv) (hb : Below X.heap.size X Y) : LineAt Y b mv bv := Row.keep h hb
theorem TierAt.keep (h : TierAt X b t) (hb : Below X.heap.size X Y) : TierAt Y b t := Row.keep h hb
theorem LineAt.row (h : LineAt X b mv bv) : Row X b 28 [mv, bv] := h
theorem LineAt.store (h : LineAt X b mv bv) (u v : Value) : LineAt ((X.setCell ⟨b, 0, none⟩ u).setCell ⟨b, 1, none⟩ v) b u v := (Row.set h 0 u).set 1 v
theorem LineAt.main (h : LineAt X b mv bv) : X.cell? ⟨b, 0, none⟩ = some mv := (Row.cell? h 0).trans rfl
theorem LineAt.bonus (h : LineAt X b mv bv) : X.cell? ⟨b, 1, none⟩ = some bv := (Row.cell? h 1).trans rfl
theorem GameAt.name (h : GameAt X b g av tv) : X.cell? ⟨b, 0, none⟩ = some (.string g.name) := (Row.cell? h 0).trans rfl
theorem GameAt.kind (h : GameAt X b g av tv) : X.cell? ⟨b, 1, none⟩ = some (.int .i64 g.kind) := (Row.cell? h 1).trans rfl
theorem GameAt.price (h : GameAt X b g av tv) : X.cell? ⟨b, 2, none⟩ = some (.int .i64 g.price) := (Row.cell? h 2).trans rfl
theorem GameAt.main (h : GameAt X b g av tv) : X.cell? ⟨b, 3, none⟩ = some (.int .i64 g.main) := (Row.cell? h 3).trans rfl
theorem GameAt.of (h : GameAt X b g av tv) : X.cell? ⟨b, 4, none⟩ = some (.int .i64 g.of) := (Row.cell? h 4).trans rfl
theorem GameAt.bonus (h : GameAt X b g av tv) : X.cell? ⟨b, 5, none⟩ = some (.int .i64 g.bonus) := (Row.cell? h 5).trans rfl
theorem GameAt.bonusOf (h : GameAt X b g av tv) : X.cell? ⟨b, 6, none⟩ = some (.int .i64 g.bonusOf) := (Row.cell? h 6).trans rfl
theorem GameAt.extra (h : GameAt X b g av tv) : X.cell? ⟨b, 7, none⟩ = some (.int .i64 g.extra) := (Row.cell? h 7).trans rfl
theorem GameAt.draws (h : GameAt X b g av tv) : X.cell? ⟨b, 8, none⟩ = some (.int .i64 g.draws) := (Row.cell? h 8).trans rfl
theorem GameAt.system (h : GameAt X b g av tv) : X.cell? ⟨b, 9, none⟩ = some (.int .i64 g.system) := (Row.cell? h 9).trans rfl
theorem GameAt.addons (h : GameAt X b g av tv) : X.cell? ⟨b, 20, none⟩ = some av := (Row.cell? h 20).trans rfl
theorem GameAt.tiers (h : GameAt X b g av tv) : X.cell? ⟨b, 21, none⟩ = some tv := (Row.cell? h 21).trans rfl
end
end Go.Proofs.YtlppomkpmnpmcaaGreat

/-
  No cell of these rows narrows 'for every input' (looked for: loops, veiled, ifaces, maps, wideKeys, modest, calm, conditions, laid).
  DERIVED. THE GIVEN ROWS OF THIS SEAT. 2 by the template 'for every input the law returns true; each argument reads behind the call as it read before'; 0 by the template 'total and deterministic' (their statements: YtokhhccokjfgjaaGreatTotals.lean).
  GIVEN WITH THE SEED: the statements are not yours to turn. If you find one false, say at which input.
  Laid BY PROGRAM, IN A SANDBOX (cutbox-rows.mjs): the forced cells as the released guide's own fill.sh prints them over the translation bf11e88404314b39… (all of the seat's roots in one cut). By AI agents, Wed Nov 11 2026. No macro, syntax, notation, axiom, sorry.
-/
import Derived.Test.YtokhhccokjfgjaaGreatChecked
import GoSem.Claim
import GoSem.ClaimJoined
import GoSem.ClaimMapViews
import Derived.JoinedTies
import Derived.KernelRfl
namespace Go.Proofs.YtokhhccokjfgjaaGreat
/- THE CELL 'sum', in the pinned program and in every row, IS THE sha256 OF THE DUMP (.gsa) THAT YtokhhccokjfgjaaGreatProg.lean LOADS. Nothing in Lean hashes anything: it is a label: what it is worth is what the hold of that sum in a sandbox is worth. -/
noncomputable def Tryz.pinned : Pinned := { name := "ytokhhccokjfgjaagreat", sum := "bf11e88404314b3994ccced69a094b6d14d3b167ed805b5f9b4c5ce0448db4cf", checked := Tryz.checked }
namespace Rows
def none {H : Type} : Left H := { results := [], args := [] }

/-- 'lotterylaw14.QuickpickLines': WHATEVER THE INPUT: true; the input reads as it did. -/
def quickpickLinesSpec : ChangeSpec := { name := "quickpickLines", fn := fun _ => fun
  | [d1, d2, d3] => { results := [.lit (.bool true)], args := [d1, d2, d3] }
  | _ => none }
def quickpickLinesRow : OpenClaim := { program := "ytokhhccokjfgjaagreat", sum := "bf11e88404314b3994ccced69a094b6d14d3b167ed805b5f9b4c5ce0448db4cf", func := "lottery/lotterylaw14.QuickpickLines", spec := "quickpickLines", unfollowed := true, recurses := true, apart := false }
def QuickpickLinesSaid : Prop := quickpickLinesRow.holds Tryz.pinned (OpenSpec.ofChange quickpickLinesSpec)

/-- ITS FALSE NEIGHBOUR: 'it returns false'. Refute it at one input. -/
def quickpickLinesWrong : ChangeSpec := { name := "quickpickLines", fn := fun _ => fun
  | [d1, d2, d3] => { results := [.lit (.bool false)], args := [d1, d2, d3] }
  | _ => none }
def QuickpickLinesWrongFalsely : Prop := quickpickLinesRow.holds Tryz.pinned (OpenSpec.ofChange quickpickLinesWrong)

/-- 'lotterylaw14.QuickpickTakes': WHATEVER THE INPUT: true; the input reads as it did. -/
def quickpickTakesSpec : ChangeSpec := { name := "quickpickTakes", fn := fun _ => fun
  | [d1, d2, d3] => { results := [.lit (.bool true)], args := [d1, d2, d3] }
  | _ => none }
def quickpickTakesRow : OpenClaim := { program := "ytokhhccokjfgjaagreat", sum := "bf11e88404314b3994ccced69a094b6d14d3b167ed805b5f9b4c5ce0448db4cf", func := "lottery/lotterylaw14.QuickpickTakes", spec := "quickpickTakes", unfollowed := true, recurses := true, apart := false }
def QuickpickTakesSaid : Prop := quickpickTakesRow.holds Tryz.pinned (OpenSpec.ofChange quickpickTakesSpec)

/-- ITS FALSE NEIGHBOUR: 'it returns false'. Refute it at one input. -/
def quickpickTakesWrong : ChangeSpec := { name := "quickpickTakes", fn := fun _ => fun
  | [d1, d2, d3] => { results := [.lit (.bool false)], args := [d1, d2, d3] }
  | _ => none }
def QuickpickTakesWrongFalsely : Prop := quickpickTakesRow.holds Tryz.pinned (OpenSpec.ofChange quickpickTakesWrong)

/- THE SECOND FORM. 'bulk': how many values and letters a reading holds, each counted each time it is reached (what is shared counts as often as it is met; a slice's spare places count too). A statement '..UptoSaid' is the law's where the arguments, and the package variables that the reading takes, are together of bulk at most 1048576: NARROWER than '..Said'. Prove '..Said' where nothing that the law and all that it calls make is longer than what came in: it says more and counts as full. Else prove '..UptoSaid'. A law counts once. -/
mutual
def uptoBulk {H : Type} : DataW H → Nat
  | .lit (.string bytes) => bytes.length + 1
  | .lit _ => 1
  | .nil => 1
  | .ptr d => uptoBulk d + 1
  | .slice elems spare => uptoBulkAll elems + uptoBulkAll spare + 1
  | .agg parts => uptoBulkAll parts + 1
  | .iface _ d => uptoBulk d + 1
  | .map entries => uptoBulkEntries entries + 1
  | .held _ => 1
def uptoBulkAll {H : Type} : List (DataW H) → Nat
  | [] => 0
  | d :: r => uptoBulk d + uptoBulkAll r
def uptoBulkEntries {H : Type} : List (Lit × DataW H) → Nat
  | [] => 0
  | x :: r => uptoBulkEntry x + uptoBulkEntries r
def uptoBulkEntry {H : Type} : Lit × DataW H → Nat
  | (.string bytes, d) => bytes.length + uptoBulk d + 1
  | (_, d) => uptoBulk d + 1
 end
def uptoSmall : (H : Type) → List (DataW H) → Bool := fun _ ds => decide (uptoBulkAll ds ≤ 1048576)
def OpenSpec.upto (s : _root_.Go.ChangeSpec) : _root_.Go.OpenSpec := { _root_.Go.OpenSpec.ofChange s with cond := some uptoSmall }

/-- 'lotterylaw14.QuickpickLines', WHERE WHAT IT READS IS OF BULK AT MOST 1048576: true; the input reads as it did. -/
def quickpickLinesUptoRow : OpenClaim := { program := "ytokhhccokjfgjaagreat", sum := "bf11e88404314b3994ccced69a094b6d14d3b167ed805b5f9b4c5ce0448db4cf", func := "lottery/lotterylaw14.QuickpickLines", spec := "quickpickLines", unfollowed := true, recurses := true, apart := false, narrowed := true }
def QuickpickLinesUptoSaid : Prop := quickpickLinesUptoRow.holds Tryz.pinned (OpenSpec.upto quickpickLinesSpec)

/-- 'lotterylaw14.QuickpickTakes', WHERE WHAT IT READS IS OF BULK AT MOST 1048576: true; the input reads as it did. -/
def quickpickTakesUptoRow : OpenClaim := { program := "ytokhhccokjfgjaagreat", sum := "bf11e88404314b3994ccced69a094b6d14d3b167ed805b5f9b4c5ce0448db4cf", func := "lottery/lotterylaw14.QuickpickTakes", spec := "quickpickTakes", unfollowed := true, recurses := true, apart := false, narrowed := true }
def QuickpickTakesUptoSaid : Prop := quickpickTakesUptoRow.holds Tryz.pinned (OpenSpec.upto quickpickTakesSpec)

end Rows
end Go.Proofs.YtokhhccokjfgjaaGreat

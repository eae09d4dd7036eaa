/-
  No cell of these rows narrows 'for every input' (looked for: loops, veiled, ifaces, maps, wideKeys, modest, calm, conditions, laid).
  DERIVED. THE GIVEN ROWS OF THIS SEAT. 6 by the template 'for every input the law returns true; each argument reads behind the call as it read before'; 0 by the template 'total and deterministic' (their statements: YtfggjlekcdpmmaaGreatTotals.lean).
  GIVEN WITH THE SEED: the statements are not yours to turn. If you find one false, say at which input.
  Laid BY PROGRAM, IN A SANDBOX (cutbox-rows.mjs): the forced cells as the released guide's own fill.sh prints them over the translation 2b60e2237c99eb3b… (all of the seat's roots in one cut). By AI agents, Wed Nov 11 2026. No macro, syntax, notation, axiom, sorry.
-/
import Derived.Test.YtfggjlekcdpmmaaGreatChecked
import GoSem.Claim
import GoSem.ClaimJoined
import GoSem.ClaimMapViews
import Derived.JoinedTies
import Derived.KernelRfl
namespace Go.Proofs.YtfggjlekcdpmmaaGreat
/- THE CELL 'sum', in the pinned program and in every row, IS THE sha256 OF THE DUMP (.gsa) THAT YtfggjlekcdpmmaaGreatProg.lean LOADS. Nothing in Lean hashes anything: it is a label: what it is worth is what the hold of that sum in a sandbox is worth. -/
noncomputable def Tryz.pinned : Pinned := { name := "ytfggjlekcdpmmaagreat", sum := "2b60e2237c99eb3b341f6575836f2804df467c9f5160d2d3747774bd96399558", checked := Tryz.checked }
namespace Rows
def none {H : Type} : Left H := { results := [], args := [] }

/-- 'lotterylaw34.WinnerWins': WHATEVER THE INPUT: true; the input reads as it did. -/
def winnerWinsSpec : ChangeSpec := { name := "winnerWins", fn := fun _ => fun
  | [d1, d2, d3] => { results := [.lit (.bool true)], args := [d1, d2, d3] }
  | _ => none }
def winnerWinsRow : OpenClaim := { program := "ytfggjlekcdpmmaagreat", sum := "2b60e2237c99eb3b341f6575836f2804df467c9f5160d2d3747774bd96399558", func := "lottery/lotterylaw34.WinnerWins", spec := "winnerWins", unfollowed := true, recurses := true, plainKeys := false, apart := false }
def WinnerWinsSaid : Prop := winnerWinsRow.holds Tryz.pinned (OpenSpec.ofChange winnerWinsSpec)

/-- ITS FALSE NEIGHBOUR: 'it returns false'. Refute it at one input. -/
def winnerWinsWrong : ChangeSpec := { name := "winnerWins", fn := fun _ => fun
  | [d1, d2, d3] => { results := [.lit (.bool false)], args := [d1, d2, d3] }
  | _ => none }
def WinnerWinsWrongFalsely : Prop := winnerWinsRow.holds Tryz.pinned (OpenSpec.ofChange winnerWinsWrong)

/-- 'lotterylaw34.WinnerEligible': WHATEVER THE INPUT: true; the input reads as it did. -/
def winnerEligibleSpec : ChangeSpec := { name := "winnerEligible", fn := fun _ => fun
  | [d1, d2, d3] => { results := [.lit (.bool true)], args := [d1, d2, d3] }
  | _ => none }
def winnerEligibleRow : OpenClaim := { program := "ytfggjlekcdpmmaagreat", sum := "2b60e2237c99eb3b341f6575836f2804df467c9f5160d2d3747774bd96399558", func := "lottery/lotterylaw34.WinnerEligible", spec := "winnerEligible", unfollowed := true, recurses := true, plainKeys := false, apart := false }
def WinnerEligibleSaid : Prop := winnerEligibleRow.holds Tryz.pinned (OpenSpec.ofChange winnerEligibleSpec)

/-- ITS FALSE NEIGHBOUR: 'it returns false'. Refute it at one input. -/
def winnerEligibleWrong : ChangeSpec := { name := "winnerEligible", fn := fun _ => fun
  | [d1, d2, d3] => { results := [.lit (.bool false)], args := [d1, d2, d3] }
  | _ => none }
def WinnerEligibleWrongFalsely : Prop := winnerEligibleRow.holds Tryz.pinned (OpenSpec.ofChange winnerEligibleWrong)

/-- 'lotterylaw34.WinnerFunction': WHATEVER THE INPUT: true; the input reads as it did. -/
def winnerFunctionSpec : ChangeSpec := { name := "winnerFunction", fn := fun _ => fun
  | [d1, d2, d3] => { results := [.lit (.bool true)], args := [d1, d2, d3] }
  | _ => none }
def winnerFunctionRow : OpenClaim := { program := "ytfggjlekcdpmmaagreat", sum := "2b60e2237c99eb3b341f6575836f2804df467c9f5160d2d3747774bd96399558", func := "lottery/lotterylaw34.WinnerFunction", spec := "winnerFunction", unfollowed := true, recurses := true, plainKeys := false, apart := false }
def WinnerFunctionSaid : Prop := winnerFunctionRow.holds Tryz.pinned (OpenSpec.ofChange winnerFunctionSpec)

/-- ITS FALSE NEIGHBOUR: 'it returns false'. Refute it at one input. -/
def winnerFunctionWrong : ChangeSpec := { name := "winnerFunction", fn := fun _ => fun
  | [d1, d2, d3] => { results := [.lit (.bool false)], args := [d1, d2, d3] }
  | _ => none }
def WinnerFunctionWrongFalsely : Prop := winnerFunctionRow.holds Tryz.pinned (OpenSpec.ofChange winnerFunctionWrong)

/-- 'lotterylaw34.WinnerMatches': WHATEVER THE INPUT: true; the input reads as it did. -/
def winnerMatchesSpec : ChangeSpec := { name := "winnerMatches", fn := fun _ => fun
  | [d1, d2, d3] => { results := [.lit (.bool true)], args := [d1, d2, d3] }
  | _ => none }
def winnerMatchesRow : OpenClaim := { program := "ytfggjlekcdpmmaagreat", sum := "2b60e2237c99eb3b341f6575836f2804df467c9f5160d2d3747774bd96399558", func := "lottery/lotterylaw34.WinnerMatches", spec := "winnerMatches", unfollowed := true, recurses := true, plainKeys := false, apart := false }
def WinnerMatchesSaid : Prop := winnerMatchesRow.holds Tryz.pinned (OpenSpec.ofChange winnerMatchesSpec)

/-- ITS FALSE NEIGHBOUR: 'it returns false'. Refute it at one input. -/
def winnerMatchesWrong : ChangeSpec := { name := "winnerMatches", fn := fun _ => fun
  | [d1, d2, d3] => { results := [.lit (.bool false)], args := [d1, d2, d3] }
  | _ => none }
def WinnerMatchesWrongFalsely : Prop := winnerMatchesRow.holds Tryz.pinned (OpenSpec.ofChange winnerMatchesWrong)

/-- 'lotterylaw34.WinnerCancelled': WHATEVER THE INPUT: true; the input reads as it did. -/
def winnerCancelledSpec : ChangeSpec := { name := "winnerCancelled", fn := fun _ => fun
  | [d1, d2, d3] => { results := [.lit (.bool true)], args := [d1, d2, d3] }
  | _ => none }
def winnerCancelledRow : OpenClaim := { program := "ytfggjlekcdpmmaagreat", sum := "2b60e2237c99eb3b341f6575836f2804df467c9f5160d2d3747774bd96399558", func := "lottery/lotterylaw34.WinnerCancelled", spec := "winnerCancelled", unfollowed := true, recurses := true, plainKeys := false, apart := false }
def WinnerCancelledSaid : Prop := winnerCancelledRow.holds Tryz.pinned (OpenSpec.ofChange winnerCancelledSpec)

/-- ITS FALSE NEIGHBOUR: 'it returns false'. Refute it at one input. -/
def winnerCancelledWrong : ChangeSpec := { name := "winnerCancelled", fn := fun _ => fun
  | [d1, d2, d3] => { results := [.lit (.bool false)], args := [d1, d2, d3] }
  | _ => none }
def WinnerCancelledWrongFalsely : Prop := winnerCancelledRow.holds Tryz.pinned (OpenSpec.ofChange winnerCancelledWrong)

/-- 'lotterylaw34.WinnerCounts': WHATEVER THE INPUT: true; the input reads as it did. -/
def winnerCountsSpec : ChangeSpec := { name := "winnerCounts", fn := fun _ => fun
  | [d1, d2] => { results := [.lit (.bool true)], args := [d1, d2] }
  | _ => none }
def winnerCountsRow : OpenClaim := { program := "ytfggjlekcdpmmaagreat", sum := "2b60e2237c99eb3b341f6575836f2804df467c9f5160d2d3747774bd96399558", func := "lottery/lotterylaw34.WinnerCounts", spec := "winnerCounts", unfollowed := true, recurses := true, plainKeys := false, apart := false }
def WinnerCountsSaid : Prop := winnerCountsRow.holds Tryz.pinned (OpenSpec.ofChange winnerCountsSpec)

/-- ITS FALSE NEIGHBOUR: 'it returns false'. Refute it at one input. -/
def winnerCountsWrong : ChangeSpec := { name := "winnerCounts", fn := fun _ => fun
  | [d1, d2] => { results := [.lit (.bool false)], args := [d1, d2] }
  | _ => none }
def WinnerCountsWrongFalsely : Prop := winnerCountsRow.holds Tryz.pinned (OpenSpec.ofChange winnerCountsWrong)

/- THE SECOND FORM. 'bulk': how many values and letters a reading holds, each counted each time it is reached (what is shared counts as often as it is met; a slice's spare places count too). A statement '..UptoSaid' is the law's where the arguments, and the package variables that the reading takes, are together of bulk at most 1048576: NARROWER than '..Said'. Prove '..Said' where nothing that the law and all that it calls make is longer than what came in: it says more and counts as full. Else prove '..UptoSaid'. A law counts once. -/
mutual
def uptoBulk {H : Type} : DataW H → Nat
  | .lit (.string bytes) => bytes.length + 1
  | .lit _ => 1
  | .nil => 1
  | .ptr d => uptoBulk d + 1
  | .slice elems spare => uptoBulkAll elems + uptoBulkAll spare + 1
  | .agg parts => uptoBulkAll parts + 1
  | .iface _ d => uptoBulk d + 1
  | .map entries => uptoBulkEntries entries + 1
  | .held _ => 1
def uptoBulkAll {H : Type} : List (DataW H) → Nat
  | [] => 0
  | d :: r => uptoBulk d + uptoBulkAll r
def uptoBulkEntries {H : Type} : List (Lit × DataW H) → Nat
  | [] => 0
  | x :: r => uptoBulkEntry x + uptoBulkEntries r
def uptoBulkEntry {H : Type} : Lit × DataW H → Nat
  | (.string bytes, d) => bytes.length + uptoBulk d + 1
  | (_, d) => uptoBulk d + 1
 end
def uptoSmall : (H : Type) → List (DataW H) → Bool := fun _ ds => decide (uptoBulkAll ds ≤ 1048576)
def OpenSpec.upto (s : _root_.Go.ChangeSpec) : _root_.Go.OpenSpec := { _root_.Go.OpenSpec.ofChange s with cond := some uptoSmall }

/-- 'lotterylaw34.WinnerWins', WHERE WHAT IT READS IS OF BULK AT MOST 1048576: true; the input reads as it did. -/
def winnerWinsUptoRow : OpenClaim := { program := "ytfggjlekcdpmmaagreat", sum := "2b60e2237c99eb3b341f6575836f2804df467c9f5160d2d3747774bd96399558", func := "lottery/lotterylaw34.WinnerWins", spec := "winnerWins", unfollowed := true, recurses := true, plainKeys := false, apart := false, narrowed := true }
def WinnerWinsUptoSaid : Prop := winnerWinsUptoRow.holds Tryz.pinned (OpenSpec.upto winnerWinsSpec)

/-- 'lotterylaw34.WinnerEligible', WHERE WHAT IT READS IS OF BULK AT MOST 1048576: true; the input reads as it did. -/
def winnerEligibleUptoRow : OpenClaim := { program := "ytfggjlekcdpmmaagreat", sum := "2b60e2237c99eb3b341f6575836f2804df467c9f5160d2d3747774bd96399558", func := "lottery/lotterylaw34.WinnerEligible", spec := "winnerEligible", unfollowed := true, recurses := true, plainKeys := false, apart := false, narrowed := true }
def WinnerEligibleUptoSaid : Prop := winnerEligibleUptoRow.holds Tryz.pinned (OpenSpec.upto winnerEligibleSpec)

/-- 'lotterylaw34.WinnerFunction', WHERE WHAT IT READS IS OF BULK AT MOST 1048576: true; the input reads as it did. -/
def winnerFunctionUptoRow : OpenClaim := { program := "ytfggjlekcdpmmaagreat", sum := "2b60e2237c99eb3b341f6575836f2804df467c9f5160d2d3747774bd96399558", func := "lottery/lotterylaw34.WinnerFunction", spec := "winnerFunction", unfollowed := true, recurses := true, plainKeys := false, apart := false, narrowed := true }
def WinnerFunctionUptoSaid : Prop := winnerFunctionUptoRow.holds Tryz.pinned (OpenSpec.upto winnerFunctionSpec)

/-- 'lotterylaw34.WinnerMatches', WHERE WHAT IT READS IS OF BULK AT MOST 1048576: true; the input reads as it did. -/
def winnerMatchesUptoRow : OpenClaim := { program := "ytfggjlekcdpmmaagreat", sum := "2b60e2237c99eb3b341f6575836f2804df467c9f5160d2d3747774bd96399558", func := "lottery/lotterylaw34.WinnerMatches", spec := "winnerMatches", unfollowed := true, recurses := true, plainKeys := false, apart := false, narrowed := true }
def WinnerMatchesUptoSaid : Prop := winnerMatchesUptoRow.holds Tryz.pinned (OpenSpec.upto winnerMatchesSpec)

/-- 'lotterylaw34.WinnerCancelled', WHERE WHAT IT READS IS OF BULK AT MOST 1048576: true; the input reads as it did. -/
def winnerCancelledUptoRow : OpenClaim := { program := "ytfggjlekcdpmmaagreat", sum := "2b60e2237c99eb3b341f6575836f2804df467c9f5160d2d3747774bd96399558", func := "lottery/lotterylaw34.WinnerCancelled", spec := "winnerCancelled", unfollowed := true, recurses := true, plainKeys := false, apart := false, narrowed := true }
def WinnerCancelledUptoSaid : Prop := winnerCancelledUptoRow.holds Tryz.pinned (OpenSpec.upto winnerCancelledSpec)

/-- 'lotterylaw34.WinnerCounts', WHERE WHAT IT READS IS OF BULK AT MOST 1048576: true; the input reads as it did. -/
def winnerCountsUptoRow : OpenClaim := { program := "ytfggjlekcdpmmaagreat", sum := "2b60e2237c99eb3b341f6575836f2804df467c9f5160d2d3747774bd96399558", func := "lottery/lotterylaw34.WinnerCounts", spec := "winnerCounts", unfollowed := true, recurses := true, plainKeys := false, apart := false, narrowed := true }
def WinnerCountsUptoSaid : Prop := winnerCountsUptoRow.holds Tryz.pinned (OpenSpec.upto winnerCountsSpec)

end Rows
end Go.Proofs.YtfggjlekcdpmmaaGreat

/-
  No cell of these rows narrows 'for every input' (looked for: loops, veiled, ifaces, maps, wideKeys, modest, calm, conditions, laid).
  DERIVED. THE GIVEN ROWS OF THIS SEAT. 3 by the template 'for every input the law returns true; each argument reads behind the call as it read before'; 0 by the template 'total and deterministic' (their statements: YtldikghldcefcaaGreatTotals.lean).
  GIVEN WITH THE SEED: the statements are not yours to turn. If you find one false, say at which input.
  Laid BY PROGRAM, IN A SANDBOX (cutbox-rows.mjs): the forced cells as the released guide's own fill.sh prints them over the translation 3c2f29eccc397c83… (all of the seat's roots in one cut). By AI agents, Wed Nov 11 2026. No macro, syntax, notation, axiom, sorry.
-/
import Derived.Test.YtldikghldcefcaaGreatChecked
import GoSem.Claim
import GoSem.ClaimJoined
import GoSem.ClaimMapViews
import Derived.JoinedTies
import Derived.KernelRfl
namespace Go.Proofs.YtldikghldcefcaaGreat
/- THE CELL 'sum', in the pinned program and in every row, IS THE sha256 OF THE DUMP (.gsa) THAT YtldikghldcefcaaGreatProg.lean LOADS. Nothing in Lean hashes anything: it is a label: what it is worth is what the hold of that sum in a sandbox is worth. -/
noncomputable def Tryz.pinned : Pinned := { name := "ytldikghldcefcaagreat", sum := "3c2f29eccc397c83535da7f66a153be379171e346815fbba16e39fa960a5cf78", checked := Tryz.checked }
namespace Rows
def none {H : Type} : Left H := { results := [], args := [] }

/-- 'lotterylaw35.OddsWinning': WHATEVER THE INPUT: true; the input reads as it did. -/
def oddsWinningSpec : ChangeSpec := { name := "oddsWinning", fn := fun _ => fun
  | [d1, d2] => { results := [.lit (.bool true)], args := [d1, d2] }
  | _ => none }
def oddsWinningRow : OpenClaim := { program := "ytldikghldcefcaagreat", sum := "3c2f29eccc397c83535da7f66a153be379171e346815fbba16e39fa960a5cf78", func := "lottery/lotterylaw35.OddsWinning", spec := "oddsWinning", unfollowed := true, recurses := true, apart := false }
def OddsWinningSaid : Prop := oddsWinningRow.holds Tryz.pinned (OpenSpec.ofChange oddsWinningSpec)

/-- ITS FALSE NEIGHBOUR: 'it returns false'. Refute it at one input. -/
def oddsWinningWrong : ChangeSpec := { name := "oddsWinning", fn := fun _ => fun
  | [d1, d2] => { results := [.lit (.bool false)], args := [d1, d2] }
  | _ => none }
def OddsWinningWrongFalsely : Prop := oddsWinningRow.holds Tryz.pinned (OpenSpec.ofChange oddsWinningWrong)

/-- 'lotterylaw35.OddsTotals': WHATEVER THE INPUT: true; the input reads as it did. -/
def oddsTotalsSpec : ChangeSpec := { name := "oddsTotals", fn := fun _ => fun
  | [d] => { results := [.lit (.bool true)], args := [d] }
  | _ => none }
def oddsTotalsRow : OpenClaim := { program := "ytldikghldcefcaagreat", sum := "3c2f29eccc397c83535da7f66a153be379171e346815fbba16e39fa960a5cf78", func := "lottery/lotterylaw35.OddsTotals", spec := "oddsTotals", unfollowed := true, recurses := true, apart := false }
def OddsTotalsSaid : Prop := oddsTotalsRow.holds Tryz.pinned (OpenSpec.ofChange oddsTotalsSpec)

/-- ITS FALSE NEIGHBOUR: 'it returns false'. Refute it at one input. -/
def oddsTotalsWrong : ChangeSpec := { name := "oddsTotals", fn := fun _ => fun
  | [d] => { results := [.lit (.bool false)], args := [d] }
  | _ => none }
def OddsTotalsWrongFalsely : Prop := oddsTotalsRow.holds Tryz.pinned (OpenSpec.ofChange oddsTotalsWrong)

/-- 'lotterylaw35.OddsCounts': WHATEVER THE INPUT: true; the input reads as it did. -/
def oddsCountsSpec : ChangeSpec := { name := "oddsCounts", fn := fun _ => fun
  | [d1, d2] => { results := [.lit (.bool true)], args := [d1, d2] }
  | _ => none }
def oddsCountsRow : OpenClaim := { program := "ytldikghldcefcaagreat", sum := "3c2f29eccc397c83535da7f66a153be379171e346815fbba16e39fa960a5cf78", func := "lottery/lotterylaw35.OddsCounts", spec := "oddsCounts", unfollowed := true, recurses := true, apart := false }
def OddsCountsSaid : Prop := oddsCountsRow.holds Tryz.pinned (OpenSpec.ofChange oddsCountsSpec)

/-- ITS FALSE NEIGHBOUR: 'it returns false'. Refute it at one input. -/
def oddsCountsWrong : ChangeSpec := { name := "oddsCounts", fn := fun _ => fun
  | [d1, d2] => { results := [.lit (.bool false)], args := [d1, d2] }
  | _ => none }
def OddsCountsWrongFalsely : Prop := oddsCountsRow.holds Tryz.pinned (OpenSpec.ofChange oddsCountsWrong)

/- THE SECOND FORM. 'bulk': how many values and letters a reading holds, each counted each time it is reached (what is shared counts as often as it is met; a slice's spare places count too). A statement '..UptoSaid' is the law's where the arguments, and the package variables that the reading takes, are together of bulk at most 1048576: NARROWER than '..Said'. Prove '..Said' where nothing that the law and all that it calls make is longer than what came in: it says more and counts as full. Else prove '..UptoSaid'. A law counts once. -/
mutual
def uptoBulk {H : Type} : DataW H → Nat
  | .lit (.string bytes) => bytes.length + 1
  | .lit _ => 1
  | .nil => 1
  | .ptr d => uptoBulk d + 1
  | .slice elems spare => uptoBulkAll elems + uptoBulkAll spare + 1
  | .agg parts => uptoBulkAll parts + 1
  | .iface _ d => uptoBulk d + 1
  | .map entries => uptoBulkEntries entries + 1
  | .held _ => 1
def uptoBulkAll {H : Type} : List (DataW H) → Nat
  | [] => 0
  | d :: r => uptoBulk d + uptoBulkAll r
def uptoBulkEntries {H : Type} : List (Lit × DataW H) → Nat
  | [] => 0
  | x :: r => uptoBulkEntry x + uptoBulkEntries r
def uptoBulkEntry {H : Type} : Lit × DataW H → Nat
  | (.string bytes, d) => bytes.length + uptoBulk d + 1
  | (_, d) => uptoBulk d + 1
 end
def uptoSmall : (H : Type) → List (DataW H) → Bool := fun _ ds => decide (uptoBulkAll ds ≤ 1048576)
def OpenSpec.upto (s : _root_.Go.ChangeSpec) : _root_.Go.OpenSpec := { _root_.Go.OpenSpec.ofChange s with cond := some uptoSmall }

/-- 'lotterylaw35.OddsWinning', WHERE WHAT IT READS IS OF BULK AT MOST 1048576: true; the input reads as it did. -/
def oddsWinningUptoRow : OpenClaim := { program := "ytldikghldcefcaagreat", sum := "3c2f29eccc397c83535da7f66a153be379171e346815fbba16e39fa960a5cf78", func := "lottery/lotterylaw35.OddsWinning", spec := "oddsWinning", unfollowed := true, recurses := true, apart := false, narrowed := true }
def OddsWinningUptoSaid : Prop := oddsWinningUptoRow.holds Tryz.pinned (OpenSpec.upto oddsWinningSpec)

/-- 'lotterylaw35.OddsTotals', WHERE WHAT IT READS IS OF BULK AT MOST 1048576: true; the input reads as it did. -/
def oddsTotalsUptoRow : OpenClaim := { program := "ytldikghldcefcaagreat", sum := "3c2f29eccc397c83535da7f66a153be379171e346815fbba16e39fa960a5cf78", func := "lottery/lotterylaw35.OddsTotals", spec := "oddsTotals", unfollowed := true, recurses := true, apart := false, narrowed := true }
def OddsTotalsUptoSaid : Prop := oddsTotalsUptoRow.holds Tryz.pinned (OpenSpec.upto oddsTotalsSpec)

/-- 'lotterylaw35.OddsCounts', WHERE WHAT IT READS IS OF BULK AT MOST 1048576: true; the input reads as it did. -/
def oddsCountsUptoRow : OpenClaim := { program := "ytldikghldcefcaagreat", sum := "3c2f29eccc397c83535da7f66a153be379171e346815fbba16e39fa960a5cf78", func := "lottery/lotterylaw35.OddsCounts", spec := "oddsCounts", unfollowed := true, recurses := true, apart := false, narrowed := true }
def OddsCountsUptoSaid : Prop := oddsCountsUptoRow.holds Tryz.pinned (OpenSpec.upto oddsCountsSpec)

end Rows
end Go.Proofs.YtldikghldcefcaaGreat

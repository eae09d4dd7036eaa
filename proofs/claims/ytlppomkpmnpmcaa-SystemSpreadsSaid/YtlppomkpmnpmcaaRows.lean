/-
  No cell of these rows narrows 'for every input' (looked for: loops, veiled, ifaces, maps, wideKeys, modest, calm, conditions, laid).
  DERIVED. THE GIVEN ROWS OF THIS SEAT. 10 by the template 'for every input the law returns true; each argument reads behind the call as it read before'; 0 by the template 'total and deterministic' (their statements: YtlppomkpmnpmcaaTotals.lean).
  GIVEN WITH THE SEED: the statements are not yours to turn. If you find one false, say at which input.
  Laid BY PROGRAM, IN A SANDBOX (cutbox-rows.mjs): the forced cells as the released guide's own fill.sh prints them over the translation 199bedb67312a520… (all of the seat's roots in one cut). By AI agents, Wed Nov 11 2026. No macro, syntax, notation, axiom, sorry.
-/
import Derived.Test.YtlppomkpmnpmcaaChecked
import GoSem.Claim
import GoSem.ClaimJoined
import GoSem.ClaimMapViews
import Derived.JoinedTies
import Derived.KernelRfl
namespace Go.Proofs.Ytlppomkpmnpmcaa
/- THE CELL 'sum', in the pinned program and in every row, IS THE sha256 OF THE DUMP (.gsa) THAT YtlppomkpmnpmcaaProg.lean LOADS. Nothing in Lean hashes anything: it is a label: what it is worth is what the hold of that sum in a sandbox is worth. -/
noncomputable def Try.pinned : Pinned := { name := "ytlppomkpmnpmcaa", sum := "199bedb67312a520bcd1cd882127bf35d1943e66ebb011acea28ae095f2acdf8", checked := Try.checked }
namespace Rows
def none {H : Type} : Left H := { results := [], args := [] }

/-- 'lotterylaw15.SystemSpreads': WHATEVER THE INPUT: true; the input reads as it did. -/
def systemSpreadsSpec : ChangeSpec := { name := "systemSpreads", fn := fun _ => fun
  | [d1, d2, d3] => { results := [.lit (.bool true)], args := [d1, d2, d3] }
  | _ => none }
def systemSpreadsRow : OpenClaim := { program := "ytlppomkpmnpmcaa", sum := "199bedb67312a520bcd1cd882127bf35d1943e66ebb011acea28ae095f2acdf8", func := "lottery/lotterylaw15.SystemSpreads", spec := "systemSpreads", unfollowed := true, recurses := true, apart := false }
def SystemSpreadsSaid : Prop := systemSpreadsRow.holds Try.pinned (OpenSpec.ofChange systemSpreadsSpec)

/-- ITS FALSE NEIGHBOUR: 'it returns false'. Refute it at one input. -/
def systemSpreadsWrong : ChangeSpec := { name := "systemSpreads", fn := fun _ => fun
  | [d1, d2, d3] => { results := [.lit (.bool false)], args := [d1, d2, d3] }
  | _ => none }
def SystemSpreadsWrongFalsely : Prop := systemSpreadsRow.holds Try.pinned (OpenSpec.ofChange systemSpreadsWrong)

/-- 'lotterylaw15.SystemExpands': WHATEVER THE INPUT: true; the input reads as it did. -/
def systemExpandsSpec : ChangeSpec := { name := "systemExpands", fn := fun _ => fun
  | [d1, d2] => { results := [.lit (.bool true)], args := [d1, d2] }
  | _ => none }
def systemExpandsRow : OpenClaim := { program := "ytlppomkpmnpmcaa", sum := "199bedb67312a520bcd1cd882127bf35d1943e66ebb011acea28ae095f2acdf8", func := "lottery/lotterylaw15.SystemExpands", spec := "systemExpands", unfollowed := true, recurses := true, apart := false }
def SystemExpandsSaid : Prop := systemExpandsRow.holds Try.pinned (OpenSpec.ofChange systemExpandsSpec)

/-- ITS FALSE NEIGHBOUR: 'it returns false'. Refute it at one input. -/
def systemExpandsWrong : ChangeSpec := { name := "systemExpands", fn := fun _ => fun
  | [d1, d2] => { results := [.lit (.bool false)], args := [d1, d2] }
  | _ => none }
def SystemExpandsWrongFalsely : Prop := systemExpandsRow.holds Try.pinned (OpenSpec.ofChange systemExpandsWrong)

/-- 'lotterylaw15.SystemCovers': WHATEVER THE INPUT: true; the input reads as it did. -/
def systemCoversSpec : ChangeSpec := { name := "systemCovers", fn := fun _ => fun
  | [d1, d2, d3] => { results := [.lit (.bool true)], args := [d1, d2, d3] }
  | _ => none }
def systemCoversRow : OpenClaim := { program := "ytlppomkpmnpmcaa", sum := "199bedb67312a520bcd1cd882127bf35d1943e66ebb011acea28ae095f2acdf8", func := "lottery/lotterylaw15.SystemCovers", spec := "systemCovers", unfollowed := true, recurses := true, apart := false }
def SystemCoversSaid : Prop := systemCoversRow.holds Try.pinned (OpenSpec.ofChange systemCoversSpec)

/-- ITS FALSE NEIGHBOUR: 'it returns false'. Refute it at one input. -/
def systemCoversWrong : ChangeSpec := { name := "systemCovers", fn := fun _ => fun
  | [d1, d2, d3] => { results := [.lit (.bool false)], args := [d1, d2, d3] }
  | _ => none }
def SystemCoversWrongFalsely : Prop := systemCoversRow.holds Try.pinned (OpenSpec.ofChange systemCoversWrong)

/-- 'lotterylaw13.MatrixChecks': WHATEVER THE INPUT: true; the input reads as it did. -/
def matrixChecksSpec : ChangeSpec := { name := "matrixChecks", fn := fun _ => fun
  | [d1, d2] => { results := [.lit (.bool true)], args := [d1, d2] }
  | _ => none }
def matrixChecksRow : OpenClaim := { program := "ytlppomkpmnpmcaa", sum := "199bedb67312a520bcd1cd882127bf35d1943e66ebb011acea28ae095f2acdf8", func := "lottery/lotterylaw13.MatrixChecks", spec := "matrixChecks", unfollowed := true, recurses := true, apart := false }
def MatrixChecksSaid : Prop := matrixChecksRow.holds Try.pinned (OpenSpec.ofChange matrixChecksSpec)

/-- ITS FALSE NEIGHBOUR: 'it returns false'. Refute it at one input. -/
def matrixChecksWrong : ChangeSpec := { name := "matrixChecks", fn := fun _ => fun
  | [d1, d2] => { results := [.lit (.bool false)], args := [d1, d2] }
  | _ => none }
def MatrixChecksWrongFalsely : Prop := matrixChecksRow.holds Try.pinned (OpenSpec.ofChange matrixChecksWrong)

/-- 'lotterylaw13.MatrixCanons': WHATEVER THE INPUT: true; the input reads as it did. -/
def matrixCanonsSpec : ChangeSpec := { name := "matrixCanons", fn := fun _ => fun
  | [d] => { results := [.lit (.bool true)], args := [d] }
  | _ => none }
def matrixCanonsRow : OpenClaim := { program := "ytlppomkpmnpmcaa", sum := "199bedb67312a520bcd1cd882127bf35d1943e66ebb011acea28ae095f2acdf8", func := "lottery/lotterylaw13.MatrixCanons", spec := "matrixCanons", unfollowed := true, recurses := true, apart := false }
def MatrixCanonsSaid : Prop := matrixCanonsRow.holds Try.pinned (OpenSpec.ofChange matrixCanonsSpec)

/-- ITS FALSE NEIGHBOUR: 'it returns false'. Refute it at one input. -/
def matrixCanonsWrong : ChangeSpec := { name := "matrixCanons", fn := fun _ => fun
  | [d] => { results := [.lit (.bool false)], args := [d] }
  | _ => none }
def MatrixCanonsWrongFalsely : Prop := matrixCanonsRow.holds Try.pinned (OpenSpec.ofChange matrixCanonsWrong)

/-- 'lotterylaw13.MatrixCounts': WHATEVER THE INPUT: true; the input reads as it did. -/
def matrixCountsSpec : ChangeSpec := { name := "matrixCounts", fn := fun _ => fun
  | [d] => { results := [.lit (.bool true)], args := [d] }
  | _ => none }
def matrixCountsRow : OpenClaim := { program := "ytlppomkpmnpmcaa", sum := "199bedb67312a520bcd1cd882127bf35d1943e66ebb011acea28ae095f2acdf8", func := "lottery/lotterylaw13.MatrixCounts", spec := "matrixCounts", unfollowed := true, recurses := true, apart := false }
def MatrixCountsSaid : Prop := matrixCountsRow.holds Try.pinned (OpenSpec.ofChange matrixCountsSpec)

/-- ITS FALSE NEIGHBOUR: 'it returns false'. Refute it at one input. -/
def matrixCountsWrong : ChangeSpec := { name := "matrixCounts", fn := fun _ => fun
  | [d] => { results := [.lit (.bool false)], args := [d] }
  | _ => none }
def MatrixCountsWrongFalsely : Prop := matrixCountsRow.holds Try.pinned (OpenSpec.ofChange matrixCountsWrong)

/-- 'lotterylaw13.MatrixUnranks': WHATEVER THE INPUT: true; the input reads as it did. -/
def matrixUnranksSpec : ChangeSpec := { name := "matrixUnranks", fn := fun _ => fun
  | [d1, d2] => { results := [.lit (.bool true)], args := [d1, d2] }
  | _ => none }
def matrixUnranksRow : OpenClaim := { program := "ytlppomkpmnpmcaa", sum := "199bedb67312a520bcd1cd882127bf35d1943e66ebb011acea28ae095f2acdf8", func := "lottery/lotterylaw13.MatrixUnranks", spec := "matrixUnranks", unfollowed := true, recurses := true, apart := false }
def MatrixUnranksSaid : Prop := matrixUnranksRow.holds Try.pinned (OpenSpec.ofChange matrixUnranksSpec)

/-- ITS FALSE NEIGHBOUR: 'it returns false'. Refute it at one input. -/
def matrixUnranksWrong : ChangeSpec := { name := "matrixUnranks", fn := fun _ => fun
  | [d1, d2] => { results := [.lit (.bool false)], args := [d1, d2] }
  | _ => none }
def MatrixUnranksWrongFalsely : Prop := matrixUnranksRow.holds Try.pinned (OpenSpec.ofChange matrixUnranksWrong)

/-- 'lotterylaw13.MatrixRanks': WHATEVER THE INPUT: true; the input reads as it did. -/
def matrixRanksSpec : ChangeSpec := { name := "matrixRanks", fn := fun _ => fun
  | [d1, d2] => { results := [.lit (.bool true)], args := [d1, d2] }
  | _ => none }
def matrixRanksRow : OpenClaim := { program := "ytlppomkpmnpmcaa", sum := "199bedb67312a520bcd1cd882127bf35d1943e66ebb011acea28ae095f2acdf8", func := "lottery/lotterylaw13.MatrixRanks", spec := "matrixRanks", unfollowed := true, recurses := true, apart := false }
def MatrixRanksSaid : Prop := matrixRanksRow.holds Try.pinned (OpenSpec.ofChange matrixRanksSpec)

/-- ITS FALSE NEIGHBOUR: 'it returns false'. Refute it at one input. -/
def matrixRanksWrong : ChangeSpec := { name := "matrixRanks", fn := fun _ => fun
  | [d1, d2] => { results := [.lit (.bool false)], args := [d1, d2] }
  | _ => none }
def MatrixRanksWrongFalsely : Prop := matrixRanksRow.holds Try.pinned (OpenSpec.ofChange matrixRanksWrong)

/-- 'lotterylaw13.MatrixOrders': WHATEVER THE INPUT: true; the input reads as it did. -/
def matrixOrdersSpec : ChangeSpec := { name := "matrixOrders", fn := fun _ => fun
  | [d1, d2, d3] => { results := [.lit (.bool true)], args := [d1, d2, d3] }
  | _ => none }
def matrixOrdersRow : OpenClaim := { program := "ytlppomkpmnpmcaa", sum := "199bedb67312a520bcd1cd882127bf35d1943e66ebb011acea28ae095f2acdf8", func := "lottery/lotterylaw13.MatrixOrders", spec := "matrixOrders", unfollowed := true, recurses := true, apart := false }
def MatrixOrdersSaid : Prop := matrixOrdersRow.holds Try.pinned (OpenSpec.ofChange matrixOrdersSpec)

/-- ITS FALSE NEIGHBOUR: 'it returns false'. Refute it at one input. -/
def matrixOrdersWrong : ChangeSpec := { name := "matrixOrders", fn := fun _ => fun
  | [d1, d2, d3] => { results := [.lit (.bool false)], args := [d1, d2, d3] }
  | _ => none }
def MatrixOrdersWrongFalsely : Prop := matrixOrdersRow.holds Try.pinned (OpenSpec.ofChange matrixOrdersWrong)

/-- 'lotterylaw15.SystemLines': WHATEVER THE INPUT: true; the input reads as it did. -/
def systemLinesSpec : ChangeSpec := { name := "systemLines", fn := fun _ => fun
  | [d1, d2] => { results := [.lit (.bool true)], args := [d1, d2] }
  | _ => none }
def systemLinesRow : OpenClaim := { program := "ytlppomkpmnpmcaa", sum := "199bedb67312a520bcd1cd882127bf35d1943e66ebb011acea28ae095f2acdf8", func := "lottery/lotterylaw15.SystemLines", spec := "systemLines", unfollowed := true, recurses := true, apart := false }
def SystemLinesSaid : Prop := systemLinesRow.holds Try.pinned (OpenSpec.ofChange systemLinesSpec)

/-- ITS FALSE NEIGHBOUR: 'it returns false'. Refute it at one input. -/
def systemLinesWrong : ChangeSpec := { name := "systemLines", fn := fun _ => fun
  | [d1, d2] => { results := [.lit (.bool false)], args := [d1, d2] }
  | _ => none }
def SystemLinesWrongFalsely : Prop := systemLinesRow.holds Try.pinned (OpenSpec.ofChange systemLinesWrong)

/- THE SECOND FORM. 'bulk': how many values and letters a reading holds, each counted each time it is reached (what is shared counts as often as it is met; a slice's spare places count too). A statement '..UptoSaid' is the law's where the arguments, and the package variables that the reading takes, are together of bulk at most 1048576: NARROWER than '..Said'. Prove '..Said' where nothing that the law and all that it calls make is longer than what came in: it says more and counts as full. Else prove '..UptoSaid'. A law counts once. -/
mutual
def uptoBulk {H : Type} : DataW H → Nat
  | .lit (.string bytes) => bytes.length + 1
  | .lit _ => 1
  | .nil => 1
  | .ptr d => uptoBulk d + 1
  | .slice elems spare => uptoBulkAll elems + uptoBulkAll spare + 1
  | .agg parts => uptoBulkAll parts + 1
  | .iface _ d => uptoBulk d + 1
  | .map entries => uptoBulkEntries entries + 1
  | .held _ => 1
def uptoBulkAll {H : Type} : List (DataW H) → Nat
  | [] => 0
  | d :: r => uptoBulk d + uptoBulkAll r
def uptoBulkEntries {H : Type} : List (Lit × DataW H) → Nat
  | [] => 0
  | x :: r => uptoBulkEntry x + uptoBulkEntries r
def uptoBulkEntry {H : Type} : Lit × DataW H → Nat
  | (.string bytes, d) => bytes.length + uptoBulk d + 1
  | (_, d) => uptoBulk d + 1
 end
def uptoSmall : (H : Type) → List (DataW H) → Bool := fun _ ds => decide (uptoBulkAll ds ≤ 1048576)
def OpenSpec.upto (s : _root_.Go.ChangeSpec) : _root_.Go.OpenSpec := { _root_.Go.OpenSpec.ofChange s with cond := some uptoSmall }

/-- 'lotterylaw15.SystemSpreads', WHERE WHAT IT READS IS OF BULK AT MOST 1048576: true; the input reads as it did. -/
def systemSpreadsUptoRow : OpenClaim := { program := "ytlppomkpmnpmcaa", sum := "199bedb67312a520bcd1cd882127bf35d1943e66ebb011acea28ae095f2acdf8", func := "lottery/lotterylaw15.SystemSpreads", spec := "systemSpreads", unfollowed := true, recurses := true, apart := false, narrowed := true }
def SystemSpreadsUptoSaid : Prop := systemSpreadsUptoRow.holds Try.pinned (OpenSpec.upto systemSpreadsSpec)

/-- 'lotterylaw15.SystemExpands', WHERE WHAT IT READS IS OF BULK AT MOST 1048576: true; the input reads as it did. -/
def systemExpandsUptoRow : OpenClaim := { program := "ytlppomkpmnpmcaa", sum := "199bedb67312a520bcd1cd882127bf35d1943e66ebb011acea28ae095f2acdf8", func := "lottery/lotterylaw15.SystemExpands", spec := "systemExpands", unfollowed := true, recurses := true, apart := false, narrowed := true }
def SystemExpandsUptoSaid : Prop := systemExpandsUptoRow.holds Try.pinned (OpenSpec.upto systemExpandsSpec)

/-- 'lotterylaw15.SystemCovers', WHERE WHAT IT READS IS OF BULK AT MOST 1048576: true; the input reads as it did. -/
def systemCoversUptoRow : OpenClaim := { program := "ytlppomkpmnpmcaa", sum := "199bedb67312a520bcd1cd882127bf35d1943e66ebb011acea28ae095f2acdf8", func := "lottery/lotterylaw15.SystemCovers", spec := "systemCovers", unfollowed := true, recurses := true, apart := false, narrowed := true }
def SystemCoversUptoSaid : Prop := systemCoversUptoRow.holds Try.pinned (OpenSpec.upto systemCoversSpec)

/-- 'lotterylaw13.MatrixChecks', WHERE WHAT IT READS IS OF BULK AT MOST 1048576: true; the input reads as it did. -/
def matrixChecksUptoRow : OpenClaim := { program := "ytlppomkpmnpmcaa", sum := "199bedb67312a520bcd1cd882127bf35d1943e66ebb011acea28ae095f2acdf8", func := "lottery/lotterylaw13.MatrixChecks", spec := "matrixChecks", unfollowed := true, recurses := true, apart := false, narrowed := true }
def MatrixChecksUptoSaid : Prop := matrixChecksUptoRow.holds Try.pinned (OpenSpec.upto matrixChecksSpec)

/-- 'lotterylaw13.MatrixCanons', WHERE WHAT IT READS IS OF BULK AT MOST 1048576: true; the input reads as it did. -/
def matrixCanonsUptoRow : OpenClaim := { program := "ytlppomkpmnpmcaa", sum := "199bedb67312a520bcd1cd882127bf35d1943e66ebb011acea28ae095f2acdf8", func := "lottery/lotterylaw13.MatrixCanons", spec := "matrixCanons", unfollowed := true, recurses := true, apart := false, narrowed := true }
def MatrixCanonsUptoSaid : Prop := matrixCanonsUptoRow.holds Try.pinned (OpenSpec.upto matrixCanonsSpec)

/-- 'lotterylaw13.MatrixCounts', WHERE WHAT IT READS IS OF BULK AT MOST 1048576: true; the input reads as it did. -/
def matrixCountsUptoRow : OpenClaim := { program := "ytlppomkpmnpmcaa", sum := "199bedb67312a520bcd1cd882127bf35d1943e66ebb011acea28ae095f2acdf8", func := "lottery/lotterylaw13.MatrixCounts", spec := "matrixCounts", unfollowed := true, recurses := true, apart := false, narrowed := true }
def MatrixCountsUptoSaid : Prop := matrixCountsUptoRow.holds Try.pinned (OpenSpec.upto matrixCountsSpec)

/-- 'lotterylaw13.MatrixUnranks', WHERE WHAT IT READS IS OF BULK AT MOST 1048576: true; the input reads as it did. -/
def matrixUnranksUptoRow : OpenClaim := { program := "ytlppomkpmnpmcaa", sum := "199bedb67312a520bcd1cd882127bf35d1943e66ebb011acea28ae095f2acdf8", func := "lottery/lotterylaw13.MatrixUnranks", spec := "matrixUnranks", unfollowed := true, recurses := true, apart := false, narrowed := true }
def MatrixUnranksUptoSaid : Prop := matrixUnranksUptoRow.holds Try.pinned (OpenSpec.upto matrixUnranksSpec)

/-- 'lotterylaw13.MatrixRanks', WHERE WHAT IT READS IS OF BULK AT MOST 1048576: true; the input reads as it did. -/
def matrixRanksUptoRow : OpenClaim := { program := "ytlppomkpmnpmcaa", sum := "199bedb67312a520bcd1cd882127bf35d1943e66ebb011acea28ae095f2acdf8", func := "lottery/lotterylaw13.MatrixRanks", spec := "matrixRanks", unfollowed := true, recurses := true, apart := false, narrowed := true }
def MatrixRanksUptoSaid : Prop := matrixRanksUptoRow.holds Try.pinned (OpenSpec.upto matrixRanksSpec)

/-- 'lotterylaw13.MatrixOrders', WHERE WHAT IT READS IS OF BULK AT MOST 1048576: true; the input reads as it did. -/
def matrixOrdersUptoRow : OpenClaim := { program := "ytlppomkpmnpmcaa", sum := "199bedb67312a520bcd1cd882127bf35d1943e66ebb011acea28ae095f2acdf8", func := "lottery/lotterylaw13.MatrixOrders", spec := "matrixOrders", unfollowed := true, recurses := true, apart := false, narrowed := true }
def MatrixOrdersUptoSaid : Prop := matrixOrdersUptoRow.holds Try.pinned (OpenSpec.upto matrixOrdersSpec)

/-- 'lotterylaw15.SystemLines', WHERE WHAT IT READS IS OF BULK AT MOST 1048576: true; the input reads as it did. -/
def systemLinesUptoRow : OpenClaim := { program := "ytlppomkpmnpmcaa", sum := "199bedb67312a520bcd1cd882127bf35d1943e66ebb011acea28ae095f2acdf8", func := "lottery/lotterylaw15.SystemLines", spec := "systemLines", unfollowed := true, recurses := true, apart := false, narrowed := true }
def SystemLinesUptoSaid : Prop := systemLinesUptoRow.holds Try.pinned (OpenSpec.upto systemLinesSpec)

end Rows
end Go.Proofs.Ytlppomkpmnpmcaa

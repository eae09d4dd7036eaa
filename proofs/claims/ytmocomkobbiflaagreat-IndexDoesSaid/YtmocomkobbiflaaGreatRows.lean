/-
  No cell of these rows narrows 'for every input' (looked for: loops, veiled, ifaces, maps, wideKeys, modest, calm, conditions, laid).
  DERIVED. THE GIVEN ROWS OF THIS SEAT. 7 by the template 'for every input the law returns true; each argument reads behind the call as it read before'; 0 by the template 'total and deterministic' (their statements: YtmocomkobbiflaaGreatTotals.lean).
  GIVEN WITH THE SEED: the statements are not yours to turn. If you find one false, say at which input.
  Laid BY PROGRAM, IN A SANDBOX (cutbox-rows.mjs): the forced cells as the released guide's own fill.sh prints them over the translation eceb04e8650e44e5… (all of the seat's roots in one cut). By AI agents, Wed Nov 11 2026. No macro, syntax, notation, axiom, sorry.
-/
import Derived.Test.YtmocomkobbiflaaGreatChecked
import GoSem.Claim
import GoSem.ClaimJoined
import GoSem.ClaimMapViews
import Derived.JoinedTies
import Derived.KernelRfl
namespace Go.Proofs.YtmocomkobbiflaaGreat
/- THE CELL 'sum', in the pinned program and in every row, IS THE sha256 OF THE DUMP (.gsa) THAT YtmocomkobbiflaaGreatProg.lean LOADS. Nothing in Lean hashes anything: it is a label: what it is worth is what the hold of that sum in a sandbox is worth. -/
noncomputable def Tryz.pinned : Pinned := { name := "ytmocomkobbiflaagreat", sum := "eceb04e8650e44e59ea6814f97edf1f228c0bb81a597892dc37dd477e43b2992", checked := Tryz.checked }
namespace Rows
def none {H : Type} : Left H := { results := [], args := [] }

/-- 'lotterylaw33.IndexDoes': WHATEVER THE INPUT: true; the input reads as it did. -/
def indexDoesSpec : ChangeSpec := { name := "indexDoes", fn := fun _ => fun
  | [d1, d2, d3] => { results := [.lit (.bool true)], args := [d1, d2, d3] }
  | _ => none }
def indexDoesRow : OpenClaim := { program := "ytmocomkobbiflaagreat", sum := "eceb04e8650e44e59ea6814f97edf1f228c0bb81a597892dc37dd477e43b2992", func := "lottery/lotterylaw33.IndexDoes", spec := "indexDoes", unfollowed := true, recurses := true, plainKeys := false, apart := false }
def IndexDoesSaid : Prop := indexDoesRow.holds Tryz.pinned (OpenSpec.ofChange indexDoesSpec)

/-- ITS FALSE NEIGHBOUR: 'it returns false'. Refute it at one input. -/
def indexDoesWrong : ChangeSpec := { name := "indexDoes", fn := fun _ => fun
  | [d1, d2, d3] => { results := [.lit (.bool false)], args := [d1, d2, d3] }
  | _ => none }
def IndexDoesWrongFalsely : Prop := indexDoesRow.holds Tryz.pinned (OpenSpec.ofChange indexDoesWrong)

/-- 'lotterylaw33.IndexFinds': WHATEVER THE INPUT: true; the input reads as it did. -/
def indexFindsSpec : ChangeSpec := { name := "indexFinds", fn := fun _ => fun
  | [d1, d2, d3] => { results := [.lit (.bool true)], args := [d1, d2, d3] }
  | _ => none }
def indexFindsRow : OpenClaim := { program := "ytmocomkobbiflaagreat", sum := "eceb04e8650e44e59ea6814f97edf1f228c0bb81a597892dc37dd477e43b2992", func := "lottery/lotterylaw33.IndexFinds", spec := "indexFinds", unfollowed := true, recurses := true, plainKeys := false, apart := false }
def IndexFindsSaid : Prop := indexFindsRow.holds Tryz.pinned (OpenSpec.ofChange indexFindsSpec)

/-- ITS FALSE NEIGHBOUR: 'it returns false'. Refute it at one input. -/
def indexFindsWrong : ChangeSpec := { name := "indexFinds", fn := fun _ => fun
  | [d1, d2, d3] => { results := [.lit (.bool false)], args := [d1, d2, d3] }
  | _ => none }
def IndexFindsWrongFalsely : Prop := indexFindsRow.holds Tryz.pinned (OpenSpec.ofChange indexFindsWrong)

/-- 'lotterylaw33.IndexCounts': WHATEVER THE INPUT: true; the input reads as it did. -/
def indexCountsSpec : ChangeSpec := { name := "indexCounts", fn := fun _ => fun
  | [d1, d2, d3] => { results := [.lit (.bool true)], args := [d1, d2, d3] }
  | _ => none }
def indexCountsRow : OpenClaim := { program := "ytmocomkobbiflaagreat", sum := "eceb04e8650e44e59ea6814f97edf1f228c0bb81a597892dc37dd477e43b2992", func := "lottery/lotterylaw33.IndexCounts", spec := "indexCounts", unfollowed := true, recurses := true, plainKeys := false, apart := false }
def IndexCountsSaid : Prop := indexCountsRow.holds Tryz.pinned (OpenSpec.ofChange indexCountsSpec)

/-- ITS FALSE NEIGHBOUR: 'it returns false'. Refute it at one input. -/
def indexCountsWrong : ChangeSpec := { name := "indexCounts", fn := fun _ => fun
  | [d1, d2, d3] => { results := [.lit (.bool false)], args := [d1, d2, d3] }
  | _ => none }
def IndexCountsWrongFalsely : Prop := indexCountsRow.holds Tryz.pinned (OpenSpec.ofChange indexCountsWrong)

/-- 'lotterylaw33.IndexOrders': WHATEVER THE INPUT: true; the input reads as it did. -/
def indexOrdersSpec : ChangeSpec := { name := "indexOrders", fn := fun _ => fun
  | [d1, d2, d3] => { results := [.lit (.bool true)], args := [d1, d2, d3] }
  | _ => none }
def indexOrdersRow : OpenClaim := { program := "ytmocomkobbiflaagreat", sum := "eceb04e8650e44e59ea6814f97edf1f228c0bb81a597892dc37dd477e43b2992", func := "lottery/lotterylaw33.IndexOrders", spec := "indexOrders", unfollowed := true, recurses := true, plainKeys := false, apart := false }
def IndexOrdersSaid : Prop := indexOrdersRow.holds Tryz.pinned (OpenSpec.ofChange indexOrdersSpec)

/-- ITS FALSE NEIGHBOUR: 'it returns false'. Refute it at one input. -/
def indexOrdersWrong : ChangeSpec := { name := "indexOrders", fn := fun _ => fun
  | [d1, d2, d3] => { results := [.lit (.bool false)], args := [d1, d2, d3] }
  | _ => none }
def IndexOrdersWrongFalsely : Prop := indexOrdersRow.holds Tryz.pinned (OpenSpec.ofChange indexOrdersWrong)

/-- 'lotterylaw33.IndexParts': WHATEVER THE INPUT: true; the input reads as it did. -/
def indexPartsSpec : ChangeSpec := { name := "indexParts", fn := fun _ => fun
  | [d1, d2, d3, d4] => { results := [.lit (.bool true)], args := [d1, d2, d3, d4] }
  | _ => none }
def indexPartsRow : OpenClaim := { program := "ytmocomkobbiflaagreat", sum := "eceb04e8650e44e59ea6814f97edf1f228c0bb81a597892dc37dd477e43b2992", func := "lottery/lotterylaw33.IndexParts", spec := "indexParts", unfollowed := true, recurses := true, plainKeys := false, apart := false }
def IndexPartsSaid : Prop := indexPartsRow.holds Tryz.pinned (OpenSpec.ofChange indexPartsSpec)

/-- ITS FALSE NEIGHBOUR: 'it returns false'. Refute it at one input. -/
def indexPartsWrong : ChangeSpec := { name := "indexParts", fn := fun _ => fun
  | [d1, d2, d3, d4] => { results := [.lit (.bool false)], args := [d1, d2, d3, d4] }
  | _ => none }
def IndexPartsWrongFalsely : Prop := indexPartsRow.holds Tryz.pinned (OpenSpec.ofChange indexPartsWrong)

/-- 'lotterylaw33.IndexNobody': WHATEVER THE INPUT: true; the input reads as it did. -/
def indexNobodySpec : ChangeSpec := { name := "indexNobody", fn := fun _ => fun
  | [d1, d2, d3] => { results := [.lit (.bool true)], args := [d1, d2, d3] }
  | _ => none }
def indexNobodyRow : OpenClaim := { program := "ytmocomkobbiflaagreat", sum := "eceb04e8650e44e59ea6814f97edf1f228c0bb81a597892dc37dd477e43b2992", func := "lottery/lotterylaw33.IndexNobody", spec := "indexNobody", unfollowed := true, recurses := true, plainKeys := false, apart := false }
def IndexNobodySaid : Prop := indexNobodyRow.holds Tryz.pinned (OpenSpec.ofChange indexNobodySpec)

/-- ITS FALSE NEIGHBOUR: 'it returns false'. Refute it at one input. -/
def indexNobodyWrong : ChangeSpec := { name := "indexNobody", fn := fun _ => fun
  | [d1, d2, d3] => { results := [.lit (.bool false)], args := [d1, d2, d3] }
  | _ => none }
def IndexNobodyWrongFalsely : Prop := indexNobodyRow.holds Tryz.pinned (OpenSpec.ofChange indexNobodyWrong)

/-- 'lotterylaw34.WinnerIndex': WHATEVER THE INPUT: true; the input reads as it did. -/
def winnerIndexSpec : ChangeSpec := { name := "winnerIndex", fn := fun _ => fun
  | [d1, d2, d3] => { results := [.lit (.bool true)], args := [d1, d2, d3] }
  | _ => none }
def winnerIndexRow : OpenClaim := { program := "ytmocomkobbiflaagreat", sum := "eceb04e8650e44e59ea6814f97edf1f228c0bb81a597892dc37dd477e43b2992", func := "lottery/lotterylaw34.WinnerIndex", spec := "winnerIndex", unfollowed := true, recurses := true, plainKeys := false, apart := false }
def WinnerIndexSaid : Prop := winnerIndexRow.holds Tryz.pinned (OpenSpec.ofChange winnerIndexSpec)

/-- ITS FALSE NEIGHBOUR: 'it returns false'. Refute it at one input. -/
def winnerIndexWrong : ChangeSpec := { name := "winnerIndex", fn := fun _ => fun
  | [d1, d2, d3] => { results := [.lit (.bool false)], args := [d1, d2, d3] }
  | _ => none }
def WinnerIndexWrongFalsely : Prop := winnerIndexRow.holds Tryz.pinned (OpenSpec.ofChange winnerIndexWrong)

/- THE SECOND FORM. 'bulk': how many values and letters a reading holds, each counted each time it is reached (what is shared counts as often as it is met; a slice's spare places count too). A statement '..UptoSaid' is the law's where the arguments, and the package variables that the reading takes, are together of bulk at most 1048576: NARROWER than '..Said'. Prove '..Said' where nothing that the law and all that it calls make is longer than what came in: it says more and counts as full. Else prove '..UptoSaid'. A law counts once. -/
mutual
def uptoBulk {H : Type} : DataW H → Nat
  | .lit (.string bytes) => bytes.length + 1
  | .lit _ => 1
  | .nil => 1
  | .ptr d => uptoBulk d + 1
  | .slice elems spare => uptoBulkAll elems + uptoBulkAll spare + 1
  | .agg parts => uptoBulkAll parts + 1
  | .iface _ d => uptoBulk d + 1
  | .map entries => uptoBulkEntries entries + 1
  | .held _ => 1
def uptoBulkAll {H : Type} : List (DataW H) → Nat
  | [] => 0
  | d :: r => uptoBulk d + uptoBulkAll r
def uptoBulkEntries {H : Type} : List (Lit × DataW H) → Nat
  | [] => 0
  | x :: r => uptoBulkEntry x + uptoBulkEntries r
def uptoBulkEntry {H : Type} : Lit × DataW H → Nat
  | (.string bytes, d) => bytes.length + uptoBulk d + 1
  | (_, d) => uptoBulk d + 1
 end
def uptoSmall : (H : Type) → List (DataW H) → Bool := fun _ ds => decide (uptoBulkAll ds ≤ 1048576)
def OpenSpec.upto (s : _root_.Go.ChangeSpec) : _root_.Go.OpenSpec := { _root_.Go.OpenSpec.ofChange s with cond := some uptoSmall }

/-- 'lotterylaw33.IndexDoes', WHERE WHAT IT READS IS OF BULK AT MOST 1048576: true; the input reads as it did. -/
def indexDoesUptoRow : OpenClaim := { program := "ytmocomkobbiflaagreat", sum := "eceb04e8650e44e59ea6814f97edf1f228c0bb81a597892dc37dd477e43b2992", func := "lottery/lotterylaw33.IndexDoes", spec := "indexDoes", unfollowed := true, recurses := true, plainKeys := false, apart := false, narrowed := true }
def IndexDoesUptoSaid : Prop := indexDoesUptoRow.holds Tryz.pinned (OpenSpec.upto indexDoesSpec)

/-- 'lotterylaw33.IndexFinds', WHERE WHAT IT READS IS OF BULK AT MOST 1048576: true; the input reads as it did. -/
def indexFindsUptoRow : OpenClaim := { program := "ytmocomkobbiflaagreat", sum := "eceb04e8650e44e59ea6814f97edf1f228c0bb81a597892dc37dd477e43b2992", func := "lottery/lotterylaw33.IndexFinds", spec := "indexFinds", unfollowed := true, recurses := true, plainKeys := false, apart := false, narrowed := true }
def IndexFindsUptoSaid : Prop := indexFindsUptoRow.holds Tryz.pinned (OpenSpec.upto indexFindsSpec)

/-- 'lotterylaw33.IndexCounts', WHERE WHAT IT READS IS OF BULK AT MOST 1048576: true; the input reads as it did. -/
def indexCountsUptoRow : OpenClaim := { program := "ytmocomkobbiflaagreat", sum := "eceb04e8650e44e59ea6814f97edf1f228c0bb81a597892dc37dd477e43b2992", func := "lottery/lotterylaw33.IndexCounts", spec := "indexCounts", unfollowed := true, recurses := true, plainKeys := false, apart := false, narrowed := true }
def IndexCountsUptoSaid : Prop := indexCountsUptoRow.holds Tryz.pinned (OpenSpec.upto indexCountsSpec)

/-- 'lotterylaw33.IndexOrders', WHERE WHAT IT READS IS OF BULK AT MOST 1048576: true; the input reads as it did. -/
def indexOrdersUptoRow : OpenClaim := { program := "ytmocomkobbiflaagreat", sum := "eceb04e8650e44e59ea6814f97edf1f228c0bb81a597892dc37dd477e43b2992", func := "lottery/lotterylaw33.IndexOrders", spec := "indexOrders", unfollowed := true, recurses := true, plainKeys := false, apart := false, narrowed := true }
def IndexOrdersUptoSaid : Prop := indexOrdersUptoRow.holds Tryz.pinned (OpenSpec.upto indexOrdersSpec)

/-- 'lotterylaw33.IndexParts', WHERE WHAT IT READS IS OF BULK AT MOST 1048576: true; the input reads as it did. -/
def indexPartsUptoRow : OpenClaim := { program := "ytmocomkobbiflaagreat", sum := "eceb04e8650e44e59ea6814f97edf1f228c0bb81a597892dc37dd477e43b2992", func := "lottery/lotterylaw33.IndexParts", spec := "indexParts", unfollowed := true, recurses := true, plainKeys := false, apart := false, narrowed := true }
def IndexPartsUptoSaid : Prop := indexPartsUptoRow.holds Tryz.pinned (OpenSpec.upto indexPartsSpec)

/-- 'lotterylaw33.IndexNobody', WHERE WHAT IT READS IS OF BULK AT MOST 1048576: true; the input reads as it did. -/
def indexNobodyUptoRow : OpenClaim := { program := "ytmocomkobbiflaagreat", sum := "eceb04e8650e44e59ea6814f97edf1f228c0bb81a597892dc37dd477e43b2992", func := "lottery/lotterylaw33.IndexNobody", spec := "indexNobody", unfollowed := true, recurses := true, plainKeys := false, apart := false, narrowed := true }
def IndexNobodyUptoSaid : Prop := indexNobodyUptoRow.holds Tryz.pinned (OpenSpec.upto indexNobodySpec)

/-- 'lotterylaw34.WinnerIndex', WHERE WHAT IT READS IS OF BULK AT MOST 1048576: true; the input reads as it did. -/
def winnerIndexUptoRow : OpenClaim := { program := "ytmocomkobbiflaagreat", sum := "eceb04e8650e44e59ea6814f97edf1f228c0bb81a597892dc37dd477e43b2992", func := "lottery/lotterylaw34.WinnerIndex", spec := "winnerIndex", unfollowed := true, recurses := true, plainKeys := false, apart := false, narrowed := true }
def WinnerIndexUptoSaid : Prop := winnerIndexUptoRow.holds Tryz.pinned (OpenSpec.upto winnerIndexSpec)

end Rows
end Go.Proofs.YtmocomkobbiflaaGreat

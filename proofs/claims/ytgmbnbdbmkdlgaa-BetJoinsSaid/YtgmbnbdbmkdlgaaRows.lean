/-
  No cell of these rows narrows 'for every input' (looked for: loops, veiled, ifaces, maps, wideKeys, modest, calm, conditions, laid).
  DERIVED. THE GIVEN ROWS OF THIS SEAT. 7 by the template 'for every input the law returns true; each argument reads behind the call as it read before'; 0 by the template 'total and deterministic' (their statements: YtgmbnbdbmkdlgaaTotals.lean).
  GIVEN WITH THE SEED: the statements are not yours to turn. If you find one false, say at which input.
  Laid BY PROGRAM, IN A SANDBOX (cutbox-rows.mjs): the forced cells as the released guide's own fill.sh prints them over the translation aaf0ebbe26a1eb12… (all of the seat's roots in one cut). By AI agents, Wed Nov 11 2026. No macro, syntax, notation, axiom, sorry.
-/
import Derived.Test.YtgmbnbdbmkdlgaaChecked
import GoSem.Claim
import GoSem.ClaimJoined
import GoSem.ClaimMapViews
import Derived.JoinedTies
import Derived.KernelRfl
namespace Go.Proofs.Ytgmbnbdbmkdlgaa
/- THE CELL 'sum', in the pinned program and in every row, IS THE sha256 OF THE DUMP (.gsa) THAT YtgmbnbdbmkdlgaaProg.lean LOADS. Nothing in Lean hashes anything: it is a label: what it is worth is what the hold of that sum in a sandbox is worth. -/
noncomputable def Try.pinned : Pinned := { name := "ytgmbnbdbmkdlgaa", sum := "aaf0ebbe26a1eb12be3733ca0fe4c49d78e52c8c4a473973d2b6f43c12113805", checked := Try.checked }
namespace Rows
def none {H : Type} : Left H := { results := [], args := [] }

/-- 'lotterylaw15.SystemExpands': WHATEVER THE INPUT: true; the input reads as it did. -/
def systemExpandsSpec : ChangeSpec := { name := "systemExpands", fn := fun _ => fun
  | [d1, d2] => { results := [.lit (.bool true)], args := [d1, d2] }
  | _ => none }
def systemExpandsRow : OpenClaim := { program := "ytgmbnbdbmkdlgaa", sum := "aaf0ebbe26a1eb12be3733ca0fe4c49d78e52c8c4a473973d2b6f43c12113805", func := "lottery/lotterylaw15.SystemExpands", spec := "systemExpands", unfollowed := true, recurses := true, apart := false }
def SystemExpandsSaid : Prop := systemExpandsRow.holds Try.pinned (OpenSpec.ofChange systemExpandsSpec)

/-- ITS FALSE NEIGHBOUR: 'it returns false'. Refute it at one input. -/
def systemExpandsWrong : ChangeSpec := { name := "systemExpands", fn := fun _ => fun
  | [d1, d2] => { results := [.lit (.bool false)], args := [d1, d2] }
  | _ => none }
def SystemExpandsWrongFalsely : Prop := systemExpandsRow.holds Try.pinned (OpenSpec.ofChange systemExpandsWrong)

/-- 'lotterylaw15.SystemCovers': WHATEVER THE INPUT: true; the input reads as it did. -/
def systemCoversSpec : ChangeSpec := { name := "systemCovers", fn := fun _ => fun
  | [d1, d2, d3] => { results := [.lit (.bool true)], args := [d1, d2, d3] }
  | _ => none }
def systemCoversRow : OpenClaim := { program := "ytgmbnbdbmkdlgaa", sum := "aaf0ebbe26a1eb12be3733ca0fe4c49d78e52c8c4a473973d2b6f43c12113805", func := "lottery/lotterylaw15.SystemCovers", spec := "systemCovers", unfollowed := true, recurses := true, apart := false }
def SystemCoversSaid : Prop := systemCoversRow.holds Try.pinned (OpenSpec.ofChange systemCoversSpec)

/-- ITS FALSE NEIGHBOUR: 'it returns false'. Refute it at one input. -/
def systemCoversWrong : ChangeSpec := { name := "systemCovers", fn := fun _ => fun
  | [d1, d2, d3] => { results := [.lit (.bool false)], args := [d1, d2, d3] }
  | _ => none }
def SystemCoversWrongFalsely : Prop := systemCoversRow.holds Try.pinned (OpenSpec.ofChange systemCoversWrong)

/-- 'lotterylaw15.SystemLines': WHATEVER THE INPUT: true; the input reads as it did. -/
def systemLinesSpec : ChangeSpec := { name := "systemLines", fn := fun _ => fun
  | [d1, d2] => { results := [.lit (.bool true)], args := [d1, d2] }
  | _ => none }
def systemLinesRow : OpenClaim := { program := "ytgmbnbdbmkdlgaa", sum := "aaf0ebbe26a1eb12be3733ca0fe4c49d78e52c8c4a473973d2b6f43c12113805", func := "lottery/lotterylaw15.SystemLines", spec := "systemLines", unfollowed := true, recurses := true, apart := false }
def SystemLinesSaid : Prop := systemLinesRow.holds Try.pinned (OpenSpec.ofChange systemLinesSpec)

/-- ITS FALSE NEIGHBOUR: 'it returns false'. Refute it at one input. -/
def systemLinesWrong : ChangeSpec := { name := "systemLines", fn := fun _ => fun
  | [d1, d2] => { results := [.lit (.bool false)], args := [d1, d2] }
  | _ => none }
def SystemLinesWrongFalsely : Prop := systemLinesRow.holds Try.pinned (OpenSpec.ofChange systemLinesWrong)

/-- 'lotterylaw16.BetPrices': WHATEVER THE INPUT: true; the input reads as it did. -/
def betPricesSpec : ChangeSpec := { name := "betPrices", fn := fun _ => fun
  | [d1, d2] => { results := [.lit (.bool true)], args := [d1, d2] }
  | _ => none }
def betPricesRow : OpenClaim := { program := "ytgmbnbdbmkdlgaa", sum := "aaf0ebbe26a1eb12be3733ca0fe4c49d78e52c8c4a473973d2b6f43c12113805", func := "lottery/lotterylaw16.BetPrices", spec := "betPrices", unfollowed := true, recurses := true, apart := false }
def BetPricesSaid : Prop := betPricesRow.holds Try.pinned (OpenSpec.ofChange betPricesSpec)

/-- ITS FALSE NEIGHBOUR: 'it returns false'. Refute it at one input. -/
def betPricesWrong : ChangeSpec := { name := "betPrices", fn := fun _ => fun
  | [d1, d2] => { results := [.lit (.bool false)], args := [d1, d2] }
  | _ => none }
def BetPricesWrongFalsely : Prop := betPricesRow.holds Try.pinned (OpenSpec.ofChange betPricesWrong)

/-- 'lotterylaw16.BetValid': WHATEVER THE INPUT: true; the input reads as it did. -/
def betValidSpec : ChangeSpec := { name := "betValid", fn := fun _ => fun
  | [d1, d2] => { results := [.lit (.bool true)], args := [d1, d2] }
  | _ => none }
def betValidRow : OpenClaim := { program := "ytgmbnbdbmkdlgaa", sum := "aaf0ebbe26a1eb12be3733ca0fe4c49d78e52c8c4a473973d2b6f43c12113805", func := "lottery/lotterylaw16.BetValid", spec := "betValid", unfollowed := true, recurses := true, apart := false }
def BetValidSaid : Prop := betValidRow.holds Try.pinned (OpenSpec.ofChange betValidSpec)

/-- ITS FALSE NEIGHBOUR: 'it returns false'. Refute it at one input. -/
def betValidWrong : ChangeSpec := { name := "betValid", fn := fun _ => fun
  | [d1, d2] => { results := [.lit (.bool false)], args := [d1, d2] }
  | _ => none }
def BetValidWrongFalsely : Prop := betValidRow.holds Try.pinned (OpenSpec.ofChange betValidWrong)

/-- 'lotterylaw16.BetOrders': WHATEVER THE INPUT: true; the input reads as it did. -/
def betOrdersSpec : ChangeSpec := { name := "betOrders", fn := fun _ => fun
  | [d1, d2] => { results := [.lit (.bool true)], args := [d1, d2] }
  | _ => none }
def betOrdersRow : OpenClaim := { program := "ytgmbnbdbmkdlgaa", sum := "aaf0ebbe26a1eb12be3733ca0fe4c49d78e52c8c4a473973d2b6f43c12113805", func := "lottery/lotterylaw16.BetOrders", spec := "betOrders", unfollowed := true, recurses := true, apart := false }
def BetOrdersSaid : Prop := betOrdersRow.holds Try.pinned (OpenSpec.ofChange betOrdersSpec)

/-- ITS FALSE NEIGHBOUR: 'it returns false'. Refute it at one input. -/
def betOrdersWrong : ChangeSpec := { name := "betOrders", fn := fun _ => fun
  | [d1, d2] => { results := [.lit (.bool false)], args := [d1, d2] }
  | _ => none }
def BetOrdersWrongFalsely : Prop := betOrdersRow.holds Try.pinned (OpenSpec.ofChange betOrdersWrong)

/-- 'lotterylaw16.BetJoins': WHATEVER THE INPUT: true; the input reads as it did. -/
def betJoinsSpec : ChangeSpec := { name := "betJoins", fn := fun _ => fun
  | [d1, d2] => { results := [.lit (.bool true)], args := [d1, d2] }
  | _ => none }
def betJoinsRow : OpenClaim := { program := "ytgmbnbdbmkdlgaa", sum := "aaf0ebbe26a1eb12be3733ca0fe4c49d78e52c8c4a473973d2b6f43c12113805", func := "lottery/lotterylaw16.BetJoins", spec := "betJoins", unfollowed := true, recurses := true, apart := false }
def BetJoinsSaid : Prop := betJoinsRow.holds Try.pinned (OpenSpec.ofChange betJoinsSpec)

/-- ITS FALSE NEIGHBOUR: 'it returns false'. Refute it at one input. -/
def betJoinsWrong : ChangeSpec := { name := "betJoins", fn := fun _ => fun
  | [d1, d2] => { results := [.lit (.bool false)], args := [d1, d2] }
  | _ => none }
def BetJoinsWrongFalsely : Prop := betJoinsRow.holds Try.pinned (OpenSpec.ofChange betJoinsWrong)

/- THE SECOND FORM. 'bulk': how many values and letters a reading holds, each counted each time it is reached (what is shared counts as often as it is met; a slice's spare places count too). A statement '..UptoSaid' is the law's where the arguments, and the package variables that the reading takes, are together of bulk at most 1048576: NARROWER than '..Said'. Prove '..Said' where nothing that the law and all that it calls make is longer than what came in: it says more and counts as full. Else prove '..UptoSaid'. A law counts once. -/
mutual
def uptoBulk {H : Type} : DataW H → Nat
  | .lit (.string bytes) => bytes.length + 1
  | .lit _ => 1
  | .nil => 1
  | .ptr d => uptoBulk d + 1
  | .slice elems spare => uptoBulkAll elems + uptoBulkAll spare + 1
  | .agg parts => uptoBulkAll parts + 1
  | .iface _ d => uptoBulk d + 1
  | .map entries => uptoBulkEntries entries + 1
  | .held _ => 1
def uptoBulkAll {H : Type} : List (DataW H) → Nat
  | [] => 0
  | d :: r => uptoBulk d + uptoBulkAll r
def uptoBulkEntries {H : Type} : List (Lit × DataW H) → Nat
  | [] => 0
  | x :: r => uptoBulkEntry x + uptoBulkEntries r
def uptoBulkEntry {H : Type} : Lit × DataW H → Nat
  | (.string bytes, d) => bytes.length + uptoBulk d + 1
  | (_, d) => uptoBulk d + 1
 end
def uptoSmall : (H : Type) → List (DataW H) → Bool := fun _ ds => decide (uptoBulkAll ds ≤ 1048576)
def OpenSpec.upto (s : _root_.Go.ChangeSpec) : _root_.Go.OpenSpec := { _root_.Go.OpenSpec.ofChange s with cond := some uptoSmall }

/-- 'lotterylaw15.SystemExpands', WHERE WHAT IT READS IS OF BULK AT MOST 1048576: true; the input reads as it did. -/
def systemExpandsUptoRow : OpenClaim := { program := "ytgmbnbdbmkdlgaa", sum := "aaf0ebbe26a1eb12be3733ca0fe4c49d78e52c8c4a473973d2b6f43c12113805", func := "lottery/lotterylaw15.SystemExpands", spec := "systemExpands", unfollowed := true, recurses := true, apart := false, narrowed := true }
def SystemExpandsUptoSaid : Prop := systemExpandsUptoRow.holds Try.pinned (OpenSpec.upto systemExpandsSpec)

/-- 'lotterylaw15.SystemCovers', WHERE WHAT IT READS IS OF BULK AT MOST 1048576: true; the input reads as it did. -/
def systemCoversUptoRow : OpenClaim := { program := "ytgmbnbdbmkdlgaa", sum := "aaf0ebbe26a1eb12be3733ca0fe4c49d78e52c8c4a473973d2b6f43c12113805", func := "lottery/lotterylaw15.SystemCovers", spec := "systemCovers", unfollowed := true, recurses := true, apart := false, narrowed := true }
def SystemCoversUptoSaid : Prop := systemCoversUptoRow.holds Try.pinned (OpenSpec.upto systemCoversSpec)

/-- 'lotterylaw15.SystemLines', WHERE WHAT IT READS IS OF BULK AT MOST 1048576: true; the input reads as it did. -/
def systemLinesUptoRow : OpenClaim := { program := "ytgmbnbdbmkdlgaa", sum := "aaf0ebbe26a1eb12be3733ca0fe4c49d78e52c8c4a473973d2b6f43c12113805", func := "lottery/lotterylaw15.SystemLines", spec := "systemLines", unfollowed := true, recurses := true, apart := false, narrowed := true }
def SystemLinesUptoSaid : Prop := systemLinesUptoRow.holds Try.pinned (OpenSpec.upto systemLinesSpec)

/-- 'lotterylaw16.BetPrices', WHERE WHAT IT READS IS OF BULK AT MOST 1048576: true; the input reads as it did. -/
def betPricesUptoRow : OpenClaim := { program := "ytgmbnbdbmkdlgaa", sum := "aaf0ebbe26a1eb12be3733ca0fe4c49d78e52c8c4a473973d2b6f43c12113805", func := "lottery/lotterylaw16.BetPrices", spec := "betPrices", unfollowed := true, recurses := true, apart := false, narrowed := true }
def BetPricesUptoSaid : Prop := betPricesUptoRow.holds Try.pinned (OpenSpec.upto betPricesSpec)

/-- 'lotterylaw16.BetValid', WHERE WHAT IT READS IS OF BULK AT MOST 1048576: true; the input reads as it did. -/
def betValidUptoRow : OpenClaim := { program := "ytgmbnbdbmkdlgaa", sum := "aaf0ebbe26a1eb12be3733ca0fe4c49d78e52c8c4a473973d2b6f43c12113805", func := "lottery/lotterylaw16.BetValid", spec := "betValid", unfollowed := true, recurses := true, apart := false, narrowed := true }
def BetValidUptoSaid : Prop := betValidUptoRow.holds Try.pinned (OpenSpec.upto betValidSpec)

/-- 'lotterylaw16.BetOrders', WHERE WHAT IT READS IS OF BULK AT MOST 1048576: true; the input reads as it did. -/
def betOrdersUptoRow : OpenClaim := { program := "ytgmbnbdbmkdlgaa", sum := "aaf0ebbe26a1eb12be3733ca0fe4c49d78e52c8c4a473973d2b6f43c12113805", func := "lottery/lotterylaw16.BetOrders", spec := "betOrders", unfollowed := true, recurses := true, apart := false, narrowed := true }
def BetOrdersUptoSaid : Prop := betOrdersUptoRow.holds Try.pinned (OpenSpec.upto betOrdersSpec)

/-- 'lotterylaw16.BetJoins', WHERE WHAT IT READS IS OF BULK AT MOST 1048576: true; the input reads as it did. -/
def betJoinsUptoRow : OpenClaim := { program := "ytgmbnbdbmkdlgaa", sum := "aaf0ebbe26a1eb12be3733ca0fe4c49d78e52c8c4a473973d2b6f43c12113805", func := "lottery/lotterylaw16.BetJoins", spec := "betJoins", unfollowed := true, recurses := true, apart := false, narrowed := true }
def BetJoinsUptoSaid : Prop := betJoinsUptoRow.holds Try.pinned (OpenSpec.upto betJoinsSpec)

end Rows
end Go.Proofs.Ytgmbnbdbmkdlgaa

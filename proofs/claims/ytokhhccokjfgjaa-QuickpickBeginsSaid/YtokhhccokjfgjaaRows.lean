/-
  No cell of these rows narrows 'for every input' (looked for: loops, veiled, ifaces, maps, wideKeys, modest, calm, conditions, laid).
  DERIVED. THE GIVEN ROWS OF THIS SEAT. 8 by the template 'for every input the law returns true; each argument reads behind the call as it read before'; 0 by the template 'total and deterministic' (their statements: YtokhhccokjfgjaaTotals.lean).
  GIVEN WITH THE SEED: the statements are not yours to turn. If you find one false, say at which input.
  Laid BY PROGRAM, IN A SANDBOX (cutbox-rows.mjs): the forced cells as the released guide's own fill.sh prints them over the translation 8e7540c90a950754… (all of the seat's roots in one cut). By AI agents, Wed Nov 11 2026. No macro, syntax, notation, axiom, sorry.
-/
import Derived.Test.YtokhhccokjfgjaaChecked
import GoSem.Claim
import GoSem.ClaimJoined
import GoSem.ClaimMapViews
import Derived.JoinedTies
import Derived.KernelRfl
namespace Go.Proofs.Ytokhhccokjfgjaa
/- THE CELL 'sum', in the pinned program and in every row, IS THE sha256 OF THE DUMP (.gsa) THAT YtokhhccokjfgjaaProg.lean LOADS. Nothing in Lean hashes anything: it is a label: what it is worth is what the hold of that sum in a sandbox is worth. -/
noncomputable def Try.pinned : Pinned := { name := "ytokhhccokjfgjaa", sum := "8e7540c90a950754ccb6e713be1bd945e5a97cd5e414000cb63b4691b7eb8c67", checked := Try.checked }
namespace Rows
def none {H : Type} : Left H := { results := [], args := [] }

/-- 'lotterylaw15.SystemExpands': WHATEVER THE INPUT: true; the input reads as it did. -/
def systemExpandsSpec : ChangeSpec := { name := "systemExpands", fn := fun _ => fun
  | [d1, d2] => { results := [.lit (.bool true)], args := [d1, d2] }
  | _ => none }
def systemExpandsRow : OpenClaim := { program := "ytokhhccokjfgjaa", sum := "8e7540c90a950754ccb6e713be1bd945e5a97cd5e414000cb63b4691b7eb8c67", func := "lottery/lotterylaw15.SystemExpands", spec := "systemExpands", unfollowed := true, recurses := true, apart := false }
def SystemExpandsSaid : Prop := systemExpandsRow.holds Try.pinned (OpenSpec.ofChange systemExpandsSpec)

/-- ITS FALSE NEIGHBOUR: 'it returns false'. Refute it at one input. -/
def systemExpandsWrong : ChangeSpec := { name := "systemExpands", fn := fun _ => fun
  | [d1, d2] => { results := [.lit (.bool false)], args := [d1, d2] }
  | _ => none }
def SystemExpandsWrongFalsely : Prop := systemExpandsRow.holds Try.pinned (OpenSpec.ofChange systemExpandsWrong)

/-- 'lotterylaw14.QuickpickBegins': WHATEVER THE INPUT: true; the input reads as it did. -/
def quickpickBeginsSpec : ChangeSpec := { name := "quickpickBegins", fn := fun _ => fun
  | [d1, d2, d3] => { results := [.lit (.bool true)], args := [d1, d2, d3] }
  | _ => none }
def quickpickBeginsRow : OpenClaim := { program := "ytokhhccokjfgjaa", sum := "8e7540c90a950754ccb6e713be1bd945e5a97cd5e414000cb63b4691b7eb8c67", func := "lottery/lotterylaw14.QuickpickBegins", spec := "quickpickBegins", unfollowed := true, recurses := true, apart := false }
def QuickpickBeginsSaid : Prop := quickpickBeginsRow.holds Try.pinned (OpenSpec.ofChange quickpickBeginsSpec)

/-- ITS FALSE NEIGHBOUR: 'it returns false'. Refute it at one input. -/
def quickpickBeginsWrong : ChangeSpec := { name := "quickpickBegins", fn := fun _ => fun
  | [d1, d2, d3] => { results := [.lit (.bool false)], args := [d1, d2, d3] }
  | _ => none }
def QuickpickBeginsWrongFalsely : Prop := quickpickBeginsRow.holds Try.pinned (OpenSpec.ofChange quickpickBeginsWrong)

/-- 'lotterylaw14.QuickpickDigits': WHATEVER THE INPUT: true; the input reads as it did. -/
def quickpickDigitsSpec : ChangeSpec := { name := "quickpickDigits", fn := fun _ => fun
  | [d1, d2] => { results := [.lit (.bool true)], args := [d1, d2] }
  | _ => none }
def quickpickDigitsRow : OpenClaim := { program := "ytokhhccokjfgjaa", sum := "8e7540c90a950754ccb6e713be1bd945e5a97cd5e414000cb63b4691b7eb8c67", func := "lottery/lotterylaw14.QuickpickDigits", spec := "quickpickDigits", unfollowed := true, recurses := true, apart := false }
def QuickpickDigitsSaid : Prop := quickpickDigitsRow.holds Try.pinned (OpenSpec.ofChange quickpickDigitsSpec)

/-- ITS FALSE NEIGHBOUR: 'it returns false'. Refute it at one input. -/
def quickpickDigitsWrong : ChangeSpec := { name := "quickpickDigits", fn := fun _ => fun
  | [d1, d2] => { results := [.lit (.bool false)], args := [d1, d2] }
  | _ => none }
def QuickpickDigitsWrongFalsely : Prop := quickpickDigitsRow.holds Try.pinned (OpenSpec.ofChange quickpickDigitsWrong)

/-- 'lotterylaw14.QuickpickNobody': WHATEVER THE INPUT: true; the input reads as it did. -/
def quickpickNobodySpec : ChangeSpec := { name := "quickpickNobody", fn := fun _ => fun
  | [d1, d2] => { results := [.lit (.bool true)], args := [d1, d2] }
  | _ => none }
def quickpickNobodyRow : OpenClaim := { program := "ytokhhccokjfgjaa", sum := "8e7540c90a950754ccb6e713be1bd945e5a97cd5e414000cb63b4691b7eb8c67", func := "lottery/lotterylaw14.QuickpickNobody", spec := "quickpickNobody", unfollowed := true, recurses := true, apart := false }
def QuickpickNobodySaid : Prop := quickpickNobodyRow.holds Try.pinned (OpenSpec.ofChange quickpickNobodySpec)

/-- ITS FALSE NEIGHBOUR: 'it returns false'. Refute it at one input. -/
def quickpickNobodyWrong : ChangeSpec := { name := "quickpickNobody", fn := fun _ => fun
  | [d1, d2] => { results := [.lit (.bool false)], args := [d1, d2] }
  | _ => none }
def QuickpickNobodyWrongFalsely : Prop := quickpickNobodyRow.holds Try.pinned (OpenSpec.ofChange quickpickNobodyWrong)

/-- 'lotterylaw14.QuickpickSerials': WHATEVER THE INPUT: true; the input reads as it did. -/
def quickpickSerialsSpec : ChangeSpec := { name := "quickpickSerials", fn := fun _ => fun
  | [d1, d2] => { results := [.lit (.bool true)], args := [d1, d2] }
  | _ => none }
def quickpickSerialsRow : OpenClaim := { program := "ytokhhccokjfgjaa", sum := "8e7540c90a950754ccb6e713be1bd945e5a97cd5e414000cb63b4691b7eb8c67", func := "lottery/lotterylaw14.QuickpickSerials", spec := "quickpickSerials", unfollowed := true, recurses := true, apart := false }
def QuickpickSerialsSaid : Prop := quickpickSerialsRow.holds Try.pinned (OpenSpec.ofChange quickpickSerialsSpec)

/-- ITS FALSE NEIGHBOUR: 'it returns false'. Refute it at one input. -/
def quickpickSerialsWrong : ChangeSpec := { name := "quickpickSerials", fn := fun _ => fun
  | [d1, d2] => { results := [.lit (.bool false)], args := [d1, d2] }
  | _ => none }
def QuickpickSerialsWrongFalsely : Prop := quickpickSerialsRow.holds Try.pinned (OpenSpec.ofChange quickpickSerialsWrong)

/-- 'lotterylaw15.SystemCovers': WHATEVER THE INPUT: true; the input reads as it did. -/
def systemCoversSpec : ChangeSpec := { name := "systemCovers", fn := fun _ => fun
  | [d1, d2, d3] => { results := [.lit (.bool true)], args := [d1, d2, d3] }
  | _ => none }
def systemCoversRow : OpenClaim := { program := "ytokhhccokjfgjaa", sum := "8e7540c90a950754ccb6e713be1bd945e5a97cd5e414000cb63b4691b7eb8c67", func := "lottery/lotterylaw15.SystemCovers", spec := "systemCovers", unfollowed := true, recurses := true, apart := false }
def SystemCoversSaid : Prop := systemCoversRow.holds Try.pinned (OpenSpec.ofChange systemCoversSpec)

/-- ITS FALSE NEIGHBOUR: 'it returns false'. Refute it at one input. -/
def systemCoversWrong : ChangeSpec := { name := "systemCovers", fn := fun _ => fun
  | [d1, d2, d3] => { results := [.lit (.bool false)], args := [d1, d2, d3] }
  | _ => none }
def SystemCoversWrongFalsely : Prop := systemCoversRow.holds Try.pinned (OpenSpec.ofChange systemCoversWrong)

/-- 'lotterylaw14.QuickpickValid': WHATEVER THE INPUT: true; the input reads as it did. -/
def quickpickValidSpec : ChangeSpec := { name := "quickpickValid", fn := fun _ => fun
  | [d1, d2, d3] => { results := [.lit (.bool true)], args := [d1, d2, d3] }
  | _ => none }
def quickpickValidRow : OpenClaim := { program := "ytokhhccokjfgjaa", sum := "8e7540c90a950754ccb6e713be1bd945e5a97cd5e414000cb63b4691b7eb8c67", func := "lottery/lotterylaw14.QuickpickValid", spec := "quickpickValid", unfollowed := true, recurses := true, apart := false }
def QuickpickValidSaid : Prop := quickpickValidRow.holds Try.pinned (OpenSpec.ofChange quickpickValidSpec)

/-- ITS FALSE NEIGHBOUR: 'it returns false'. Refute it at one input. -/
def quickpickValidWrong : ChangeSpec := { name := "quickpickValid", fn := fun _ => fun
  | [d1, d2, d3] => { results := [.lit (.bool false)], args := [d1, d2, d3] }
  | _ => none }
def QuickpickValidWrongFalsely : Prop := quickpickValidRow.holds Try.pinned (OpenSpec.ofChange quickpickValidWrong)

/-- 'lotterylaw15.SystemLines': WHATEVER THE INPUT: true; the input reads as it did. -/
def systemLinesSpec : ChangeSpec := { name := "systemLines", fn := fun _ => fun
  | [d1, d2] => { results := [.lit (.bool true)], args := [d1, d2] }
  | _ => none }
def systemLinesRow : OpenClaim := { program := "ytokhhccokjfgjaa", sum := "8e7540c90a950754ccb6e713be1bd945e5a97cd5e414000cb63b4691b7eb8c67", func := "lottery/lotterylaw15.SystemLines", spec := "systemLines", unfollowed := true, recurses := true, apart := false }
def SystemLinesSaid : Prop := systemLinesRow.holds Try.pinned (OpenSpec.ofChange systemLinesSpec)

/-- ITS FALSE NEIGHBOUR: 'it returns false'. Refute it at one input. -/
def systemLinesWrong : ChangeSpec := { name := "systemLines", fn := fun _ => fun
  | [d1, d2] => { results := [.lit (.bool false)], args := [d1, d2] }
  | _ => none }
def SystemLinesWrongFalsely : Prop := systemLinesRow.holds Try.pinned (OpenSpec.ofChange systemLinesWrong)

/- THE SECOND FORM. 'bulk': how many values and letters a reading holds, each counted each time it is reached (what is shared counts as often as it is met; a slice's spare places count too). A statement '..UptoSaid' is the law's where the arguments, and the package variables that the reading takes, are together of bulk at most 1048576: NARROWER than '..Said'. Prove '..Said' where nothing that the law and all that it calls make is longer than what came in: it says more and counts as full. Else prove '..UptoSaid'. A law counts once. -/
mutual
def uptoBulk {H : Type} : DataW H → Nat
  | .lit (.string bytes) => bytes.length + 1
  | .lit _ => 1
  | .nil => 1
  | .ptr d => uptoBulk d + 1
  | .slice elems spare => uptoBulkAll elems + uptoBulkAll spare + 1
  | .agg parts => uptoBulkAll parts + 1
  | .iface _ d => uptoBulk d + 1
  | .map entries => uptoBulkEntries entries + 1
  | .held _ => 1
def uptoBulkAll {H : Type} : List (DataW H) → Nat
  | [] => 0
  | d :: r => uptoBulk d + uptoBulkAll r
def uptoBulkEntries {H : Type} : List (Lit × DataW H) → Nat
  | [] => 0
  | x :: r => uptoBulkEntry x + uptoBulkEntries r
def uptoBulkEntry {H : Type} : Lit × DataW H → Nat
  | (.string bytes, d) => bytes.length + uptoBulk d + 1
  | (_, d) => uptoBulk d + 1
 end
def uptoSmall : (H : Type) → List (DataW H) → Bool := fun _ ds => decide (uptoBulkAll ds ≤ 1048576)
def OpenSpec.upto (s : _root_.Go.ChangeSpec) : _root_.Go.OpenSpec := { _root_.Go.OpenSpec.ofChange s with cond := some uptoSmall }

/-- 'lotterylaw15.SystemExpands', WHERE WHAT IT READS IS OF BULK AT MOST 1048576: true; the input reads as it did. -/
def systemExpandsUptoRow : OpenClaim := { program := "ytokhhccokjfgjaa", sum := "8e7540c90a950754ccb6e713be1bd945e5a97cd5e414000cb63b4691b7eb8c67", func := "lottery/lotterylaw15.SystemExpands", spec := "systemExpands", unfollowed := true, recurses := true, apart := false, narrowed := true }
def SystemExpandsUptoSaid : Prop := systemExpandsUptoRow.holds Try.pinned (OpenSpec.upto systemExpandsSpec)

/-- 'lotterylaw14.QuickpickBegins', WHERE WHAT IT READS IS OF BULK AT MOST 1048576: true; the input reads as it did. -/
def quickpickBeginsUptoRow : OpenClaim := { program := "ytokhhccokjfgjaa", sum := "8e7540c90a950754ccb6e713be1bd945e5a97cd5e414000cb63b4691b7eb8c67", func := "lottery/lotterylaw14.QuickpickBegins", spec := "quickpickBegins", unfollowed := true, recurses := true, apart := false, narrowed := true }
def QuickpickBeginsUptoSaid : Prop := quickpickBeginsUptoRow.holds Try.pinned (OpenSpec.upto quickpickBeginsSpec)

/-- 'lotterylaw14.QuickpickDigits', WHERE WHAT IT READS IS OF BULK AT MOST 1048576: true; the input reads as it did. -/
def quickpickDigitsUptoRow : OpenClaim := { program := "ytokhhccokjfgjaa", sum := "8e7540c90a950754ccb6e713be1bd945e5a97cd5e414000cb63b4691b7eb8c67", func := "lottery/lotterylaw14.QuickpickDigits", spec := "quickpickDigits", unfollowed := true, recurses := true, apart := false, narrowed := true }
def QuickpickDigitsUptoSaid : Prop := quickpickDigitsUptoRow.holds Try.pinned (OpenSpec.upto quickpickDigitsSpec)

/-- 'lotterylaw14.QuickpickNobody', WHERE WHAT IT READS IS OF BULK AT MOST 1048576: true; the input reads as it did. -/
def quickpickNobodyUptoRow : OpenClaim := { program := "ytokhhccokjfgjaa", sum := "8e7540c90a950754ccb6e713be1bd945e5a97cd5e414000cb63b4691b7eb8c67", func := "lottery/lotterylaw14.QuickpickNobody", spec := "quickpickNobody", unfollowed := true, recurses := true, apart := false, narrowed := true }
def QuickpickNobodyUptoSaid : Prop := quickpickNobodyUptoRow.holds Try.pinned (OpenSpec.upto quickpickNobodySpec)

/-- 'lotterylaw14.QuickpickSerials', WHERE WHAT IT READS IS OF BULK AT MOST 1048576: true; the input reads as it did. -/
def quickpickSerialsUptoRow : OpenClaim := { program := "ytokhhccokjfgjaa", sum := "8e7540c90a950754ccb6e713be1bd945e5a97cd5e414000cb63b4691b7eb8c67", func := "lottery/lotterylaw14.QuickpickSerials", spec := "quickpickSerials", unfollowed := true, recurses := true, apart := false, narrowed := true }
def QuickpickSerialsUptoSaid : Prop := quickpickSerialsUptoRow.holds Try.pinned (OpenSpec.upto quickpickSerialsSpec)

/-- 'lotterylaw15.SystemCovers', WHERE WHAT IT READS IS OF BULK AT MOST 1048576: true; the input reads as it did. -/
def systemCoversUptoRow : OpenClaim := { program := "ytokhhccokjfgjaa", sum := "8e7540c90a950754ccb6e713be1bd945e5a97cd5e414000cb63b4691b7eb8c67", func := "lottery/lotterylaw15.SystemCovers", spec := "systemCovers", unfollowed := true, recurses := true, apart := false, narrowed := true }
def SystemCoversUptoSaid : Prop := systemCoversUptoRow.holds Try.pinned (OpenSpec.upto systemCoversSpec)

/-- 'lotterylaw14.QuickpickValid', WHERE WHAT IT READS IS OF BULK AT MOST 1048576: true; the input reads as it did. -/
def quickpickValidUptoRow : OpenClaim := { program := "ytokhhccokjfgjaa", sum := "8e7540c90a950754ccb6e713be1bd945e5a97cd5e414000cb63b4691b7eb8c67", func := "lottery/lotterylaw14.QuickpickValid", spec := "quickpickValid", unfollowed := true, recurses := true, apart := false, narrowed := true }
def QuickpickValidUptoSaid : Prop := quickpickValidUptoRow.holds Try.pinned (OpenSpec.upto quickpickValidSpec)

/-- 'lotterylaw15.SystemLines', WHERE WHAT IT READS IS OF BULK AT MOST 1048576: true; the input reads as it did. -/
def systemLinesUptoRow : OpenClaim := { program := "ytokhhccokjfgjaa", sum := "8e7540c90a950754ccb6e713be1bd945e5a97cd5e414000cb63b4691b7eb8c67", func := "lottery/lotterylaw15.SystemLines", spec := "systemLines", unfollowed := true, recurses := true, apart := false, narrowed := true }
def SystemLinesUptoSaid : Prop := systemLinesUptoRow.holds Try.pinned (OpenSpec.upto systemLinesSpec)

end Rows
end Go.Proofs.Ytokhhccokjfgjaa

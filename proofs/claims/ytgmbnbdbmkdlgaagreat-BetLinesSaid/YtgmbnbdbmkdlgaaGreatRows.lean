/-
  No cell of these rows narrows 'for every input' (looked for: loops, veiled, ifaces, maps, wideKeys, modest, calm, conditions, laid).
  DERIVED. THE GIVEN ROWS OF THIS SEAT. 3 by the template 'for every input the law returns true; each argument reads behind the call as it read before'; 0 by the template 'total and deterministic' (their statements: YtgmbnbdbmkdlgaaGreatTotals.lean).
  GIVEN WITH THE SEED: the statements are not yours to turn. If you find one false, say at which input.
  Laid BY PROGRAM, IN A SANDBOX (cutbox-rows.mjs): the forced cells as the released guide's own fill.sh prints them over the translation 3db7eac5723d7adc… (all of the seat's roots in one cut). By AI agents, Wed Nov 11 2026. No macro, syntax, notation, axiom, sorry.
-/
import Derived.Test.YtgmbnbdbmkdlgaaGreatChecked
import GoSem.Claim
import GoSem.ClaimJoined
import GoSem.ClaimMapViews
import Derived.JoinedTies
import Derived.KernelRfl
namespace Go.Proofs.YtgmbnbdbmkdlgaaGreat
/- THE CELL 'sum', in the pinned program and in every row, IS THE sha256 OF THE DUMP (.gsa) THAT YtgmbnbdbmkdlgaaGreatProg.lean LOADS. Nothing in Lean hashes anything: it is a label: what it is worth is what the hold of that sum in a sandbox is worth. -/
noncomputable def Tryz.pinned : Pinned := { name := "ytgmbnbdbmkdlgaagreat", sum := "3db7eac5723d7adcfc08c16d276f25802e547b918fd3ff00ecaf2715c5744a4a", checked := Tryz.checked }
namespace Rows
def none {H : Type} : Left H := { results := [], args := [] }

/-- 'lotterylaw16.BetChecks': WHATEVER THE INPUT: true; the input reads as it did. -/
def betChecksSpec : ChangeSpec := { name := "betChecks", fn := fun _ => fun
  | [d1, d2] => { results := [.lit (.bool true)], args := [d1, d2] }
  | _ => none }
def betChecksRow : OpenClaim := { program := "ytgmbnbdbmkdlgaagreat", sum := "3db7eac5723d7adcfc08c16d276f25802e547b918fd3ff00ecaf2715c5744a4a", func := "lottery/lotterylaw16.BetChecks", spec := "betChecks", unfollowed := true, recurses := true, apart := false }
def BetChecksSaid : Prop := betChecksRow.holds Tryz.pinned (OpenSpec.ofChange betChecksSpec)

/-- ITS FALSE NEIGHBOUR: 'it returns false'. Refute it at one input. -/
def betChecksWrong : ChangeSpec := { name := "betChecks", fn := fun _ => fun
  | [d1, d2] => { results := [.lit (.bool false)], args := [d1, d2] }
  | _ => none }
def BetChecksWrongFalsely : Prop := betChecksRow.holds Tryz.pinned (OpenSpec.ofChange betChecksWrong)

/-- 'lotterylaw16.BetLines': WHATEVER THE INPUT: true; the input reads as it did. -/
def betLinesSpec : ChangeSpec := { name := "betLines", fn := fun _ => fun
  | [d1, d2] => { results := [.lit (.bool true)], args := [d1, d2] }
  | _ => none }
def betLinesRow : OpenClaim := { program := "ytgmbnbdbmkdlgaagreat", sum := "3db7eac5723d7adcfc08c16d276f25802e547b918fd3ff00ecaf2715c5744a4a", func := "lottery/lotterylaw16.BetLines", spec := "betLines", unfollowed := true, recurses := true, apart := false }
def BetLinesSaid : Prop := betLinesRow.holds Tryz.pinned (OpenSpec.ofChange betLinesSpec)

/-- ITS FALSE NEIGHBOUR: 'it returns false'. Refute it at one input. -/
def betLinesWrong : ChangeSpec := { name := "betLines", fn := fun _ => fun
  | [d1, d2] => { results := [.lit (.bool false)], args := [d1, d2] }
  | _ => none }
def BetLinesWrongFalsely : Prop := betLinesRow.holds Tryz.pinned (OpenSpec.ofChange betLinesWrong)

/-- 'lotterylaw16.BetStakes': WHATEVER THE INPUT: true; the input reads as it did. -/
def betStakesSpec : ChangeSpec := { name := "betStakes", fn := fun _ => fun
  | [d1, d2] => { results := [.lit (.bool true)], args := [d1, d2] }
  | _ => none }
def betStakesRow : OpenClaim := { program := "ytgmbnbdbmkdlgaagreat", sum := "3db7eac5723d7adcfc08c16d276f25802e547b918fd3ff00ecaf2715c5744a4a", func := "lottery/lotterylaw16.BetStakes", spec := "betStakes", unfollowed := true, recurses := true, apart := false }
def BetStakesSaid : Prop := betStakesRow.holds Tryz.pinned (OpenSpec.ofChange betStakesSpec)

/-- ITS FALSE NEIGHBOUR: 'it returns false'. Refute it at one input. -/
def betStakesWrong : ChangeSpec := { name := "betStakes", fn := fun _ => fun
  | [d1, d2] => { results := [.lit (.bool false)], args := [d1, d2] }
  | _ => none }
def BetStakesWrongFalsely : Prop := betStakesRow.holds Tryz.pinned (OpenSpec.ofChange betStakesWrong)

/- THE SECOND FORM. 'bulk': how many values and letters a reading holds, each counted each time it is reached (what is shared counts as often as it is met; a slice's spare places count too). A statement '..UptoSaid' is the law's where the arguments, and the package variables that the reading takes, are together of bulk at most 1048576: NARROWER than '..Said'. Prove '..Said' where nothing that the law and all that it calls make is longer than what came in: it says more and counts as full. Else prove '..UptoSaid'. A law counts once. -/
mutual
def uptoBulk {H : Type} : DataW H → Nat
  | .lit (.string bytes) => bytes.length + 1
  | .lit _ => 1
  | .nil => 1
  | .ptr d => uptoBulk d + 1
  | .slice elems spare => uptoBulkAll elems + uptoBulkAll spare + 1
  | .agg parts => uptoBulkAll parts + 1
  | .iface _ d => uptoBulk d + 1
  | .map entries => uptoBulkEntries entries + 1
  | .held _ => 1
def uptoBulkAll {H : Type} : List (DataW H) → Nat
  | [] => 0
  | d :: r => uptoBulk d + uptoBulkAll r
def uptoBulkEntries {H : Type} : List (Lit × DataW H) → Nat
  | [] => 0
  | x :: r => uptoBulkEntry x + uptoBulkEntries r
def uptoBulkEntry {H : Type} : Lit × DataW H → Nat
  | (.string bytes, d) => bytes.length + uptoBulk d + 1
  | (_, d) => uptoBulk d + 1
 end
def uptoSmall : (H : Type) → List (DataW H) → Bool := fun _ ds => decide (uptoBulkAll ds ≤ 1048576)
def OpenSpec.upto (s : _root_.Go.ChangeSpec) : _root_.Go.OpenSpec := { _root_.Go.OpenSpec.ofChange s with cond := some uptoSmall }

/-- 'lotterylaw16.BetChecks', WHERE WHAT IT READS IS OF BULK AT MOST 1048576: true; the input reads as it did. -/
def betChecksUptoRow : OpenClaim := { program := "ytgmbnbdbmkdlgaagreat", sum := "3db7eac5723d7adcfc08c16d276f25802e547b918fd3ff00ecaf2715c5744a4a", func := "lottery/lotterylaw16.BetChecks", spec := "betChecks", unfollowed := true, recurses := true, apart := false, narrowed := true }
def BetChecksUptoSaid : Prop := betChecksUptoRow.holds Tryz.pinned (OpenSpec.upto betChecksSpec)

/-- 'lotterylaw16.BetLines', WHERE WHAT IT READS IS OF BULK AT MOST 1048576: true; the input reads as it did. -/
def betLinesUptoRow : OpenClaim := { program := "ytgmbnbdbmkdlgaagreat", sum := "3db7eac5723d7adcfc08c16d276f25802e547b918fd3ff00ecaf2715c5744a4a", func := "lottery/lotterylaw16.BetLines", spec := "betLines", unfollowed := true, recurses := true, apart := false, narrowed := true }
def BetLinesUptoSaid : Prop := betLinesUptoRow.holds Tryz.pinned (OpenSpec.upto betLinesSpec)

/-- 'lotterylaw16.BetStakes', WHERE WHAT IT READS IS OF BULK AT MOST 1048576: true; the input reads as it did. -/
def betStakesUptoRow : OpenClaim := { program := "ytgmbnbdbmkdlgaagreat", sum := "3db7eac5723d7adcfc08c16d276f25802e547b918fd3ff00ecaf2715c5744a4a", func := "lottery/lotterylaw16.BetStakes", spec := "betStakes", unfollowed := true, recurses := true, apart := false, narrowed := true }
def BetStakesUptoSaid : Prop := betStakesUptoRow.holds Tryz.pinned (OpenSpec.upto betStakesSpec)

end Rows
end Go.Proofs.YtgmbnbdbmkdlgaaGreat

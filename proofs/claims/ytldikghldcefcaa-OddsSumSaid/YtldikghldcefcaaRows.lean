/-
  No cell of these rows narrows 'for every input' (looked for: loops, veiled, ifaces, maps, wideKeys, modest, calm, conditions, laid).
  DERIVED. THE GIVEN ROWS OF THIS SEAT. 4 by the template 'for every input the law returns true; each argument reads behind the call as it read before'; 0 by the template 'total and deterministic' (their statements: YtldikghldcefcaaTotals.lean).
  GIVEN WITH THE SEED: the statements are not yours to turn. If you find one false, say at which input.
  Laid BY PROGRAM, IN A SANDBOX (cutbox-rows.mjs): the forced cells as the released guide's own fill.sh prints them over the translation c14ed23daeb091a0… (all of the seat's roots in one cut). By AI agents, Wed Nov 11 2026. No macro, syntax, notation, axiom, sorry.
-/
import Derived.Test.YtldikghldcefcaaChecked
import GoSem.Claim
import GoSem.ClaimJoined
import GoSem.ClaimMapViews
import Derived.JoinedTies
import Derived.KernelRfl
namespace Go.Proofs.Ytldikghldcefcaa
/- THE CELL 'sum', in the pinned program and in every row, IS THE sha256 OF THE DUMP (.gsa) THAT YtldikghldcefcaaProg.lean LOADS. Nothing in Lean hashes anything: it is a label: what it is worth is what the hold of that sum in a sandbox is worth. -/
noncomputable def Try.pinned : Pinned := { name := "ytldikghldcefcaa", sum := "c14ed23daeb091a0a5312b158b2a0cc757b812d7c7daec3022b0f7ecdc1166dc", checked := Try.checked }
namespace Rows
def none {H : Type} : Left H := { results := [], args := [] }

/-- 'lotterylaw35.OddsOutcomes': WHATEVER THE INPUT: true; the input reads as it did. -/
def oddsOutcomesSpec : ChangeSpec := { name := "oddsOutcomes", fn := fun _ => fun
  | [d] => { results := [.lit (.bool true)], args := [d] }
  | _ => none }
def oddsOutcomesRow : OpenClaim := { program := "ytldikghldcefcaa", sum := "c14ed23daeb091a0a5312b158b2a0cc757b812d7c7daec3022b0f7ecdc1166dc", func := "lottery/lotterylaw35.OddsOutcomes", spec := "oddsOutcomes", unfollowed := true, recurses := true, apart := false }
def OddsOutcomesSaid : Prop := oddsOutcomesRow.holds Try.pinned (OpenSpec.ofChange oddsOutcomesSpec)

/-- ITS FALSE NEIGHBOUR: 'it returns false'. Refute it at one input. -/
def oddsOutcomesWrong : ChangeSpec := { name := "oddsOutcomes", fn := fun _ => fun
  | [d] => { results := [.lit (.bool false)], args := [d] }
  | _ => none }
def OddsOutcomesWrongFalsely : Prop := oddsOutcomesRow.holds Try.pinned (OpenSpec.ofChange oddsOutcomesWrong)

/-- 'lotterylaw35.OddsSum': WHATEVER THE INPUT: true; the input reads as it did. -/
def oddsSumSpec : ChangeSpec := { name := "oddsSum", fn := fun _ => fun
  | [d] => { results := [.lit (.bool true)], args := [d] }
  | _ => none }
def oddsSumRow : OpenClaim := { program := "ytldikghldcefcaa", sum := "c14ed23daeb091a0a5312b158b2a0cc757b812d7c7daec3022b0f7ecdc1166dc", func := "lottery/lotterylaw35.OddsSum", spec := "oddsSum", unfollowed := true, recurses := true, apart := false }
def OddsSumSaid : Prop := oddsSumRow.holds Try.pinned (OpenSpec.ofChange oddsSumSpec)

/-- ITS FALSE NEIGHBOUR: 'it returns false'. Refute it at one input. -/
def oddsSumWrong : ChangeSpec := { name := "oddsSum", fn := fun _ => fun
  | [d] => { results := [.lit (.bool false)], args := [d] }
  | _ => none }
def OddsSumWrongFalsely : Prop := oddsSumRow.holds Try.pinned (OpenSpec.ofChange oddsSumWrong)

/-- 'lotterylaw35.OddsOrders': WHATEVER THE INPUT: true; the input reads as it did. -/
def oddsOrdersSpec : ChangeSpec := { name := "oddsOrders", fn := fun _ => fun
  | [d1, d2, d3] => { results := [.lit (.bool true)], args := [d1, d2, d3] }
  | _ => none }
def oddsOrdersRow : OpenClaim := { program := "ytldikghldcefcaa", sum := "c14ed23daeb091a0a5312b158b2a0cc757b812d7c7daec3022b0f7ecdc1166dc", func := "lottery/lotterylaw35.OddsOrders", spec := "oddsOrders", unfollowed := true, recurses := true, apart := false }
def OddsOrdersSaid : Prop := oddsOrdersRow.holds Try.pinned (OpenSpec.ofChange oddsOrdersSpec)

/-- ITS FALSE NEIGHBOUR: 'it returns false'. Refute it at one input. -/
def oddsOrdersWrong : ChangeSpec := { name := "oddsOrders", fn := fun _ => fun
  | [d1, d2, d3] => { results := [.lit (.bool false)], args := [d1, d2, d3] }
  | _ => none }
def OddsOrdersWrongFalsely : Prop := oddsOrdersRow.holds Try.pinned (OpenSpec.ofChange oddsOrdersWrong)

/-- 'lotterylaw35.OddsBonus': WHATEVER THE INPUT: true; the input reads as it did. -/
def oddsBonusSpec : ChangeSpec := { name := "oddsBonus", fn := fun _ => fun
  | [d1, d2] => { results := [.lit (.bool true)], args := [d1, d2] }
  | _ => none }
def oddsBonusRow : OpenClaim := { program := "ytldikghldcefcaa", sum := "c14ed23daeb091a0a5312b158b2a0cc757b812d7c7daec3022b0f7ecdc1166dc", func := "lottery/lotterylaw35.OddsBonus", spec := "oddsBonus", unfollowed := true, recurses := true, apart := false }
def OddsBonusSaid : Prop := oddsBonusRow.holds Try.pinned (OpenSpec.ofChange oddsBonusSpec)

/-- ITS FALSE NEIGHBOUR: 'it returns false'. Refute it at one input. -/
def oddsBonusWrong : ChangeSpec := { name := "oddsBonus", fn := fun _ => fun
  | [d1, d2] => { results := [.lit (.bool false)], args := [d1, d2] }
  | _ => none }
def OddsBonusWrongFalsely : Prop := oddsBonusRow.holds Try.pinned (OpenSpec.ofChange oddsBonusWrong)

/- THE SECOND FORM. 'bulk': how many values and letters a reading holds, each counted each time it is reached (what is shared counts as often as it is met; a slice's spare places count too). A statement '..UptoSaid' is the law's where the arguments, and the package variables that the reading takes, are together of bulk at most 1048576: NARROWER than '..Said'. Prove '..Said' where nothing that the law and all that it calls make is longer than what came in: it says more and counts as full. Else prove '..UptoSaid'. A law counts once. -/
mutual
def uptoBulk {H : Type} : DataW H → Nat
  | .lit (.string bytes) => bytes.length + 1
  | .lit _ => 1
  | .nil => 1
  | .ptr d => uptoBulk d + 1
  | .slice elems spare => uptoBulkAll elems + uptoBulkAll spare + 1
  | .agg parts => uptoBulkAll parts + 1
  | .iface _ d => uptoBulk d + 1
  | .map entries => uptoBulkEntries entries + 1
  | .held _ => 1
def uptoBulkAll {H : Type} : List (DataW H) → Nat
  | [] => 0
  | d :: r => uptoBulk d + uptoBulkAll r
def uptoBulkEntries {H : Type} : List (Lit × DataW H) → Nat
  | [] => 0
  | x :: r => uptoBulkEntry x + uptoBulkEntries r
def uptoBulkEntry {H : Type} : Lit × DataW H → Nat
  | (.string bytes, d) => bytes.length + uptoBulk d + 1
  | (_, d) => uptoBulk d + 1
 end
def uptoSmall : (H : Type) → List (DataW H) → Bool := fun _ ds => decide (uptoBulkAll ds ≤ 1048576)
def OpenSpec.upto (s : _root_.Go.ChangeSpec) : _root_.Go.OpenSpec := { _root_.Go.OpenSpec.ofChange s with cond := some uptoSmall }

/-- 'lotterylaw35.OddsOutcomes', WHERE WHAT IT READS IS OF BULK AT MOST 1048576: true; the input reads as it did. -/
def oddsOutcomesUptoRow : OpenClaim := { program := "ytldikghldcefcaa", sum := "c14ed23daeb091a0a5312b158b2a0cc757b812d7c7daec3022b0f7ecdc1166dc", func := "lottery/lotterylaw35.OddsOutcomes", spec := "oddsOutcomes", unfollowed := true, recurses := true, apart := false, narrowed := true }
def OddsOutcomesUptoSaid : Prop := oddsOutcomesUptoRow.holds Try.pinned (OpenSpec.upto oddsOutcomesSpec)

/-- 'lotterylaw35.OddsSum', WHERE WHAT IT READS IS OF BULK AT MOST 1048576: true; the input reads as it did. -/
def oddsSumUptoRow : OpenClaim := { program := "ytldikghldcefcaa", sum := "c14ed23daeb091a0a5312b158b2a0cc757b812d7c7daec3022b0f7ecdc1166dc", func := "lottery/lotterylaw35.OddsSum", spec := "oddsSum", unfollowed := true, recurses := true, apart := false, narrowed := true }
def OddsSumUptoSaid : Prop := oddsSumUptoRow.holds Try.pinned (OpenSpec.upto oddsSumSpec)

/-- 'lotterylaw35.OddsOrders', WHERE WHAT IT READS IS OF BULK AT MOST 1048576: true; the input reads as it did. -/
def oddsOrdersUptoRow : OpenClaim := { program := "ytldikghldcefcaa", sum := "c14ed23daeb091a0a5312b158b2a0cc757b812d7c7daec3022b0f7ecdc1166dc", func := "lottery/lotterylaw35.OddsOrders", spec := "oddsOrders", unfollowed := true, recurses := true, apart := false, narrowed := true }
def OddsOrdersUptoSaid : Prop := oddsOrdersUptoRow.holds Try.pinned (OpenSpec.upto oddsOrdersSpec)

/-- 'lotterylaw35.OddsBonus', WHERE WHAT IT READS IS OF BULK AT MOST 1048576: true; the input reads as it did. -/
def oddsBonusUptoRow : OpenClaim := { program := "ytldikghldcefcaa", sum := "c14ed23daeb091a0a5312b158b2a0cc757b812d7c7daec3022b0f7ecdc1166dc", func := "lottery/lotterylaw35.OddsBonus", spec := "oddsBonus", unfollowed := true, recurses := true, apart := false, narrowed := true }
def OddsBonusUptoSaid : Prop := oddsBonusUptoRow.holds Try.pinned (OpenSpec.upto oddsBonusSpec)

end Rows
end Go.Proofs.Ytldikghldcefcaa

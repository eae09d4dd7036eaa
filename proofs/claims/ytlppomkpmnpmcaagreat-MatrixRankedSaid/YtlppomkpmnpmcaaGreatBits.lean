/- Small laws on uint64 words. -/
import Derived.Test.YtlppomkpmnpmcaaGreatMem
import Derived.Laws.BitsAllLaws
open Go.RowKit
set_option linter.unusedVariables false
set_option linter.unusedSimpArgs false
namespace Go.Proofs.YtlppomkpmnpmcaaGreat
theorem or_shift {x y : Nat} (hx : x < 4294967296) (hy : y < 4294967296) : bits BinOp.or IntKind.u64 ((x : Int) * 4294967296) (y : Int) = ((x * 4294967296 + y : Nat) : Int) := by
  have h := Nat.two_pow_add_eq_or_of_lt (i := 32) (b := y) (by omega) x
  have e : ((x : Int) * 4294967296) = ((x * 4294967296 : Nat) : Int) := by omega
  rw [e, u64_or_nat _ _ (by omega) (by omega)]
  have e2 : x * 4294967296 = 2 ^ 32 * x := by omega
  rw [e2, ← h]
theorem or_high {x y : Nat} (hx : x < 4294967296) (hy : y < 4294967296) : bits BinOp.or IntKind.u64 (x : Int) ((y : Int) * 4294967296) = ((x + 4294967296 * y : Nat) : Int) := by
  have h := Nat.two_pow_add_eq_or_of_lt (i := 32) (b := x) (by omega) y
  have e : ((y : Int) * 4294967296) = ((y * 4294967296 : Nat) : Int) := by omega
  rw [e, u64_or_nat _ _ (by omega) (by omega)]
  have e2 : y * 4294967296 = 2 ^ 32 * y := by omega
  rw [e2, Nat.or_comm, ← h]
  congr 1
  omega
theorem or_zero {y : Nat} (hy : y < 4294967296) : bits BinOp.or IntKind.u64 (0 : Int) (y : Int) = (y : Int) := by
  have := u64_or_nat 0 y (by omega) (by omega)
  rw [Nat.zero_or] at this
  exact this
theorem div_bd {t d : Nat} (h : t / d < 4294967296) : (0 : Int) ≤ (t : Int) / (d : Int) ∧ (t : Int) / (d : Int) < 4294967296 := by
  have e : (t : Int) / (d : Int) = ((t / d : Nat) : Int) := (Int.natCast_ediv t d).symm
  generalize t / d = q at *
  omega
theorem u64_mod {q : Nat} (h : q < 4294967296) : IntKind.u64.wrap (q : Int) % 4294967296 = (q : Int) := by
  rw [IntKind.wrap_u64]; omega
end Go.Proofs.YtlppomkpmnpmcaaGreat

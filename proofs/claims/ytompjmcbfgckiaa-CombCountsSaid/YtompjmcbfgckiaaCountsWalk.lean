/- The walk of the statement CombCounts. -/
import Derived.Test.YtompjmcbfgckiaaRefChoose
open Go.RowKit
set_option linter.unusedVariables false
set_option linter.unusedSimpArgs false
namespace Go.Proofs.Ytompjmcbfgckiaa

set_option maxHeartbeats 4000000 in
set_option maxRecDepth 100000 in
theorem counts_any (n k : Int) (w : World) :
    Calls Try.prog 3 #[.int .i64 n, .int .i64 k] w (BoolB true w) := by
  have c1 := hide (choose_any n k)
  have c2 := hide (rchoose_any n k)
  have c3 := hide (count_any n k)
  have c4 := hide (rcount_any n k)
  obtain ⟨A, hA⟩ : ∃ A, A = (chooseV n k).1 := ⟨_, rfl⟩
  obtain ⟨a, ha⟩ : ∃ a, a = (chooseV n k).2 := ⟨_, rfl⟩
  obtain ⟨C, hC⟩ : ∃ C, C = (countV n k).1 := ⟨_, rfl⟩
  obtain ⟨c, hc⟩ : ∃ c, c = (countV n k).2 := ⟨_, rfl⟩
  rw [← hA, ← ha] at c1 c2
  rw [← hC, ← hc] at c3 c4
  clear hA ha hC hc
  go_enter Try.func3, Try.ntmps3
  go_wp2_with fail
  refine (c1.out _).mono ?_
  rintro e w1 ⟨u1, rfl, hu1, hb1⟩
  obtain ⟨ao1, n1, cp1, rfl⟩ := Rd.shape hu1
  have b1 := Bel.al hb1 (Obj.cells #[Value.slice ao1 n1 cp1] 24)
  have x1 := new_cell w1 (.slice ao1 n1 cp1) 24
  have v1 : NV (w1.alloc (Obj.cells #[Value.slice ao1 n1 cp1] 24)) (.slice ao1 n1 cp1) A := hu1.alloc _
  clear hu1 hb1
  go_wp2_with fail
  refine (c2.out _).mono ?_
  rintro e w2 ⟨u2, rfl, hu2, hb2⟩
  obtain ⟨ao2, n2, cp2, rfl⟩ := Rd.shape hu2
  replace b1 := Bel.al (Bel.to b1 hb2) (Obj.cells #[Value.slice ao2 n2 cp2] 24)
  replace x1 := cell_alloc (Bel.cellOf hb2 x1) (Obj.cells #[Value.slice ao2 n2 cp2] 24)
  replace v1 : NV (w2.alloc (Obj.cells #[Value.slice ao2 n2 cp2] 24)) (.slice ao1 n1 cp1) A := (Rd.below v1 hb2).alloc _
  have x2 := new_cell w2 (.slice ao2 n2 cp2) 24
  have v2 : NV (w2.alloc (Obj.cells #[Value.slice ao2 n2 cp2] 24)) (.slice ao2 n2 cp2) A := hu2.alloc _
  clear hu2 hb2
  go_wp2_with fail
  refine (c3.out _).mono ?_
  rintro e w3 ⟨rfl, hb3⟩
  replace b1 := Bel.to b1 hb3
  replace x1 := Bel.cellOf hb3 x1
  replace x2 := Bel.cellOf hb3 x2
  replace v1 := Rd.below v1 hb3
  replace v2 := Rd.below v2 hb3
  clear hb3
  go_wp2_with fail
  refine (c4.out _).mono ?_
  rintro e w4 ⟨rfl, rfl⟩
  go_wp2_with fail
  refine (same_nats _ _ A A _ v1 v2).mono ?_
  rintro e w6 ⟨rfl, hb6⟩
  rw [decide_eq_true rfl]
  go_wp2_with fail
  refine (awake_any _).mono ?_
  rintro e w8 ⟨rfl, hb8⟩
  go_wp2
  go_ret
  exact ⟨rfl, Bel.to (Bel.to b1 hb6) hb8⟩
end Go.Proofs.Ytompjmcbfgckiaa

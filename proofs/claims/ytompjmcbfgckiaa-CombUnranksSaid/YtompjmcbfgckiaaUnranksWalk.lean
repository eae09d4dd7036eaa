/- The walk of the statement CombUnranks. -/
import Derived.Test.YtompjmcbfgckiaaAwake
import Derived.Test.YtompjmcbfgckiaaRefUnrank
open Go.RowKit
set_option linter.unusedVariables false
set_option linter.unusedSimpArgs false
namespace Go.Proofs.Ytompjmcbfgckiaa

set_option maxHeartbeats 1000000 in
theorem unranks_any (r n k : Int) (w : World) : Calls Try.prog 6 #[.int .i64 r, .int .i64 n, .int .i64 k] w (BoolB true w) := by
  have h1 := hide (fun w => unrank_any r n k w)
  have h2 := hide (fun w => runrank_any r n k w)
  obtain ⟨l, c, hv⟩ : ∃ l c, unrankV r n k = (l, c) := ⟨_, _, rfl⟩
  rw [hv] at h1 h2
  clear hv
  go_enter Try.func6, Try.ntmps6
  go_wp2_with fail
  refine (h1.out w).mono ?_
  rintro e w1 ⟨u1, rfl, hu1, hb1⟩
  obtain ⟨a1, c1, rfl, -, -, -⟩ := Rd.form hu1
  go_wp2_with fail
  refine (h2.out w1).mono ?_
  rintro e w2 ⟨u2, rfl, hu2, hb2⟩
  obtain ⟨a2, c2, rfl, -, -, -⟩ := Rd.form hu2
  go_wp2_with fail
  refine (same_ints _ _ l l _ (hu1.below hb2) hu2).mono ?_
  rintro e w3 ⟨rfl, hb3⟩
  rw [decide_eq_true rfl]
  go_wp2_with fail
  refine (awake_any _).mono ?_
  rintro e w4 ⟨rfl, hb4⟩
  go_wp2
  go_ret
  exact ⟨rfl, Bel.to (Bel.to (Bel.to hb1 hb2) hb3) hb4⟩
end Go.Proofs.Ytompjmcbfgckiaa

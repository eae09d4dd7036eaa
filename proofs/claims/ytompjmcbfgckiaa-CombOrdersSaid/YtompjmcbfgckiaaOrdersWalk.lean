/- The walk of the statement CombOrders. -/
import Derived.Test.YtompjmcbfgckiaaAwake
import Derived.Test.YtompjmcbfgckiaaRefNext
open Go.RowKit
set_option linter.unusedVariables false
set_option linter.unusedSimpArgs false
namespace Go.Proofs.Ytompjmcbfgckiaa

set_option maxHeartbeats 2000000 in
theorem orders_any (v : Value) (l : List Int) (n : Int) (w : World) (h : Rd I64 w v l) : Calls Try.prog 5 #[v, .int .i64 n] w (BoolB true w) := by
  obtain ⟨ao, cap, rfl, hlc, hcm, hr⟩ := Rd.form h
  have hcm' : cap ≤ 9223372036854775807 := by unfold maxLen at hcm; omega
  clear h
  by_cases hl : 200 < l.length
  · go_enter Try.func5, Try.ntmps5
    go_wp2_with fail
    refine (awake_any _).mono ?_
    rintro e w4 ⟨rfl, hb4⟩
    go_wp2
    go_ret
    exact ⟨rfl, hb4⟩
  · have h1 := hide (fun w hr => rank_any (.slice ao l.length cap) l n w hr)
    have h2 := hide (fun w hr => rrank_any (.slice ao l.length cap) l n w hr)
    have h3 := hide (fun w hr => next_any (.slice ao l.length cap) l n w hr)
    have h4 := hide (fun w hr => rnext_any (.slice ao l.length cap) l n w hr)
    obtain ⟨x, c, hv⟩ : ∃ x c, rankV n l = (x, c) := ⟨_, _, rfl⟩
    rw [hv] at h1 h2
    clear hv
    obtain ⟨m, b, hv⟩ : ∃ m b, nextV l n = (m, b) := ⟨_, _, rfl⟩
    rw [hv] at h3 h4
    clear hv
    go_enter Try.func5, Try.ntmps5
    go_wp2_with fail
    refine (h1.out w hr).mono ?_
    rintro e w1 ⟨rfl, hb1⟩
    have hr1 := hr.below hb1
    go_wp2_with fail
    refine (h2.out w1 hr1).mono ?_
    rintro e w2 ⟨rfl, hb2⟩
    have hr2 := hr1.below hb2
    go_wp2_with fail
    refine (h3.out w2 hr2).mono ?_
    rintro e w3 ⟨u3, rfl, hu3, hb3⟩
    have hr3 := hr2.below hb3
    obtain ⟨a1, c1, rfl, -, -, -⟩ := Rd.form hu3
    go_wp2_with fail
    refine (h4.out w3 hr3).mono ?_
    rintro e w4 ⟨u4, rfl, hu4, hb4⟩
    obtain ⟨a2, c2, rfl, -, -, -⟩ := Rd.form hu4
    go_wp2_with fail
    refine (same_ints _ _ m m _ (hu3.below hb4) hu4).mono ?_
    rintro e w5 ⟨rfl, hb5⟩
    rw [decide_eq_true rfl]
    go_wp2_with fail
    refine (awake_any _).mono ?_
    rintro e w6 ⟨rfl, hb6⟩
    go_wp2
    go_ret
    exact ⟨rfl, Bel.to (Bel.to (Bel.to (Bel.to (Bel.to hb1 hb2) hb3) hb4) hb5) hb6⟩
end Go.Proofs.Ytompjmcbfgckiaa

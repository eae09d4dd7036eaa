/- comb.Count, comb.Hits. -/
import Derived.Test.YtlppomkpmnpmcaaGreatChooseIn
import Derived.Test.YtlppomkpmnpmcaaGreatUint
open Go.RowKit
set_option linter.unusedVariables false
set_option linter.unusedSimpArgs false
namespace Go.Proofs.YtlppomkpmnpmcaaGreat

theorem choose_ok (n k : Int) (w : World) (h : 0 ≤ n ∧ n ≤ 80) : Calls Tryz.prog 31 #[.int .i64 n, .int .i64 k] w (NatC (chooseI n k) 0 w) := by
  unfold chooseI
  obtain ⟨h1, h2⟩ := h
  obtain ⟨n, rfl⟩ := Int.eq_ofNat_of_zero_le h1
  by_cases hk : k < 0
  · rw [if_pos hk]
    exact choose_out _ _ w ⟨h1, h2⟩ (.inl hk)
  · rw [if_neg hk]
    obtain ⟨k, rfl⟩ := Int.eq_ofNat_of_zero_le (show 0 ≤ k by omega)
    rw [Int.toNat_natCast, Int.toNat_natCast]
    by_cases hkn : k ≤ n
    · exact choose_in n k w (by omega) hkn
    · rw [choose_gt (by omega)]
      exact choose_out _ _ w ⟨h1, h2⟩ (.inr (by omega))

theorem chooseI_lt (n k : Int) (h : n ≤ 80) : chooseI n k ≤ 1208925819614629174706176 := by
  unfold chooseI
  split
  · omega
  · exact choose_lt_80 (by omega)

theorem chooseI_limbs (n k : Int) (h : n ≤ 80) : (limbs (chooseI n k)).length ≤ 64 := by
  have := limbs_le_three (n := chooseI n k) (by have := chooseI_lt n k h; omega)
  omega

theorem count_range (n k : Int) (w : World) (h : ¬ (0 ≤ n ∧ n ≤ 80)) : Calls Tryz.prog 15 #[.int .i64 n, .int .i64 k] w (IntC 0 2 w) := by
  go_enter Tryz.func15, Tryz.ntmps15
  go_wp2_with fail
  refine (choose_range n k _ h).mono ?_
  rintro e w1 ⟨u, rfl, hu, hb⟩
  obtain ⟨ao, n0, cap, rfl⟩ := Rd.shape hu
  clear h
  go_wp2
  go_ret2
  exact ⟨rfl, Bel.al hb _⟩

theorem count_ok (n k : Int) (w : World) (h : 0 ≤ n ∧ n ≤ 80) (hx : chooseI n k ≤ 9223372036854775807) : Calls Tryz.prog 15 #[.int .i64 n, .int .i64 k] w (IntC (chooseI n k) 0 w) := by
  go_enter Tryz.func15, Tryz.ntmps15
  go_wp2_with fail
  refine (choose_ok n k _ h).mono ?_
  rintro e w1 ⟨u, rfl, hu, hb⟩
  obtain ⟨ao, n0, cap, rfl⟩ := Rd.shape hu
  clear h
  go_wp2_with fail
  refine (narrow_ok _ (chooseI n k) _ (by exact hu.alloc _) hx).mono ?_
  rintro e w2 ⟨rfl, hb2⟩
  go_wp2
  go_ret2
  exact ⟨rfl, Bel.to (Bel.al hb _) hb2⟩

theorem count_over (n k : Int) (w : World) (h : 0 ≤ n ∧ n ≤ 80) (hx : 9223372036854775807 < chooseI n k) : Calls Tryz.prog 15 #[.int .i64 n, .int .i64 k] w (IntC 0 9 w) := by
  have hl := chooseI_limbs n k h.2
  go_enter Tryz.func15, Tryz.ntmps15
  go_wp2_with fail
  refine (choose_ok n k _ h).mono ?_
  rintro e w1 ⟨u, rfl, hu, hb⟩
  obtain ⟨ao, n0, cap, rfl⟩ := Rd.shape hu
  clear h
  go_wp2_with fail
  refine (narrow_over _ (chooseI n k) _ (by exact hu.alloc _) hl hx).mono ?_
  rintro e w2 ⟨rfl, hb2⟩
  go_wp2
  go_ret2
  exact ⟨rfl, Bel.to (Bel.al hb _) hb2⟩

/-- The value and the code of Count. -/
def countV (n k : Int) : Int × Int := if 0 ≤ n ∧ n ≤ 80 then (if chooseI n k ≤ 9223372036854775807 then (chooseI n k, 0) else (0, 9)) else (0, 2)

theorem count_any (n k : Int) (w : World) : Calls Tryz.prog 15 #[.int .i64 n, .int .i64 k] w (IntC (countV n k).1 (countV n k).2 w) := by
  unfold countV
  by_cases h : 0 ≤ n ∧ n ≤ 80
  · rw [if_pos h]
    by_cases hx : chooseI n k ≤ 9223372036854775807
    · rw [if_pos hx]; exact count_ok n k w h hx
    · rw [if_neg hx]; exact count_over n k w h (by omega)
  · rw [if_neg h]; exact count_range n k w h

/-- Hits: the number, 0 out of range. -/
def hitsN (n k d h : Int) : Nat := if k < 0 ∨ n < k ∨ h < 0 ∨ d < h then 0 else chooseI d h * chooseI (n - d) (k - h)
def hitsV (n k d h : Int) : Int × Int := if 0 ≤ n ∧ n ≤ 80 ∧ 0 ≤ d ∧ d ≤ n then (if hitsN n k d h ≤ 9223372036854775807 then (hitsN n k d h, 0) else (0, 9)) else (0, 2)

end Go.Proofs.YtlppomkpmnpmcaaGreat

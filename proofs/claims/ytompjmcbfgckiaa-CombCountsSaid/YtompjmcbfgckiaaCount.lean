/- comb.Count, comb.Hits. -/
import Derived.Test.YtompjmcbfgckiaaChooseIn
import Derived.Test.YtompjmcbfgckiaaUint
open Go.RowKit
set_option linter.unusedVariables false
set_option linter.unusedSimpArgs false
namespace Go.Proofs.Ytompjmcbfgckiaa

theorem choose_ok (n k : Int) (w : World) (h : 0 ≤ n ∧ n ≤ 80) : Calls Try.prog 10 #[.int .i64 n, .int .i64 k] w (NatC (chooseI n k) 0 w) := by
  unfold chooseI
  obtain ⟨h1, h2⟩ := h
  obtain ⟨n, rfl⟩ := Int.eq_ofNat_of_zero_le h1
  by_cases hk : k < 0
  · rw [if_pos hk]
    exact choose_out _ _ w ⟨h1, h2⟩ (.inl hk)
  · rw [if_neg hk]
    obtain ⟨k, rfl⟩ := Int.eq_ofNat_of_zero_le (show 0 ≤ k by omega)
    rw [Int.toNat_natCast, Int.toNat_natCast]
    by_cases hkn : k ≤ n
    · exact choose_in n k w (by omega) hkn
    · rw [choose_gt (by omega)]
      exact choose_out _ _ w ⟨h1, h2⟩ (.inr (by omega))

theorem chooseI_lt (n k : Int) (h : n ≤ 80) : chooseI n k ≤ 1208925819614629174706176 := by
  unfold chooseI
  split
  · omega
  · exact choose_lt_80 (by omega)

theorem chooseI_limbs (n k : Int) (h : n ≤ 80) : (limbs (chooseI n k)).length ≤ 64 := by
  have := limbs_le_three (n := chooseI n k) (by have := chooseI_lt n k h; omega)
  omega

theorem count_range (n k : Int) (w : World) (h : ¬ (0 ≤ n ∧ n ≤ 80)) : Calls Try.prog 12 #[.int .i64 n, .int .i64 k] w (IntC 0 2 w) := by
  go_enter Try.func12, Try.ntmps12
  go_wp2_with fail
  refine (choose_range n k _ h).mono ?_
  rintro e w1 ⟨u, rfl, hu, hb⟩
  obtain ⟨ao, n0, cap, rfl⟩ := Rd.shape hu
  clear h
  go_wp2
  go_ret2
  exact ⟨rfl, Bel.al hb _⟩

theorem count_ok (n k : Int) (w : World) (h : 0 ≤ n ∧ n ≤ 80) (hx : chooseI n k ≤ 9223372036854775807) : Calls Try.prog 12 #[.int .i64 n, .int .i64 k] w (IntC (chooseI n k) 0 w) := by
  go_enter Try.func12, Try.ntmps12
  go_wp2_with fail
  refine (choose_ok n k _ h).mono ?_
  rintro e w1 ⟨u, rfl, hu, hb⟩
  obtain ⟨ao, n0, cap, rfl⟩ := Rd.shape hu
  clear h
  go_wp2_with fail
  refine (narrow_ok _ (chooseI n k) _ (by exact hu.alloc _) hx).mono ?_
  rintro e w2 ⟨rfl, hb2⟩
  go_wp2
  go_ret2
  exact ⟨rfl, Bel.to (Bel.al hb _) hb2⟩

theorem count_over (n k : Int) (w : World) (h : 0 ≤ n ∧ n ≤ 80) (hx : 9223372036854775807 < chooseI n k) : Calls Try.prog 12 #[.int .i64 n, .int .i64 k] w (IntC 0 9 w) := by
  have hl := chooseI_limbs n k h.2
  go_enter Try.func12, Try.ntmps12
  go_wp2_with fail
  refine (choose_ok n k _ h).mono ?_
  rintro e w1 ⟨u, rfl, hu, hb⟩
  obtain ⟨ao, n0, cap, rfl⟩ := Rd.shape hu
  clear h
  go_wp2_with fail
  refine (narrow_over _ (chooseI n k) _ (by exact hu.alloc _) hl hx).mono ?_
  rintro e w2 ⟨rfl, hb2⟩
  go_wp2
  go_ret2
  exact ⟨rfl, Bel.to (Bel.al hb _) hb2⟩

/-- The value and the code of Count. -/
def countV (n k : Int) : Int × Int := if 0 ≤ n ∧ n ≤ 80 then (if chooseI n k ≤ 9223372036854775807 then (chooseI n k, 0) else (0, 9)) else (0, 2)

theorem count_any (n k : Int) (w : World) : Calls Try.prog 12 #[.int .i64 n, .int .i64 k] w (IntC (countV n k).1 (countV n k).2 w) := by
  unfold countV
  by_cases h : 0 ≤ n ∧ n ≤ 80
  · rw [if_pos h]
    by_cases hx : chooseI n k ≤ 9223372036854775807
    · rw [if_pos hx]; exact count_ok n k w h hx
    · rw [if_neg hx]; exact count_over n k w h (by omega)
  · rw [if_neg h]; exact count_range n k w h

/-- Hits: the number, 0 out of range. -/
def hitsN (n k d h : Int) : Nat := if k < 0 ∨ n < k ∨ h < 0 ∨ d < h then 0 else chooseI d h * chooseI (n - d) (k - h)
def hitsV (n k d h : Int) : Int × Int := if 0 ≤ n ∧ n ≤ 80 ∧ 0 ≤ d ∧ d ≤ n then (if hitsN n k d h ≤ 9223372036854775807 then (hitsN n k d h, 0) else (0, 9)) else (0, 2)

set_option maxHeartbeats 1000000 in
theorem hits_range (n k d h : Int) (w : World) (hr : ¬ (0 ≤ n ∧ n ≤ 80 ∧ 0 ≤ d ∧ d ≤ n)) : Calls Try.prog 16 #[.int .i64 n, .int .i64 k, .int .i64 d, .int .i64 h] w (IntC 0 2 w) := by
  by_cases h1 : 0 ≤ n ∧ n ≤ 80
  · have hd : decide (0 ≤ n ∧ n ≤ 80) = true := decide_eq_true h1
    by_cases h2 : d < 0
    all_goals
      first | (have h3 : n < d := by omega) | skip
      clear hr h1
      go_enter Try.func16, Try.ntmps16
      go_wp2_with fail
      refine (known_any _ _).mono ?_
      rintro e w' ⟨rfl, rfl⟩
      rw [hd]
      go_wp2
      go_ret2
      exact ⟨rfl, Below.refl _ _⟩
  · have hd : decide (0 ≤ n ∧ n ≤ 80) = false := decide_eq_false h1
    clear hr h1
    go_enter Try.func16, Try.ntmps16
    go_wp2_with fail
    refine (known_any _ _).mono ?_
    rintro e w' ⟨rfl, rfl⟩
    rw [hd]
    go_wp2
    go_ret2
    exact ⟨rfl, Below.refl _ _⟩

set_option maxHeartbeats 1000000 in
theorem hits_out (n k d h : Int) (w : World) (h1 : 0 ≤ n ∧ n ≤ 80) (h2 : 0 ≤ d) (h3 : d ≤ n) (ho : k < 0 ∨ n < k ∨ h < 0 ∨ d < h) : Calls Try.prog 16 #[.int .i64 n, .int .i64 k, .int .i64 d, .int .i64 h] w (IntC 0 0 w) := by
  have hd : decide (0 ≤ n ∧ n ≤ 80) = true := decide_eq_true h1
  clear h1
  have hcase : k < 0 ∨ (¬ k < 0 ∧ n < k) ∨ (¬ k < 0 ∧ ¬ n < k ∧ h < 0) ∨ (¬ k < 0 ∧ ¬ n < k ∧ ¬ h < 0 ∧ d < h) := by omega
  clear ho
  rcases hcase with c1 | ⟨c1, c2⟩ | ⟨c1, c2, c3⟩ | ⟨c1, c2, c3, c4⟩
  all_goals
    go_enter Try.func16, Try.ntmps16
    go_wp2_with fail
    refine (known_any _ _).mono ?_
    rintro e w' ⟨rfl, rfl⟩
    rw [hd]
    go_wp2
    go_ret2
    exact ⟨rfl, Below.refl _ _⟩

set_option maxHeartbeats 2000000 in
theorem hits_in (n k d h x c : Int) (w : World) (h1 : 0 ≤ n ∧ n ≤ 80) (h2 : 0 ≤ d) (h3 : d ≤ n) (c1 : ¬ k < 0) (c2 : ¬ n < k) (c3 : ¬ h < 0) (c4 : ¬ d < h)
    (hx : Hid ((x, c) = if chooseI d h * chooseI (n - d) (k - h) ≤ 9223372036854775807 then (((chooseI d h * chooseI (n - d) (k - h) : Nat) : Int), 0) else (0, 9))) : Calls Try.prog 16 #[.int .i64 n, .int .i64 k, .int .i64 d, .int .i64 h] w (IntC x c w) := by
  have hd : decide (0 ≤ n ∧ n ≤ 80) = true := decide_eq_true h1
  have hl1 := chooseI_limbs d h (by omega)
  have hl2 := chooseI_limbs (n - d) (k - h) (by omega)
  have hl3 : (limbs (chooseI d h * chooseI (n - d) (k - h))).length ≤ 64 := by
    have b1 := chooseI_lt d h (by omega)
    have b2 := chooseI_lt (n - d) (k - h) (by omega)
    have b3 := Nat.mul_le_mul b1 b2
    have b4 : chooseI d h * chooseI (n - d) (k - h) < 4294967296 ^ 6 := by
      have : (1208925819614629174706176 : Nat) * 1208925819614629174706176 < 4294967296 ^ 6 := by decide
      omega
    have := length_limbs_lt.1 b4
    omega
  obtain ⟨h11, h12⟩ := h1
  go_enter Try.func16, Try.ntmps16
  go_wp2_with fail
  refine (known_any _ _).mono ?_
  rintro e w' ⟨rfl, rfl⟩
  rw [hd]
  clear hd
  go_wp2_with fail
  refine (choose_ok d h _ ⟨h2, by omega⟩).mono ?_
  rintro e w1 ⟨u, rfl, hu, hb1⟩
  obtain ⟨ao, n0, cap, rfl⟩ := Rd.shape hu
  go_wp2_with fail
  refine (choose_ok (n - d) (k - h) _ ⟨by omega, by omega⟩).mono ?_
  rintro e w2 ⟨u2, rfl, hu2, hb2⟩
  obtain ⟨ao2, n2, cap2, rfl⟩ := Rd.shape hu2
  have e1 : w2.cell? ⟨w1.heap.size, 0, none⟩ = some (.slice ao n0 cap) := Bel.cellOf hb2 (new_cell w1 _ _)
  have z1 : w1.heap.size < w2.heap.size := by have := hb2.size; simp at this; omega
  have hu' := (hu.alloc (Obj.cells #[Value.slice ao n0 cap] 24)).below hb2
  go_wp2_with fail
  refine (mul_any _ _ (chooseI d h) (chooseI (n - d) (k - h)) _ (by exact hu'.alloc _) (by exact hu2.alloc _) hl1 hl2).mono ?_
  rintro e w3 ⟨u3, c3', rfl, hc3, hu3, hb3⟩
  rw [if_pos hl3] at hc3 hu3
  rw [hc3.out]
  obtain ⟨ao3, n3, cap3, rfl⟩ := Rd.shape hu3
  have hbb := Bel.al (Bel.to (Bel.al (Bel.to (Bel.al hb1 (Obj.cells #[Value.slice ao n0 cap] 24)) hb2) (Obj.cells #[Value.slice ao2 n2 cap2] 24)) hb3) (Obj.cells #[Value.slice ao3 n3 cap3] 24)
  go_wp2_with fail
  by_cases hm : chooseI d h * chooseI (n - d) (k - h) ≤ 9223372036854775807
  · rw [if_pos hm] at hx
    have ex := hx.out
    injection ex with ex ec
    subst ex ec
    refine (narrow_ok _ _ _ (by exact hu3.alloc _) hm).mono ?_
    rintro e w4 ⟨rfl, hb4⟩
    clear hm hx
    go_wp2
    go_ret2
    exact ⟨rfl, Bel.to hbb hb4⟩
  · rw [if_neg hm] at hx
    have ex := hx.out
    injection ex with ex ec
    subst ex ec
    refine (narrow_over _ _ _ (by exact hu3.alloc _) hl3 (by omega)).mono ?_
    rintro e w4 ⟨rfl, hb4⟩
    clear hm hx
    go_wp2
    go_ret2
    exact ⟨rfl, Bel.to hbb hb4⟩

theorem hits_any (n k d h : Int) (w : World) : Calls Try.prog 16 #[.int .i64 n, .int .i64 k, .int .i64 d, .int .i64 h] w (IntC (hitsV n k d h).1 (hitsV n k d h).2 w) := by
  unfold hitsV
  by_cases hr : 0 ≤ n ∧ n ≤ 80 ∧ 0 ≤ d ∧ d ≤ n
  · rw [if_pos hr]
    unfold hitsN
    by_cases ho : k < 0 ∨ n < k ∨ h < 0 ∨ d < h
    · rw [if_pos ho, if_pos (by omega)]
      exact hits_out n k d h w ⟨hr.1, hr.2.1⟩ hr.2.2.1 hr.2.2.2 ho
    · rw [if_neg ho]
      exact hits_in n k d h _ _ w ⟨hr.1, hr.2.1⟩ hr.2.2.1 hr.2.2.2 (by omega) (by omega) (by omega) (by omega) rfl
  · rw [if_neg hr]
    exact hits_range n k d h w hr
end Go.Proofs.Ytompjmcbfgckiaa

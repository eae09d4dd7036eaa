/- The walk of the statement CombAdds. -/
import Derived.Test.YtompjmcbfgckiaaAwake
import Derived.Test.YtompjmcbfgckiaaRefAddN
open Go.RowKit
set_option linter.unusedVariables false
set_option linter.unusedSimpArgs false
namespace Go.Proofs.Ytompjmcbfgckiaa

theorem chooseI_pascal {n k : Nat} (h : 1 ≤ n) : chooseI ((n : Int) - 1) ((k : Int) - 1) + chooseI ((n : Int) - 1) k = choose n k := by
  obtain ⟨m, rfl⟩ : ∃ m, n = m + 1 := ⟨n - 1, by omega⟩
  rw [chooseI_nat m k ((m + 1 : Nat) - 1 : Int) k (by omega) rfl]
  cases k with
  | zero => unfold chooseI; rw [if_pos (by omega), choose_zero, choose_zero]
  | succ k => rw [chooseI_nat m k _ _ (by omega) (by omega), choose_succ]

theorem adds_bad (n k : Int) (w : World) (h : ¬ (1 ≤ n ∧ n ≤ 80 ∧ 0 ≤ k ∧ k ≤ n)) :
    Calls Try.prog 8 #[.int .i64 n, .int .i64 k] w (BoolB true w) := by
  by_cases h1 : n < 1
  · clear h
    go_enter Try.func8, Try.ntmps8
    go_wp2_with fail
    refine (awake_any _).mono ?_
    rintro e w4 ⟨rfl, hb4⟩
    go_wp2
    go_ret
    exact ⟨rfl, hb4⟩
  · by_cases h2 : 80 < n
    · clear h
      go_enter Try.func8, Try.ntmps8
      go_wp2_with fail
      refine (awake_any _).mono ?_
      rintro e w4 ⟨rfl, hb4⟩
      go_wp2
      go_ret
      exact ⟨rfl, hb4⟩
    · by_cases h3 : k < 0
      · clear h
        go_enter Try.func8, Try.ntmps8
        go_wp2_with fail
        refine (awake_any _).mono ?_
        rintro e w4 ⟨rfl, hb4⟩
        go_wp2
        go_ret
        exact ⟨rfl, hb4⟩
      · have h4 : n < k := by omega
        clear h
        go_enter Try.func8, Try.ntmps8
        go_wp2_with fail
        refine (awake_any _).mono ?_
        rintro e w4 ⟨rfl, hb4⟩
        go_wp2
        go_ret
        exact ⟨rfl, hb4⟩

set_option maxHeartbeats 4000000 in
set_option maxRecDepth 100000 in
theorem adds_good (n k : Nat) (w : World) (h1 : 1 ≤ n) (hn : n ≤ 80) (hk : k ≤ n) :
    Calls Try.prog 8 #[.int .i64 (n : Int), .int .i64 (k : Int)] w (BoolB true w) := by
  have hp := chooseI_pascal (k := k) h1
  have hs := choose_symm hk
  have hA := chooseI_nat n k n k rfl rfl
  have hB := chooseI_nat n (n - k) n ((n : Int) - k) rfl (by omega)
  rw [hs] at hB
  have hle := choose_le n k
  have h80 : 2 ^ n ≤ 2 ^ 80 := Nat.pow_le_pow_right (by omega) hn
  have e80 : (2 : Nat) ^ 80 = 1208925819614629174706176 := by decide
  obtain ⟨A, hAe⟩ : ∃ A, A = choose n k := ⟨_, rfl⟩
  obtain ⟨C, hCe⟩ : ∃ C, C = chooseI ((n : Int) - 1) ((k : Int) - 1) := ⟨_, rfl⟩
  obtain ⟨D, hDe⟩ : ∃ D, D = chooseI ((n : Int) - 1) k := ⟨_, rfl⟩
  rw [← hCe, ← hDe, ← hAe] at hp
  rw [← hAe] at hA hB hle
  have lC : (limbs C).length ≤ 64 := by have := limbs_le_three (n := C) (by omega); omega
  have lD : (limbs D).length ≤ 64 := by have := limbs_le_three (n := D) (by omega); omega
  have lS : (digs (C + D)).length ≤ 128 := digs_limbs_len (k := 64) (by have := limbs_le_three (n := C + D) (by omega); omega)
  have c1 := hide (fun w => choose_ok n k w (by omega))
  have c2 := hide (fun w => choose_ok n ((n : Int) - k) w (by omega))
  have c3 := hide (fun w => choose_ok ((n : Int) - 1) ((k : Int) - 1) w (by omega))
  have c4 := hide (fun w => choose_ok ((n : Int) - 1) k w (by omega))
  rw [hA] at c1
  rw [hB] at c2
  rw [← hCe] at c3
  rw [← hDe] at c4
  clear hA hB hle h80 e80 hs
  replace hCe := hide hCe
  replace hDe := hide hDe
  replace hAe := hide hAe
  replace hp := hide hp
  go_enter Try.func8, Try.ntmps8
  go_wp2_with fail
  refine (c1.out _).mono ?_
  rintro e w1 ⟨u1, rfl, hu1, hb1⟩
  obtain ⟨ao1, n1, cp1, rfl⟩ := Rd.shape hu1
  have b1 := Bel.al hb1 (Obj.cells #[Value.slice ao1 n1 cp1] 24)
  have x1 := new_cell w1 (.slice ao1 n1 cp1) 24
  have v1 : NV (w1.alloc (Obj.cells #[Value.slice ao1 n1 cp1] 24)) (.slice ao1 n1 cp1) A := hu1.alloc _
  clear hu1 hb1
  go_wp2_with fail
  refine (c2.out _).mono ?_
  rintro e w2 ⟨u2, rfl, hu2, hb2⟩
  obtain ⟨ao2, n2, cp2, rfl⟩ := Rd.shape hu2
  replace b1 := Bel.al (Bel.to b1 hb2) (Obj.cells #[Value.slice ao2 n2 cp2] 24)
  replace x1 := cell_alloc (Bel.cellOf hb2 x1) (Obj.cells #[Value.slice ao2 n2 cp2] 24)
  replace v1 : NV (w2.alloc (Obj.cells #[Value.slice ao2 n2 cp2] 24)) (.slice ao1 n1 cp1) A := (Rd.below v1 hb2).alloc _
  have x2 := new_cell w2 (.slice ao2 n2 cp2) 24
  have v2 : NV (w2.alloc (Obj.cells #[Value.slice ao2 n2 cp2] 24)) (.slice ao2 n2 cp2) A := hu2.alloc _
  clear hu2 hb2
  go_wp2_with fail
  refine (c3.out _).mono ?_
  rintro e w3 ⟨u3, rfl, hu3, hb3⟩
  obtain ⟨ao3, n3, cp3, rfl⟩ := Rd.shape hu3
  replace b1 := Bel.al (Bel.to b1 hb3) (Obj.cells #[Value.slice ao3 n3 cp3] 24)
  replace x1 := cell_alloc (Bel.cellOf hb3 x1) (Obj.cells #[Value.slice ao3 n3 cp3] 24)
  replace x2 := cell_alloc (Bel.cellOf hb3 x2) (Obj.cells #[Value.slice ao3 n3 cp3] 24)
  replace v1 : NV (w3.alloc (Obj.cells #[Value.slice ao3 n3 cp3] 24)) (.slice ao1 n1 cp1) A := (Rd.below v1 hb3).alloc _
  replace v2 : NV (w3.alloc (Obj.cells #[Value.slice ao3 n3 cp3] 24)) (.slice ao2 n2 cp2) A := (Rd.below v2 hb3).alloc _
  have x3 := new_cell w3 (.slice ao3 n3 cp3) 24
  have v3 : NV (w3.alloc (Obj.cells #[Value.slice ao3 n3 cp3] 24)) (.slice ao3 n3 cp3) C := hu3.alloc _
  clear hu3 hb3
  go_wp2_with fail
  refine (c4.out _).mono ?_
  rintro e w4 ⟨u4, rfl, hu4, hb4⟩
  obtain ⟨ao4, n4, cp4, rfl⟩ := Rd.shape hu4
  replace b1 := Bel.al (Bel.to b1 hb4) (Obj.cells #[Value.slice ao4 n4 cp4] 24)
  replace x1 := cell_alloc (Bel.cellOf hb4 x1) (Obj.cells #[Value.slice ao4 n4 cp4] 24)
  replace x2 := cell_alloc (Bel.cellOf hb4 x2) (Obj.cells #[Value.slice ao4 n4 cp4] 24)
  replace x3 := cell_alloc (Bel.cellOf hb4 x3) (Obj.cells #[Value.slice ao4 n4 cp4] 24)
  replace v1 : NV (w4.alloc (Obj.cells #[Value.slice ao4 n4 cp4] 24)) (.slice ao1 n1 cp1) A := (Rd.below v1 hb4).alloc _
  replace v2 : NV (w4.alloc (Obj.cells #[Value.slice ao4 n4 cp4] 24)) (.slice ao2 n2 cp2) A := (Rd.below v2 hb4).alloc _
  replace v3 : NV (w4.alloc (Obj.cells #[Value.slice ao4 n4 cp4] 24)) (.slice ao3 n3 cp3) C := (Rd.below v3 hb4).alloc _
  have x4 := new_cell w4 (.slice ao4 n4 cp4) 24
  have v4 : NV (w4.alloc (Obj.cells #[Value.slice ao4 n4 cp4] 24)) (.slice ao4 n4 cp4) D := hu4.alloc _
  clear hu4 hb4
  go_wp2_with fail
  refine (radd_nat _ _ C D _ v3 v4 lC lD lS).mono ?_
  rintro e w5 ⟨u5, rfl, hu5, hb5⟩
  obtain ⟨ao5, n5, cp5, rfl⟩ := Rd.shape hu5
  rw [hp.out] at hu5
  replace b1 := Bel.al (Bel.to b1 hb5) (Obj.cells #[Value.slice ao5 n5 cp5] 24)
  replace x1 := cell_alloc (Bel.cellOf hb5 x1) (Obj.cells #[Value.slice ao5 n5 cp5] 24)
  replace x2 := cell_alloc (Bel.cellOf hb5 x2) (Obj.cells #[Value.slice ao5 n5 cp5] 24)
  replace v1 : NV (w5.alloc (Obj.cells #[Value.slice ao5 n5 cp5] 24)) (.slice ao1 n1 cp1) A := (Rd.below v1 hb5).alloc _
  replace v2 : NV (w5.alloc (Obj.cells #[Value.slice ao5 n5 cp5] 24)) (.slice ao2 n2 cp2) A := (Rd.below v2 hb5).alloc _
  have x5 := new_cell w5 (.slice ao5 n5 cp5) 24
  have v5 : NV (w5.alloc (Obj.cells #[Value.slice ao5 n5 cp5] 24)) (.slice ao5 n5 cp5) A := hu5.alloc _
  clear hu5 hb5 x3 x4 v3 v4
  go_wp2_with fail
  refine (same_nats _ _ A A _ v1 v2).mono ?_
  rintro e w6 ⟨rfl, hb6⟩
  rw [decide_eq_true rfl]
  replace b1 := Bel.to b1 hb6
  replace x1 := Bel.cellOf hb6 x1
  replace x5 := Bel.cellOf hb6 x5
  replace v1 := Rd.below v1 hb6
  replace v5 := Rd.below v5 hb6
  clear hb6 x2 v2
  go_wp2_with fail
  refine (same_nats _ _ A A _ v1 v5).mono ?_
  rintro e w7 ⟨rfl, hb7⟩
  rw [decide_eq_true rfl]
  go_wp2_with fail
  refine (awake_any _).mono ?_
  rintro e w8 ⟨rfl, hb8⟩
  go_wp2
  go_ret
  exact ⟨rfl, Bel.to (Bel.to b1 hb7) hb8⟩

theorem adds_any (n k : Int) (w : World) : Calls Try.prog 8 #[.int .i64 n, .int .i64 k] w (BoolB true w) := by
  by_cases h : 1 ≤ n ∧ n ≤ 80 ∧ 0 ≤ k ∧ k ≤ n
  · obtain ⟨n, rfl⟩ := Int.eq_ofNat_of_zero_le (show 0 ≤ n by omega)
    obtain ⟨k, rfl⟩ := Int.eq_ofNat_of_zero_le (show 0 ≤ k by omega)
    exact adds_good n k w (by omega) (by omega) (by omega)
  · exact adds_bad n k w h
end Go.Proofs.Ytompjmcbfgckiaa

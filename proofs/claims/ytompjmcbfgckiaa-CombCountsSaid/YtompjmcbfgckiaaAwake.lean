/- The examples that each statement of chapter 05 checks. -/
import Derived.Test.YtompjmcbfgckiaaSame
import Derived.Deep.RegionHeld3
open Go.RowKit
set_option linter.unusedVariables false
set_option linter.unusedSimpArgs false
namespace Go.Proofs.Ytompjmcbfgckiaa

def chooseF : Nat → Nat → Nat
  | _, 0 => 1
  | 0, _ + 1 => 0
  | n + 1, k + 1 => chooseF n k * (n + 1) / (k + 1)

theorem choose_fast (n k : Nat) : choose n k = chooseF n k := by
  induction n generalizing k with
  | zero => cases k <;> rfl
  | succ n ih => cases k with
    | zero => rw [choose_zero]; rfl
    | succ k =>
      have := choose_mul n k
      rw [chooseF, ← ih, ← this, Nat.mul_div_cancel _ (by omega)]

theorem ref_of_int (x : Int) (w : World) (h0 : 0 ≤ x) (h : x < 18446744073709551616) : Calls Try.prog 31 #[.int .u64 x] w (SomeNat x.toNat w) := by
  obtain ⟨n, rfl⟩ := Int.eq_ofNat_of_zero_le h0
  exact ref_of n w (by omega)

theorem aw1 (w : World) : Calls Try.prog 12 #[.int .i64 49, .int .i64 6] w (IntC 13983816 0 w) := by
  have h : chooseI 49 6 = 13983816 := (chooseI_nat 49 6 49 6 rfl rfl).trans (by rw [choose_fast]; decide)
  have := count_ok 49 6 w (by omega) (by rw [h]; omega)
  rw [h] at this
  exact this
theorem aw2 (w : World) : Calls Try.prog 10 #[.int .i64 5, .int .i64 2] w (NatC 10 0 w) := by
  have h : chooseI 5 2 = 10 := (chooseI_nat 5 2 5 2 rfl rfl).trans (by decide)
  have := choose_ok 5 2 w (by omega)
  rw [h] at this
  exact this
theorem aw3 (w : World) : Calls Try.prog 16 #[.int .i64 49, .int .i64 6, .int .i64 6, .int .i64 3] w (IntC 246820 0 w) := by
  have h1 : chooseI 6 3 = 20 := (chooseI_nat 6 3 6 3 rfl rfl).trans (by decide)
  have h2 : chooseI (49 - 6) (6 - 3) = 12341 := (chooseI_nat 43 3 _ _ rfl rfl).trans (by rw [choose_fast]; decide)
  have h : hitsV 49 6 6 3 = (246820, 0) := by
    have h3 : hitsN 49 6 6 3 = 246820 := by unfold hitsN; rw [if_neg (by omega), h1, h2]
    unfold hitsV
    rw [if_pos (by omega), h3, if_pos (by omega)]
    rfl
  have := hits_any 49 6 6 3 w
  rw [h] at this
  exact this
theorem aw4 (v : Value) (w : World) (h : Rd I64 w v [2, 3]) : Calls Try.prog 18 #[v, .int .i64 4] w (IntC 3 0 w) := by
  have e : rankV 4 [2, 3] = (3, 0) := by decide
  have := rank_any v [2, 3] 4 w h
  rw [e] at this
  exact this
theorem aw5 (w : World) : Calls Try.prog 23 #[.int .i64 5, .int .i64 4, .int .i64 2] w (ListC [3, 4] 0 w) := by
  have e : unrankV 5 4 2 = ([3, 4], 0) := by decide
  have := unrank_any 5 4 2 w
  rw [e] at this
  exact this
theorem aw6 (v : Value) (w : World) (h : Rd I64 w v [1, 4]) : Calls Try.prog 20 #[v, .int .i64 4] w (ListB [2, 3] true w) := by
  have e : nextV [1, 4] 4 = ([2, 3], true) := by decide
  have := next_any v [1, 4] 4 w h
  rw [e] at this
  exact this

set_option maxHeartbeats 2000000 in
set_option maxRecDepth 100000 in
theorem awake_any (w : World) : Calls Try.prog 15 #[] w (BoolB true w) := by
  go_enter Try.func15, Try.ntmps15
  go_wp2_with fail
  refine (aw1 _).mono ?_
  rintro e w1 ⟨rfl, hb1⟩
  go_wp2_with fail
  refine (aw2 _).mono ?_
  rintro e w2 ⟨u2, rfl, hu2, hb2⟩
  obtain ⟨ao2, n2, cp2, rfl⟩ := Rd.shape hu2
  have b2 := Bel.al (Bel.to hb1 hb2) (Obj.cells #[Value.slice ao2 n2 cp2] 24)
  have x2 := new_cell w2 (.slice ao2 n2 cp2) 24
  have v2 : NV (w2.alloc (Obj.cells #[Value.slice ao2 n2 cp2] 24)) (.slice ao2 n2 cp2) 10 := hu2.alloc _
  go_wp2_with fail
  refine (aw3 _).mono ?_
  rintro e w3 ⟨rfl, hb3⟩
  replace b2 := Bel.to b2 hb3
  replace x2 := Bel.cellOf hb3 x2
  replace v2 : NV w3 _ _ := Rd.below v2 hb3
  go_wp2_with fail
  refine (aw4 _ _ (by exact Rd.new _ rfl rfl (Nat.le_refl _) (by decide) rfl)).mono ?_
  rintro e w4 ⟨rfl, hb4⟩
  replace b2 := Bel.to (Bel.al b2 _) hb4
  replace x2 := Bel.cellOf hb4 (cell_alloc x2 _)
  replace v2 : NV w4 _ _ := Rd.below (Rd.alloc v2 _) hb4
  go_wp2_with fail
  refine (aw5 _).mono ?_
  rintro e w5 ⟨u5, rfl, hu5, hb5⟩
  replace b2 := Bel.to b2 hb5
  replace x2 := Bel.cellOf hb5 x2
  replace v2 : NV w5 _ _ := Rd.below v2 hb5
  go_wp2_with fail
  refine (aw6 _ _ (by exact Rd.new _ rfl rfl (Nat.le_refl _) (by decide) rfl)).mono ?_
  rintro e w6 ⟨u6, rfl, hu6, hb6⟩
  replace b2 := Bel.to (Bel.al b2 _) hb6
  replace x2 := Bel.cellOf hb6 (cell_alloc x2 _)
  replace v2 : NV w6 _ _ := Rd.below (Rd.alloc v2 _) hb6
  replace hu5 := Rd.below (Rd.alloc hu5 _) hb6
  clear hb1 hb2 hb3 hb4 hb5 hb6 hu2
  go_wp2_with fail
  go_region_held3 (fun W => W.cell? ⟨w2.heap.size, 0, none⟩ = some (.slice ao2 n2 cp2)) (go_keep) (first
    | (go_at_call 31; refine (ref_of_int _ _ ?_ ?_).mono ?_; (omega); (omega); rintro e w7 ⟨u7, rfl, hu7, hb7⟩; have b7 := Bel.to (Below.drew b2) hb7; have x7 : w7.cell? ⟨w2.heap.size, 0, none⟩ = some (.slice ao2 n2 cp2) := Bel.cellOf hb7 x2; have r7 := Rd.below (Rd.drew hu5) hb7; have s7 := Rd.below (Rd.drew hu6) hb7)
    | (go_at_call 14; refine (same_nats _ _ 10 10 _ ?_ ?_).mono ?_; (exact Rd.below (Rd.drew v2) hb7); (exact hu7); rintro e w8 ⟨rfl, hb8⟩; have b8 := Bel.to b7 hb8; have x8 := Bel.cellOf hb8 x7; have r8 := Rd.below r7 hb8; have s8 := Rd.below s7 hb8)
    | (go_at_call 22; refine (same_ints _ _ [3, 4] [3, 4] _ ?_ ?_).mono ?_; (exact r8.alloc _); (exact Rd.new _ rfl rfl (Nat.le_refl _) (by decide) rfl); rintro e w9 ⟨rfl, hb9⟩; have b9 := Bel.to (Bel.al b8 _) hb9; have x9 := Bel.cellOf hb9 (cell_alloc x8 _); have s9 := Rd.below (Rd.alloc s8 _) hb9)
    | (go_at_call 22; refine (same_ints _ _ [2, 3] [2, 3] _ ?_ ?_).mono ?_; (exact s9.alloc _); (exact Rd.new _ rfl rfl (Nat.le_refl _) (by decide) rfl); rintro e w10 ⟨rfl, hb10⟩; have b10 := Bel.to (Bel.al b9 _) hb10; have x10 := Bel.cellOf hb10 (cell_alloc x9 _)))
  go_wp2
  go_ret
  exact ⟨by simp, b10⟩
end Go.Proofs.Ytompjmcbfgckiaa

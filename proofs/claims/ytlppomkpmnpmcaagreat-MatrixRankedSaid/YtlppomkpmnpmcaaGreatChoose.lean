/- comb.known, comb.Choose. -/
import Derived.Test.YtlppomkpmnpmcaaGreatOf
import Derived.Test.YtlppomkpmnpmcaaGreatMul
import Derived.Test.YtlppomkpmnpmcaaGreatDiv
import Derived.Test.YtlppomkpmnpmcaaGreatChooseLaw
import Derived.Deep.RegionHeld3
open Go.RowKit
set_option linter.unusedVariables false
set_option linter.unusedSimpArgs false
namespace Go.Proofs.YtlppomkpmnpmcaaGreat

theorem of_int (x : Int) (w : World) (h0 : 0 ≤ x) (h : x < 18446744073709551616) : Calls Tryz.prog 49 #[.int .u64 x] w (SomeNat x.toNat w) := by
  obtain ⟨n, rfl⟩ := Int.eq_ofNat_of_zero_le h0
  exact of_any n w (by omega)

theorem mul_any (va vb : Value) (m n : Nat) (w : World) (ha : NV w va m) (hb : NV w vb n) (hm : (limbs m).length ≤ 64) (hn : (limbs n).length ≤ 64) :
    Calls Tryz.prog 50 #[.agg #[va], .agg #[vb]] w (Nat2 (m * n) w) := mul_core va vb _ _ m n w rfl rfl ha hb hm hn

theorem known_any (n : Int) (w : World) : Calls Tryz.prog 29 #[.int .i64 n] w fun e w' => e = .returned (.bool (decide (0 ≤ n ∧ n ≤ 80))) ∧ w = w' := by
  by_cases h1 : 0 ≤ n
  · by_cases h2 : n ≤ 80
    · have h : decide (0 ≤ n ∧ n ≤ 80) = true := by simp; omega
      rw [h]
      go_enter Tryz.func29, Tryz.ntmps29
      go_wp2
      go_ret
      exact ⟨rfl, rfl⟩
    · have h : decide (0 ≤ n ∧ n ≤ 80) = false := by simp; omega
      rw [h]
      go_enter Tryz.func29, Tryz.ntmps29
      go_wp2
      go_ret
      exact ⟨rfl, rfl⟩
  · have h : decide (0 ≤ n ∧ n ≤ 80) = false := by simp; omega
    rw [h]
    go_enter Tryz.func29, Tryz.ntmps29
    go_wp2
    go_ret
    exact ⟨rfl, rfl⟩

/-- A number r and the code c. -/
def NatC (r : Nat) (c : Int) (w : World) (e : Ending) (w' : World) : Prop := ∃ u, e = .returned (.tuple #[.agg #[u], .int .i64 c]) ∧ NV w' u r ∧ Below w.heap.size w w'

theorem NV.zero (w : World) : NV w (.slice none 0 0) 0 := by
  show Rd U32 _ _ (limbs 0)
  rw [limbs_zero]
  exact Rd.nil

theorem choose_range (n k : Int) (w : World) (h : ¬ (0 ≤ n ∧ n ≤ 80)) : Calls Tryz.prog 31 #[.int .i64 n, .int .i64 k] w (NatC 0 2 w) := by
  have hd : decide (0 ≤ n ∧ n ≤ 80) = false := decide_eq_false h
  go_enter Tryz.func31, Tryz.ntmps31
  go_wp2_with fail
  refine (known_any _ _).mono ?_
  rintro e w' ⟨rfl, rfl⟩
  rw [hd]
  clear hd h
  go_wp2
  refine bodyPost_ret (v := .tuple #[.agg #[.slice none 0 0], .int .i64 2]) (by simp [results, Tryz.results31, go_sem]) rfl ⟨_, rfl, NV.zero _, Bel.al (Below.refl _ _) _⟩

theorem choose_out (n k : Int) (w : World) (h : 0 ≤ n ∧ n ≤ 80) (hk : k < 0 ∨ n < k) : Calls Tryz.prog 31 #[.int .i64 n, .int .i64 k] w (NatC 0 0 w) := by
  have hd : decide (0 ≤ n ∧ n ≤ 80) = true := decide_eq_true h
  have fin : ∀ (w1 : World) (u : Value), NV w1 u 0 → Below (w.alloc (Obj.cells #[.slice none 0 0] 60)).heap.size (w.alloc (Obj.cells #[.slice none 0 0] 60)) w1 →
      NV (w1.setCell ⟨w.heap.size, 0, none⟩ u) u 0 ∧ Below w.heap.size w (w1.setCell ⟨w.heap.size, 0, none⟩ u) ∧ w1.cell? ⟨w.heap.size, 0, none⟩ = some (.slice none 0 0) ∧ w1.frozen? ⟨w.heap.size, 0, none⟩ = false := by
    intro w1 u hu hb
    have c1 : w1.cell? ⟨w.heap.size, 0, none⟩ = some (.slice none 0 0) := Bel.cellOf hb (by go_simp)
    exact ⟨hu.setNe c1 (fun _ h => by cases h) u, Bel.st (Bel.one _ hb) (Nat.le_refl _) u, c1, Bel.frozenOf hb (v := .slice none 0 0) (by go_simp) (by go_simp)⟩
  replace fin := hide fin
  by_cases hk0 : k < 0
  all_goals
    clear h
    first | (have hk1 : n < k := by omega) | skip
    clear hk
    go_enter Tryz.func31, Tryz.ntmps31
    go_wp2_with fail
    refine (known_any _ _).mono ?_
    rintro e w' ⟨rfl, rfl⟩
    rw [hd]
    go_wp2_with fail
    refine (of_int _ _ (by omega) (by omega)).mono ?_
    rintro e w1 ⟨u, rfl, hu, hb⟩
    obtain ⟨r1, r2, r3, r4⟩ := fin.out w1 u hu hb
    obtain ⟨ao, n0, cp, rfl⟩ := Rd.shape hu
    go_wp2
    refine bodyPost_ret (v := .tuple #[.agg #[.slice ao n0 cp], .int .i64 0]) (by simp [results, Tryz.results31, go_sem, r3]) rfl ⟨_, rfl, r1, r2⟩
end Go.Proofs.YtlppomkpmnpmcaaGreat

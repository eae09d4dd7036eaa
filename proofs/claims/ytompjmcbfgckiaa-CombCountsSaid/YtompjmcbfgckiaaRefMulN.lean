/- lotteryref03: Mul, where the result fits. -/
import Derived.Test.YtompjmcbfgckiaaRefWhole
import Derived.Test.YtompjmcbfgckiaaRefMul
open Go.RowKit
set_option linter.unusedVariables false
set_option linter.unusedSimpArgs false
namespace Go.Proofs.Ytompjmcbfgckiaa

set_option maxHeartbeats 4000000 in
set_option maxRecDepth 100000 in
theorem rmul_nat (va vb : Value) (m n : Nat) (w : World) (ha : NV w va m) (hb : NV w vb n) (lm : (limbs m).length ≤ 64) (ln : (limbs n).length ≤ 64) (lr : (digs (m * n)).length ≤ 128) :
    Calls Try.prog 32 #[.agg #[va], .agg #[vb]] w (NatC (m * n) 0 w) := by
  have dm := hide (digs_limbs_len lm)
  have dn := hide (digs_limbs_len ln)
  obtain ⟨a0, n0, cp0, rfl⟩ := Rd.shape ha
  obtain ⟨a1, n1, cp1, rfl⟩ := Rd.shape hb
  go_enter Try.func32, Try.ntmps32
  go_wp2_with fail
  refine (rvalid _ m _ (((Rd.alloc ha _).alloc _).alloc _) lm).mono ?_
  rintro e w1 ⟨rfl, hb1⟩
  have ca1 : w1.cell? ⟨w.heap.size, 0, none⟩ = some (.slice a0 n0 cp0) := Bel.cellOf hb1 (by go_simp)
  have cb1 : w1.cell? ⟨w.heap.size + 1, 0, none⟩ = some (.slice a1 n1 cp1) := Bel.cellOf hb1 (by go_simp)
  have cr1 : w1.cell? ⟨w.heap.size + 2, 0, none⟩ = some (.slice none 0 0) := Bel.cellOf hb1 (by go_simp)
  have fr1 : w1.frozen? ⟨w.heap.size + 2, 0, none⟩ = false := by rw [hb1.frozen (by simp)]; go_simp
  have na1 : NV w1 _ m := Rd.below (((Rd.alloc ha _).alloc _).alloc _) hb1
  have nb1 : NV w1 _ n := Rd.below (((Rd.alloc hb _).alloc _).alloc _) hb1
  have bw1 := Bel.three _ _ _ hb1
  have sz1 : w.heap.size + 2 < w1.heap.size := by have := hb1.size; simp at this; omega
  clear ha hb hb1
  go_wp2_with fail
  refine (rvalid _ n _ nb1 ln).mono ?_
  rintro e W ⟨rfl, hb2⟩
  have ca := Bel.cellOf hb2 ca1
  have cb := Bel.cellOf hb2 cb1
  have cr := Bel.cellOf hb2 cr1
  have fr := Bel.frozenOf hb2 cr1 fr1
  have na : NV W _ m := Rd.below na1 hb2
  have nb : NV W _ n := Rd.below nb1 hb2
  have bw := Bel.to bw1 hb2
  have sz : w.heap.size + 2 < W.heap.size := by have := hb2.size; omega
  clear ca1 cb1 cr1 fr1 na1 nb1 bw1 hb2 sz1
  go_upto_region 3 with (fail)
  go_cut [6, 7] (fun p ok X => ∃ (pb : Nat) (ap : Option Addr) (np cpp : Nat), p = .pointer (some ⟨pb, 0, none⟩) ∧ ok = .bool true ∧ Below W.heap.size W X ∧ X.cell? ⟨pb, 0, none⟩ = some (.slice ap np cpp) ∧ NV X (.slice ap np cpp) (m * n))
  case first =>
    go_region_held3 (fun X => X.cell? ⟨w.heap.size, 0, none⟩ = some (.slice a0 n0 cp0) ∧ X.cell? ⟨w.heap.size + 1, 0, none⟩ = some (.slice a1 n1 cp1)) (first | go_keep | (refine ⟨cell_far ca5 ?_ _, cell_far cb5 ?_ _⟩ <;> (simp only []; omega))) (first
      | (go_at_call 42; refine (halves _ m _ ?_ ?_).mono ?_; (first | exact Rd.drew na | exact Rd.alloc (Rd.drew na) _); (omega); rintro e w2 ⟨u2, rfl, hu2, hb2, -⟩; have b2 : Below W.heap.size W w2 := (by first | exact Bel.to (Below.drew (Below.refl _ _)) hb2 | exact Bel.to (Bel.al (Below.drew (Below.refl _ _)) _) hb2); have ca2 := Bel.cellOf b2 ca; have cb2 := Bel.cellOf b2 cb; have nb2 : NV w2 _ n := Rd.below nb b2; have s2 := b2.size; (try have k2 : w2.cell? ⟨W.heap.size, 0, none⟩ = some (.slice none 0 0) := Bel.cellOf hb2 (new_cell W.drew _ _)); (try have f2 : w2.frozen? ⟨W.heap.size, 0, none⟩ = false := Bel.frozenOf hb2 (new_cell W.drew _ _) (new_frozen W.drew _ _)))
      | (go_at_call 42; refine (halves _ n _ ?_ ?_).mono ?_; (first | exact nb2 | exact Rd.alloc nb2 _); (omega); rintro e w3 ⟨u3, rfl, hu3, hb3, -⟩; have b3 : Below W.heap.size W w3 := (by first | exact Bel.to b2 hb3 | exact Bel.to (Bel.al b2 _) hb3); have ca3 := Bel.cellOf b3 ca; have cb3 := Bel.cellOf b3 cb; have hu23 : DV w3 _ m := (by first | exact Rd.below hu2 hb3 | exact Rd.below (Rd.alloc hu2 _) hb3); have s3 := b3.size; (try have k3 := Bel.cellOf hb3 k2); (try have f3 := Bel.frozenOf hb3 k2 f2); (try have k3 : w3.cell? ⟨w2.heap.size, 0, none⟩ = some (.slice none 0 0) := Bel.cellOf hb3 (new_cell w2 _ _)); (try have f3 : w3.frozen? ⟨w2.heap.size, 0, none⟩ = false := Bel.frozenOf hb3 (new_cell w2 _ _) (new_frozen w2 _ _)))
      | (go_at_call 50; refine (rmul_d _ _ m n _ ?_ ?_ ?_ ?_).mono ?_; (first | exact hu23 | exact Rd.alloc hu23 _); (first | exact hu3 | exact Rd.alloc hu3 _); (have := dm.out; omega); (have := dn.out; omega); rintro e w4 ⟨u4, rfl, hu4, hb4, -⟩; have b4 : Below W.heap.size W w4 := (by first | exact Bel.to b3 hb4 | exact Bel.to (Bel.al b3 _) hb4); have ca4 := Bel.cellOf b4 ca; have cb4 := Bel.cellOf b4 cb; have s4 := b4.size; (try have k4 := Bel.cellOf hb4 k3); (try have f4 := Bel.frozenOf hb4 k3 f3); (try have k4 : w4.cell? ⟨w3.heap.size, 0, none⟩ = some (.slice none 0 0) := Bel.cellOf hb4 (new_cell w3 _ _)); (try have f4 : w4.frozen? ⟨w3.heap.size, 0, none⟩ = false := Bel.frozenOf hb4 (new_cell w3 _ _) (new_frozen w3 _ _)))
      | (go_at_call 40; refine (whole_ok _ (m * n) _ ?_ ?_).mono ?_; (first | exact hu4 | exact Rd.alloc hu4 _); (omega); rintro e w5 ⟨u5, rfl, hu5, hb5⟩; have b5 : Below W.heap.size W w5 := (by first | exact Bel.to b4 hb5 | exact Bel.to (Bel.al b4 _) hb5); have ca5 := Bel.cellOf b5 ca; have cb5 := Bel.cellOf b5 cb; have s5 := b5.size; (try have k5 := Bel.cellOf hb5 k4); (try have f5 := Bel.frozenOf hb5 k4 f4); (try have k5 : w5.cell? ⟨w4.heap.size, 0, none⟩ = some (.slice none 0 0) := Bel.cellOf hb5 (new_cell w4 _ _)); (try have f5 : w5.frozen? ⟨w4.heap.size, 0, none⟩ = false := Bel.frozenOf hb5 (new_cell w4 _ _) (new_frozen w4 _ _)); obtain ⟨a5, n5, cp5, rfl⟩ := Rd.shape hu5))
    all_goals go_wp2_with fail
    all_goals
      go_meet
      first
        | exact ⟨_, _, _, _, rfl, rfl, Bel.al b5 _, new_cell _ _ _, hu5.alloc _⟩
        | exact ⟨_, _, _, _, rfl, rfl, Bel.st b5 (by first | omega | (simp only []; omega) | (simp; done) | (simp; omega)) _, set_cell k5 _, hu5.setNe k5 (fun _ h => by cases h) _⟩
  case rest =>
    obtain ⟨pb, ap, np, cpp, rfl, rfl, hb3, cpb, hp⟩ := hcut
    have cr3 := Bel.cellOf hb3 cr
    have fr3 := Bel.frozenOf hb3 cr fr
    have hfin := hp.setNe cr3 (fun _ h => by cases h) (.slice ap np cpp)
    have hbel := Bel.st (Bel.to bw hb3) (p := ⟨w.heap.size + 2, 0, none⟩) (by simp) (.slice ap np cpp)
    go_wp2
    refine bodyPost_ret (v := .tuple #[.agg #[.slice ap np cpp], .int .i64 0]) (by simp [results, Try.results32, go_sem, cr3]) rfl ⟨_, rfl, hfin, hbel⟩
end Go.Proofs.Ytompjmcbfgckiaa

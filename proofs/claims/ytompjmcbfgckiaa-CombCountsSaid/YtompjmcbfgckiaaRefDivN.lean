/- lotteryref03.DivMod of two numbers in form, the divisor not nought. -/
import Derived.Test.YtompjmcbfgckiaaRefWhole
import Derived.Test.YtompjmcbfgckiaaRefDivide
import Derived.Test.YtompjmcbfgckiaaDiv
open Go.RowKit
set_option linter.unusedVariables false
set_option linter.unusedSimpArgs false
namespace Go.Proofs.Ytompjmcbfgckiaa

set_option maxHeartbeats 4000000 in
set_option maxRecDepth 100000 in
theorem rdivmod (va vb : Value) (m n : Nat) (w : World) (ha : NV w va m) (hb : NV w vb n) (lm : (limbs m).length ≤ 64) (ln : (limbs n).length ≤ 64) (hn : 0 < n) :
    Calls Try.prog 33 #[.agg #[va], .agg #[vb]] w (Nat3 (m / n) (m % n) w) := by
  have dm := hide (digs_limbs_len lm)
  have dn := hide (digs_limbs_len ln)
  have dq : (digs (m / n)).length ≤ 128 := by have := digs_len_le (Nat.div_le_self m n); have := dm.out; omega
  have dr : (digs (m % n)).length ≤ 128 := by have := digs_len_le (Nat.le_of_lt (Nat.mod_lt m hn)); have := dn.out; omega
  obtain ⟨q, hq⟩ : ∃ q, q = m / n := ⟨_, rfl⟩
  obtain ⟨r, hr⟩ : ∃ r, r = m % n := ⟨_, rfl⟩
  rw [← hq] at dq
  rw [← hr] at dr
  rw [← hq, ← hr]
  replace hq := hide hq
  replace hr := hide hr
  obtain ⟨aa, ca, rfl, hla, hca, hra⟩ := Rd.form ha
  obtain ⟨ab, cb, rfl, hlb, hcb, hrb⟩ := Rd.form hb
  have hn0 : 0 < (limbs n).length := by rw [limbs_pos (by omega)]; simp
  go_enter Try.func33, Try.ntmps33
  go_wp2_with fail
  refine (rvalid _ m _ (by exact (((ha.alloc _).alloc _).alloc _).alloc _) lm).mono ?_
  rintro e w1 ⟨rfl, hb1⟩
  have hp : DivPre w w1 aa ab m n ca cb := ⟨Bel.to (Bel.al (Bel.al (Bel.al (Bel.al (Below.refl _ _) _) _) _) _) hb1, by have := hb1.size; simp at this; omega, Bel.cellOf hb1 (by go_simp), Bel.cellOf hb1 (by go_simp), Bel.cellOf hb1 (by go_simp), Bel.cellOf hb1 (by go_simp), Bel.frozenOf hb1 (v := .slice none 0 0) (by go_simp) (by go_simp), Bel.frozenOf hb1 (v := .slice none 0 0) (by go_simp) (by go_simp)⟩
  clear hb1
  have d1 := hp.c1
  go_wp2_with fail
  refine (rvalid _ n _ (by exact hb.below hp.bel) ln).mono ?_
  rintro e w2 ⟨rfl, hb2⟩
  replace hp := hp.keep hb2
  clear hb2 d1
  have d0 := hp.c0
  have d1 := hp.c1
  have na := ha.below hp.bel
  have nb := hb.below hp.bel
  go_upto_region 5 with (fail)
  go_cut [7, 8] (fun x y X => DivPre w X aa ab m n ca cb ∧ DV X x q ∧ DV X y r)
  case first =>
    go_region_held3 (fun X => X.cell? ⟨w.heap.size, 0, none⟩ = some (.slice aa (limbs m).length ca) ∧ X.cell? ⟨w.heap.size + 1, 0, none⟩ = some (.slice ab (limbs n).length cb)) (go_keep) (first
      | (go_at_call 42; refine (halves _ m _ ?_ ?_).mono ?_; (exact Rd.drew na); (omega); rintro e w2 ⟨u2, rfl, hu2, hb2, -⟩; have hp2 := (hp.keep (Below.drew (Below.refl _ _))).keep hb2; have d02 := hp2.c0; have d12 := hp2.c1; have nb2 : NV w2 _ n := Rd.below (Rd.drew nb) hb2)
      | (go_at_call 42; refine (halves _ n _ ?_ ?_).mono ?_; (exact nb2); (omega); rintro e w3 ⟨u3, rfl, hu3, hb3, -⟩; have hp3 := hp2.keep hb3; have d03 := hp3.c0; have d13 := hp3.c1; have hu23 : DV w3 _ m := Rd.below hu2 hb3)
      | (go_at_call 51; refine (rdivide _ _ m n _ ?_ ?_ ?_ ?_ ?_).mono ?_; (exact hu23); (exact hu3); (exact hn); (have := dm.out; omega); (have := dn.out; omega); rintro e w4 ⟨u4, v4, rfl, hu4, hv4, hb4⟩; have hp4 := hp3.keep hb4; have d04 := hp4.c0; have d14 := hp4.c1))
    all_goals go_wp2_with fail
    all_goals
      go_meet
      rw [← hq.out] at hu4
      rw [← hr.out] at hv4
      exact ⟨hp4, hu4, hv4⟩
  case rest =>
    obtain ⟨hp5, hx, hy⟩ := hcut
    clear hp d0 d1 na nb
    go_wp2_with fail
    refine (whole_ok _ q _ (by first | exact hx | exact hx.alloc _) dq).mono ?_
    rintro e w6 ⟨uq, rfl, huq, hb6⟩
    obtain ⟨aq, nq, cq, rfl⟩ := Rd.shape huq
    have hp6 : DivPre w w6 aa ab m n ca cb := (by first | exact hp5.keep hb6 | exact (hp5.keep (Bel.al (Below.refl _ _) _)).keep hb6)
    have hy6 : DV w6 _ r := (by first | exact Rd.below hy hb6 | exact Rd.below (Rd.alloc hy _) hb6)
    have s6 := hb6.size
    go_wp2_with fail
    refine (whole_ok _ r _ (by first | exact hy6.alloc _ | exact (hy6.alloc _).alloc _) dr).mono ?_
    rintro e w7 ⟨ur, rfl, hur, hb7⟩
    obtain ⟨ar, nr, cr, rfl⟩ := Rd.shape hur
    have hp7 : DivPre w w7 aa ab m n ca cb := (hp6.keep (Bel.al (Below.refl _ _) _)).keep hb7
    have huq7 : NV w7 _ q := Rd.below (Rd.alloc huq _) hb7
    have c9 : w7.cell? ⟨w6.heap.size, 0, none⟩ = some (.slice aq nq cq) := Bel.cellOf hb7 (new_cell w6 _ _)
    have hp8 : DivPre w (w7.alloc (Obj.cells #[Value.slice ar nr cr] 24)) aa ab m n ca cb := hp7.keep (Bel.al (Below.refl _ _) _)
    have huq8 : NV (w7.alloc (Obj.cells #[Value.slice ar nr cr] 24)) _ q := Rd.alloc huq7 _
    have hur8 : NV (w7.alloc (Obj.cells #[Value.slice ar nr cr] 24)) _ r := Rd.alloc hur _
    have c9' := cell_alloc c9 (Obj.cells #[Value.slice ar nr cr] 24)
    have c11 := new_cell w7 (Value.slice ar nr cr) 24
    have z9 : w.heap.size + 1 + 1 + 1 < w6.heap.size := hp6.size
    have z11 : w6.heap.size < w7.heap.size := by have := hb7.size; simp at this; omega
    go_wp2_with fail
    obtain ⟨wd, hwd⟩ : ∃ wd, wd = (w7.alloc (Obj.cells #[Value.slice ar nr cr] 24)) := ⟨_, rfl⟩
    obtain ⟨g9, hg9⟩ : ∃ g, g = w6.heap.size := ⟨_, rfl⟩
    obtain ⟨g11, hg11⟩ : ∃ g, g = w7.heap.size := ⟨_, rfl⟩
    rw [← hwd] at hp8 huq8 hur8 c9' c11
    rw [← hg9] at c9' z9 z11
    rw [← hg11] at c11 z11
    rw [← hwd, ← hg9, ← hg11]
    clear hwd hg9 hg11 c9 hp7 hur huq7 hp6 hy6 hb7 hb6 huq hx hy hp5
    have e2 := hp8.c2
    have e3 := hp8.c3
    have g2 := hp8.f2
    have g3 := hp8.f3
    have sz := hp8.size
    have hbel := hp8.bel
    clear hp8
    go_region
    go_wp2
    have e3' := cell_far (p := ⟨w.heap.size + 1 + 1, 0, none⟩) e3 (by simp) (Value.slice aq nq cq)
    have hu2 := (huq8.setNe e2 (fun _ h => by cases h) (.slice aq nq cq)).setNe e3' (fun _ h => by cases h) (.slice ar nr cr)
    have hr2 := (hur8.setNe e2 (fun _ h => by cases h) (.slice aq nq cq)).setNe e3' (fun _ h => by cases h) (.slice ar nr cr)
    have hb2 := Bel.st (Bel.st hbel (p := ⟨w.heap.size + 1 + 1, 0, none⟩) (by simp only []; omega) (.slice aq nq cq)) (p := ⟨w.heap.size + 1 + 1 + 1, 0, none⟩) (by simp only []; omega) (.slice ar nr cr)
    refine bodyPost_ret (v := .tuple #[.agg #[.slice aq nq cq], .agg #[.slice ar nr cr], .int .i64 0]) (by simp [results, Try.results33, go_sem, e2, e3]) rfl ⟨_, _, rfl, hu2.drew, hr2.drew, hb2.drew⟩
end Go.Proofs.Ytompjmcbfgckiaa

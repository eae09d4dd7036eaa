/- MatrixCanons: for every input the Go function lotterylaw13.MatrixCanons returns true, and each argument reads afterwards as before. Conditions: none. -/
import Derived.Test.YtlppomkpmnpmcaaRows
import Derived.WalkKit
import Derived.ProofKit
import Derived.OpenShut
import Derived.ChangeOld
import Derived.Below
import Derived.Test.YtlppomkpmnpmcaaGMat
import Derived.Test.YtlppomkpmnpmcaaGLine
import Derived.Test.YtlppomkpmnpmcaaGTrod

section
/- The walk of the statement MatrixCanons: it returns true, whatever the line. -/
open Go.RowKit
set_option linter.unusedVariables false
set_option linter.unusedSimpArgs false
namespace Go.Proofs.Ytlppomkpmnpmcaa

set_option maxHeartbeats 4000000 in
set_option maxRecDepth 100000 in
theorem canons13_any (mv bv : Value) (a b : List Int) (w : World) (hl : LineR w mv bv a b) :
    Calls Try.prog 7 #[lineVal mv bv] w (BoolB true w) := by
  have c0 := hide (fun X (hY : LineR X mv bv a b) => few13_any mv bv a b X hY)
  have hh := hide hl
  obtain ⟨f, hf⟩ : ∃ f, f = fewB a b := ⟨_, rfl⟩
  rw [← hf] at c0
  obtain ⟨ma, mc, rfl, hma, hmc, -⟩ := hl.1.form
  obtain ⟨ba, bc, rfl, hba, hbc, -⟩ := hl.2.form
  clear hl
  cases f
  · clear hf
    unfold lineVal
    go_enter Try.func7, Try.ntmps7
    go_upto_region 1 with (fail)
    obtain ⟨W, hW⟩ : ∃ W, W = (w.alloc (Obj.cells #[(.slice ma a.length mc), (.slice ba b.length bc)] 35)) := ⟨_, rfl⟩
    have bW : Below w.heap.size w W := by rw [hW]; exact Bel.al (Below.refl _ _) _
    have r0 : LineAt W (w.heap.size) ((.slice ma a.length mc)) ((.slice ba b.length bc)) := by rw [hW]; exact Row.new _ _ _
    have sW : w.heap.size < W.heap.size := by rw [hW]; simp
    rw [← hW]
    clear hW
    go_wp2_with (first | (refine wpList_load_row rfl 35 _ rfl _ rfl _ _ _ _ r0 Try.underlying35 rfl (by kernel_rfl) ?_) | fail)
    refine (c0.out _ (hh.out.below bW)).mono ?_
    rintro e w1 ⟨rfl, hb1⟩
    go_wp2_with fail
    refine (awake13_any _).mono ?_
    rintro e w2 ⟨rfl, hb2⟩
    go_wp2
    go_ret
    exact ⟨rfl, Bel.to (Bel.to bW hb1) hb2⟩
  · have la : a.length ≤ 40 ∧ b.length ≤ 40 := by
      unfold fewB at hf
      have := hf.symm
      rw [Bool.and_eq_true, decide_eq_true_iff, decide_eq_true_iff] at this
      exact this
    have c1 := hide (fun X (hX : LineR X (.slice ma a.length mc) (.slice ba b.length bc) a b) => mcanon_any _ _ a b X hX (by omega) (by omega))
    have c2 := hide (fun X (hX : LineR X (.slice ma a.length mc) (.slice ba b.length bc) a b) => rcanon_any _ _ a b X hX (by omega) (by omega))
    have lx : (sortI a).length ≤ 1000 := by rw [sortI_len]; omega
    have ly : (sortI b).length ≤ 1000 := by rw [sortI_len]; omega
    have ix := sortI_idem a
    have iy := sortI_idem b
    obtain ⟨x, hx⟩ : ∃ x, x = sortI a := ⟨_, rfl⟩
    obtain ⟨y, hy⟩ : ∃ y, y = sortI b := ⟨_, rfl⟩
    rw [← hx] at c1 c2 lx ix
    rw [← hy] at c1 c2 ly iy
    replace ix := hide ix
    replace iy := hide iy
    clear hf la hx hy
    unfold lineVal
    go_enter Try.func7, Try.ntmps7
    go_upto_region 1 with (fail)
    obtain ⟨W, hW⟩ : ∃ W, W = (w.alloc (Obj.cells #[(.slice ma a.length mc), (.slice ba b.length bc)] 35)) := ⟨_, rfl⟩
    have bW : Below w.heap.size w W := by rw [hW]; exact Bel.al (Below.refl _ _) _
    have r0 : LineAt W (w.heap.size) ((.slice ma a.length mc)) ((.slice ba b.length bc)) := by rw [hW]; exact Row.new _ _ _
    have sW : w.heap.size < W.heap.size := by rw [hW]; simp
    rw [← hW]
    clear hW
    go_wp2_with (first | (refine wpList_load_row rfl 35 _ rfl _ rfl _ _ _ _ r0 Try.underlying35 rfl (by kernel_rfl) ?_) | fail)
    refine (c0.out _ (hh.out.below bW)).mono ?_
    rintro e w0 ⟨rfl, hb0⟩
    have B0 := Bel.to bW hb0
    have r0 := r0.keep hb0
    clear hb0 bW
    go_wp2_with (first | (refine wpList_load_row rfl 35 _ rfl _ rfl _ _ _ _ r0 Try.underlying35 rfl (by kernel_rfl) ?_) | fail)
    refine (c1.out _ (hh.out.below B0)).mono ?_
    rintro e w1 ⟨u, v, rfl, ⟨hu, hv⟩, hb1⟩
    obtain ⟨u1, u2, u3, rfl⟩ := Rd.shape hu
    obtain ⟨v1, v2, v3, rfl⟩ := Rd.shape hv
    unfold lineVal
    have B1 := Bel.to B0 hb1
    have r0 := r0.keep hb1
    clear hb1 B0
    go_upto_region 4 with (fail)
    obtain ⟨A, hA⟩ : ∃ A, A = (w1.alloc (Obj.cells #[(.slice u1 u2 u3), (.slice v1 v2 v3)] 35)) := ⟨_, rfl⟩
    have bA : Below w1.heap.size w1 A := by rw [hA]; exact Bel.al (Below.refl _ _) _
    have rA0 : LineAt A (w1.heap.size) ((.slice u1 u2 u3)) ((.slice v1 v2 v3)) := by rw [hA]; exact Row.new _ _ _
    have sA : w1.heap.size < A.heap.size := by rw [hA]; simp
    rw [← hA]
    clear hA
    have r0 := r0.keep bA
    have hu := hu.below bA
    have hv := hv.below bA
    have B1 : Below w.heap.size w A.drew := Bel.to (Bel.to B1 bA) (Below.drewSelf _)
    clear bA
    refine wp_region_held_drew (S := fun X => Rng X [(w.heap.size, [.slice ma a.length mc, .slice ba b.length bc]), (w1.heap.size, [.slice u1 u2 u3, .slice v1 v2 v3])]) (by kernel_rfl) (Rng.drew (Rng.cons r0 (Rng.cons rA0 (Rng.nil _)))) (fun hHeld => ?_)
    refine' wpAnyH_take (i := 0) (oi := _) (v := _) rfl (by kernel_rfl) (by kernel_rfl) (by kernel_rfl) (fun _ _ _ h => h) (yieldsIf_load_mid (by rfl) 35 _ rfl _ _ rfl ([.slice u1 u2 u3, .slice v1 v2 v3]) _ (fun X h => Rng.at1 h) Try.underlying35 rfl (by kernel_rfl)) hHeld ?_
    try simp only [Act.put, List.setIfInBounds_toArray, List.set_cons_zero, List.set_cons_succ]
    refine' wpAnyH_take (i := 1) (oi := _) (v := _) rfl (by kernel_rfl) (by kernel_rfl) (by kernel_rfl) (fun _ _ _ h => h) (yieldsIf_load_mid (by rfl) 35 _ rfl _ _ rfl ([.slice ma a.length mc, .slice ba b.length bc]) _ (fun X h => Rng.at0 h) Try.underlying35 rfl (by kernel_rfl)) hHeld ?_
    try simp only [Act.put, List.setIfInBounds_toArray, List.set_cons_zero, List.set_cons_succ]
    refine wpAnyH_ready (rs := [2]) (by kernel_rfl) (by simp) ?_
    refine AllReadyH.cons (o := _) rfl (fun K hK => ?_) AllReadyH.nil
    go_simp
    refine (c2.out _ (hh.out.below B1)).mono ?_
    rintro e w3 ⟨p, q, rfl, ⟨hp, hq⟩, hb3⟩
    obtain ⟨p1, p2, p3, rfl⟩ := Rd.shape hp
    obtain ⟨q1, q2, q3, rfl⟩ := Rd.shape hq
    have B2 := Bel.to B1 hb3
    have hu := (show Rd I64 A.drew _ _ from hu).below hb3
    have hv := (show Rd I64 A.drew _ _ from hv).below hb3
    have cS := same13_self _ _ _ _ x y w3 ⟨hu, hv⟩ ⟨hp, hq⟩
    replace cS := hide cS
    unfold lineVal at cS ⊢
    go_wp2_with fail
    refine hK.out _ _ (hHeld.keep hb3) (fun hHeld => ?_)
    clear hK K
    try simp only [Act.put, List.setIfInBounds_toArray, List.set_cons_zero, List.set_cons_succ]
    refine wpAnyH_ready (rs := [3]) (by kernel_rfl) (by simp) ?_
    refine AllReadyH.cons (o := _) rfl (fun K hK => ?_) AllReadyH.nil
    go_simp
    refine (cS.out).mono ?_
    rintro e w4 ⟨rfl, hb4⟩
    have B3 := Bel.to B2 hb4
    have hu := hu.below hb4
    have hv := hv.below hb4
    clear cS hp hq
    go_wp2_with fail
    refine hK.out _ _ (hHeld.keep hb4) (fun hHeld => ?_)
    clear hK K
    try simp only [Act.put, List.setIfInBounds_toArray, List.set_cons_zero, List.set_cons_succ]
    refine' wpAnyH_take (i := 4) (oi := _) (v := .bool true) rfl (by kernel_rfl) (by kernel_rfl) (by kernel_rfl) (fun _ _ _ h => h) (Or.inl ⟨by rfl, fun X _ => by go_simp⟩) hHeld ?_
    try simp only [Act.put, List.setIfInBounds_toArray, List.set_cons_zero, List.set_cons_succ]
    refine' wpAnyH_take (i := 5) (oi := _) (v := _) rfl (by kernel_rfl) (by kernel_rfl) (by kernel_rfl) (fun _ _ _ h => h) (yieldsIf_load_mid (by rfl) 35 _ rfl _ _ rfl ([.slice u1 u2 u3, .slice v1 v2 v3]) _ (fun X h => Rng.at1 h) Try.underlying35 rfl (by kernel_rfl)) hHeld ?_
    try simp only [Act.put, List.setIfInBounds_toArray, List.set_cons_zero, List.set_cons_succ]
    refine' wpAnyH_take (i := 7) (oi := _) (v := _) rfl (by kernel_rfl) (by kernel_rfl) (by kernel_rfl) (fun _ _ _ h => h) (yieldsIf_load_mid (by rfl) 35 _ rfl _ _ rfl ([.slice u1 u2 u3, .slice v1 v2 v3]) _ (fun X h => Rng.at1 h) Try.underlying35 rfl (by kernel_rfl)) hHeld ?_
    try simp only [Act.put, List.setIfInBounds_toArray, List.set_cons_zero, List.set_cons_succ]
    refine wpAnyH_ready (rs := [6]) (by kernel_rfl) (by simp) ?_
    refine AllReadyH.cons (o := _) rfl (fun K hK => ?_) AllReadyH.nil
    go_simp
    refine (mcanon_any _ _ x y _ ⟨hu, hv⟩ lx ly).mono ?_
    rintro e w5 ⟨p, q, rfl, ⟨hp, hq⟩, hb5⟩
    obtain ⟨p1, p2, p3, rfl⟩ := Rd.shape hp
    obtain ⟨q1, q2, q3, rfl⟩ := Rd.shape hq
    have B4 := Bel.to B3 hb5
    have hu := hu.below hb5
    have hv := hv.below hb5
    rw [ix.out] at hp
    rw [iy.out] at hq
    have cS := same13_self _ _ _ _ x y w5 ⟨hp, hq⟩ ⟨hu, hv⟩
    replace cS := hide cS
    unfold lineVal at cS ⊢
    go_wp2_with fail
    refine hK.out _ _ (hHeld.keep hb5) (fun hHeld => ?_)
    clear hK K
    try simp only [Act.put, List.setIfInBounds_toArray, List.set_cons_zero, List.set_cons_succ]
    refine wpAnyH_ready (rs := [8]) (by kernel_rfl) (by simp) ?_
    refine AllReadyH.cons (o := _) rfl (fun K hK => ?_) AllReadyH.nil
    go_simp
    refine (cS.out).mono ?_
    rintro e w6 ⟨rfl, hb6⟩
    have B5 := Bel.to B4 hb6
    clear cS hp hq hu hv
    go_wp2_with fail
    refine hK.out _ _ (hHeld.keep hb6) (fun hHeld => ?_)
    clear hK K
    try simp only [Act.put, List.setIfInBounds_toArray, List.set_cons_zero, List.set_cons_succ]
    refine' wpAnyH_take (i := 9) (oi := _) (v := .bool true) rfl (by kernel_rfl) (by kernel_rfl) (by kernel_rfl) (fun _ _ _ h => h) (Or.inl ⟨by rfl, fun X _ => by go_simp⟩) hHeld ?_
    try simp only [Act.put, List.setIfInBounds_toArray, List.set_cons_zero, List.set_cons_succ]
    refine' wpAnyH_take (i := 10) (oi := _) (v := .bool true) rfl (by kernel_rfl) (by kernel_rfl) (by kernel_rfl) (fun _ _ _ h => h) (Or.inl ⟨by rfl, fun X _ => by go_simp⟩) hHeld ?_
    try simp only [Act.put, List.setIfInBounds_toArray, List.set_cons_zero, List.set_cons_succ]
    refine wpAnyH_ready (rs := [11]) (by kernel_rfl) (by simp) ?_
    refine AllReadyH.cons (o := _) rfl (fun K hK => ?_) AllReadyH.nil
    go_simp
    refine (awake13_any _).mono ?_
    rintro e w7 ⟨rfl, hb7⟩
    have B6 := Bel.to B5 hb7
    go_wp2_with fail
    refine hK.out _ _ (hHeld.keep hb7) (fun hHeld => ?_)
    clear hK K
    try simp only [Act.put, List.setIfInBounds_toArray, List.set_cons_zero, List.set_cons_succ]
    refine' wpAnyH_take (i := 12) (oi := _) (v := .bool true) rfl (by kernel_rfl) (by kernel_rfl) (by kernel_rfl) (fun _ _ _ h => h) (Or.inl ⟨by rfl, fun X _ => by go_simp⟩) hHeld ?_
    try simp only [Act.put, List.setIfInBounds_toArray, List.set_cons_zero, List.set_cons_succ]
    refine' wpAnyH_take (i := 13) (oi := _) (v := .bool true) rfl (by kernel_rfl) (by kernel_rfl) (by kernel_rfl) (fun _ _ _ h => h) (Or.inl ⟨by rfl, fun X _ => by go_simp⟩) hHeld ?_
    try simp only [Act.put, List.setIfInBounds_toArray, List.set_cons_zero, List.set_cons_succ]
    refine wpAnyH_done (by kernel_rfl) ?_ _
    go_simp
    go_wp2
    go_ret
    exact ⟨rfl, B6⟩
end Go.Proofs.Ytlppomkpmnpmcaa
end

section
/- MatrixCanons: for every input the Go function lotterylaw13.MatrixCanons returns true, and each argument reads afterwards as before. Conditions: none. -/
namespace Go.Proofs.Ytlppomkpmnpmcaa.matrixCanons
open Go.ChangeShapes Go.WideShapes Go.ChangeAt Go.RowKit
set_option linter.unusedVariables false

theorem own : ownKnob Try.prog.godebug = none := by kernel_rfl
theorem laidOut : laidOutB Try.prog = true := by kernel_rfl

set_option maxRecDepth 100000 in
theorem lifted (os : Os) (started : os.Started) (H : Type) (enc : TypeId × Value → H) :
    ReturnsInHanded {} Try.checked os 7 .any (Rows.matrixCanonsSpec.pre6 enc Try.prog Try.f7 Rows.matrixCanonsRow.domain false) (Rows.matrixCanonsSpec.post enc Try.prog Try.f7 false true false false) := by
  refine returnsInHanded_of_change (C := Try.checked) own started (by kernel_rfl) Try.func7
    (ChangeSpec.witness6 (enc := enc) (C := Try.checked) false ⟨#[], #[.agg #[.slice none 0 0, .slice none 0 0]], []⟩ 8 (by kernel_rfl) (by kernel_rfl) (by kernel_rfl) (by kernel_rfl)) ?_
  intro W base args ds gs before hval0 hW hcnd _
  have hval : ∀ (j : Nat) t v, Try.f7.params[j]? = some t → args[j]? = some v → Value.okWide Try.prog W .any base t v := hval0
  have hW' := hW
  obtain ⟨p, q, hA0, hV, rfl, hfz, hnd⟩ := hW
  have hA : DataW.TrodAll enc Try.prog W 0 (fun _ => true) true Try.f7.params.toList args.toList ds p := hA0
  rw [Try.params7] at hA hval
  obtain ⟨v0, vs0, d0, ds0, p0, q0, hargs, rfl, rfl, h0, r0⟩ := trodAll_cons hA
  obtain ⟨rfl, rfl, rfl⟩ := trodAll_nil r0
  obtain rfl : args = #[v0] := by cases args; simp_all
  obtain ⟨rfl, rfl⟩ := trodVars_none hV
  obtain ⟨cs0, rfl, hsz0⟩ := okWide_struct Try.underlying35 (hval 0 35 v0 rfl rfl)
  have k0 := h0
  have lt0 : ∀ x ∈ p0, x.block < W.heap.size := by obtain ⟨m, hm⟩ := k0; exact DataW.trod_lt m _ _ _ hm
  obtain ⟨mv0, bv0, la0, lb0, eg0, rg0⟩ := line_trod h0
  rw [eg0] at k0 hW' ⊢
  clear hA0 hval0
  refine (canons13_any mv0 bv0 la0 lb0 W rg0).mono fun e W' ⟨he, bel⟩ => ?_
  subst he
  exact ⟨_, rfl, _, _, _, [], _, [], hW', trodAll_mk1 (shut_bool Try.underlying4 _), (trodAll_cons_mk (Below.trod laidOut (by kernel_rfl) (of_decide_eq_true (by kernel_rfl)) k0 bel lt0) trodAll_mk0), rfl, bel.frame _, fun h => by cases h⟩

theorem over : Rows.matrixCanonsRow.holds Try.pinned (OpenSpec.ofChange Rows.matrixCanonsSpec) :=
  OpenClaim.holds_of_wide 7 Try.f7 rfl rfl rfl rfl rfl rfl rfl ⟨rfl, rfl, rfl, rfl, rfl⟩ rfl rfl rfl rfl rfl (by kernel_rfl) Try.func7 (by kernel_rfl)
    (of_decide_eq_true (by kernel_rfl)) (by unfold Func.isWrapper; first | (rw [if_pos (by decide +kernel)]; kernel_rfl) | (rw [if_neg (by decide +kernel)]; exact ⟨rfl, rfl⟩))
    (fun os started H enc _ => lifted os started H enc)

theorem proved : Rows.MatrixCanonsSaid := over
#print axioms proved
end Go.Proofs.Ytlppomkpmnpmcaa.matrixCanons
end

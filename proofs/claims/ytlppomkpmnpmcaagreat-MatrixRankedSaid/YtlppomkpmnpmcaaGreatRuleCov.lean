/- rulecheck.covers. -/
import Derived.Test.YtlppomkpmnpmcaaGreatRuleSmall
import Derived.Deep.RegionHeld3
import Derived.Deep.DeepCutAuto
import Derived.Deep.MidRow
open Go.RowKit
set_option linter.unusedVariables false
set_option linter.unusedSimpArgs false
namespace Go.Proofs.YtlppomkpmnpmcaaGreat

theorem rangeAt_below {X X' : World} {b o : Nat} {cs : List Value} (hb : Below X.heap.size X X') (h : X.rangeAt b o cs) : X'.rangeAt b o cs := fun j v hv => Bel.cellOf hb (h j v hv)
theorem cov_keep {X X' : World} {b c d : Nat} {cs ds es : List Value} (hb : Below X.heap.size X X') (h : X.rangeAt b 0 cs ∧ X.rangeAt c 0 ds ∧ X.rangeAt d 0 es) : X'.rangeAt b 0 cs ∧ X'.rangeAt c 0 ds ∧ X'.rangeAt d 0 es :=
  ⟨rangeAt_below hb h.1, rangeAt_below hb h.2.1, rangeAt_below hb h.2.2⟩

theorem covers_choose (g : GameD) (a t : TierD) (av tv : Value) (w : World) (hk : g.kind = 1) :
    Calls Tryz.prog 66 #[gameVal g av tv, tierVal a, tierVal t] w (BoolB (coversB g a t) w) := by
  obtain ⟨r, hr⟩ : ∃ r, r = coversB g a t := ⟨_, rfl⟩
  rw [← hr]
  unfold coversB at hr
  rw [if_pos hk] at hr
  obtain ⟨gname, gkind, gprice, gmain, gof, gbonus, gbonusOf, gextra, gdraws, gsystem, gdays, gat, gclose, gcancel, gexpiry, gpool, greserve, ground, gcap, grolls, ga, gt⟩ := g
  obtain ⟨amain, abonus, aextra, amode, akind, avalue⟩ := a
  obtain ⟨tmain, tbonus, textra, tmode, tkind, tvalue⟩ := t
  simp only [] at hk hr
  unfold gameVal tierVal
  simp only []
  replace hr := hide hr
  subst hk
  go_enter Tryz.func66, Tryz.ntmps66
  go_wp2
  all_goals
    go_ret
    refine ⟨?_, Bel.al (Bel.al (Bel.al (Below.refl _ _) _) _) _⟩
    rw [hr.out]
    first | (simp_all; done) | (congr 2; simp_all; omega) | (rw [decide_eq_false (by omega)]; done) | (rw [decide_eq_true (by omega)]; done)

set_option maxHeartbeats 4000000 in
set_option maxRecDepth 100000 in
theorem covers_digits (g : GameD) (a t : TierD) (av tv : Value) (w : World) (hk : g.kind ≠ 1) :
    Calls Tryz.prog 66 #[gameVal g av tv, tierVal a, tierVal t] w (BoolB (coversB g a t) w) := by
  obtain ⟨r, hr⟩ : ∃ r, r = coversB g a t := ⟨_, rfl⟩
  rw [← hr]
  unfold coversB at hr
  rw [if_neg hk] at hr
  obtain ⟨gname, gkind, gprice, gmain, gof, gbonus, gbonusOf, gextra, gdraws, gsystem, gdays, gat, gclose, gcancel, gexpiry, gpool, greserve, ground, gcap, grolls, ga, gt⟩ := g
  obtain ⟨amain, abonus, aextra, amode, akind, avalue⟩ := a
  obtain ⟨tmain, tbonus, textra, tmode, tkind, tvalue⟩ := t
  obtain ⟨ma, hma⟩ : ∃ m, m = modeV ⟨gname, gkind, gprice, gmain, gof, gbonus, gbonusOf, gextra, gdraws, gsystem, gdays, gat, gclose, gcancel, gexpiry, gpool, greserve, ground, gcap, grolls, ga, gt⟩ ⟨amain, abonus, aextra, amode, akind, avalue⟩ := ⟨_, rfl⟩
  obtain ⟨mt, hmt⟩ : ∃ m, m = modeV ⟨gname, gkind, gprice, gmain, gof, gbonus, gbonusOf, gextra, gdraws, gsystem, gdays, gat, gclose, gcancel, gexpiry, gpool, greserve, ground, gcap, grolls, ga, gt⟩ ⟨tmain, tbonus, textra, tmode, tkind, tvalue⟩ := ⟨_, rfl⟩
  rw [← hma, ← hmt] at hr
  simp only [] at hk hr
  unfold gameVal tierVal
  simp only []
  replace hr := hide hr
  replace hma := hide hma
  replace hmt := hide hmt
  have hkb : (gkind == 1) = false := by simpa using hk
  replace hk := hide hk
  go_enter Tryz.func66, Tryz.ntmps66
  go_upto_region 1 with (fail)
  obtain ⟨W, hW⟩ : ∃ W, W = (((w.alloc (Obj.cells #[.string gname, .int .i64 gkind, .int .i64 gprice, .int .i64 gmain, .int .i64 gof, .int .i64 gbonus, .int .i64 gbonusOf, .int .i64 gextra, .int .i64 gdraws, .int .i64 gsystem, .int .i64 gdays, .int .i64 gat, .int .i64 gclose, .int .i64 gcancel, .int .i64 gexpiry, .int .i64 gpool, .int .i64 greserve, .int .i64 ground, .int .i64 gcap, .int .i64 grolls, av, tv] 25)).alloc (Obj.cells #[.int .i64 amain, .int .i64 abonus, .int .i64 aextra, .int .i64 amode, .int .i64 akind, .int .i64 avalue] 46)).alloc (Obj.cells #[.int .i64 tmain, .int .i64 tbonus, .int .i64 textra, .int .i64 tmode, .int .i64 tkind, .int .i64 tvalue] 46)) := ⟨_, rfl⟩
  have bW : Below w.heap.size w W := by rw [hW]; exact Bel.al (Bel.al (Bel.al (Below.refl _ _) _) _) _
  have r0 : Row W (w.heap.size) 25 [.string gname, .int .i64 gkind, .int .i64 gprice, .int .i64 gmain, .int .i64 gof, .int .i64 gbonus, .int .i64 gbonusOf, .int .i64 gextra, .int .i64 gdraws, .int .i64 gsystem, .int .i64 gdays, .int .i64 gat, .int .i64 gclose, .int .i64 gcancel, .int .i64 gexpiry, .int .i64 gpool, .int .i64 greserve, .int .i64 ground, .int .i64 gcap, .int .i64 grolls, av, tv] := by rw [hW]; exact Row.alloc (Row.alloc (Row.new _ _ _) _) _
  have c0_1 : W.cell? ⟨w.heap.size, 1, none⟩ = some (.int .i64 gkind) := Row.cell r0 (i := 1) (by simp)
  have r1 : Row W (w.heap.size + 1) 46 [.int .i64 amain, .int .i64 abonus, .int .i64 aextra, .int .i64 amode, .int .i64 akind, .int .i64 avalue] := by rw [hW]; exact Row.alloc (Row.at2 _ _ _ _) _
  have c1_0 : W.cell? ⟨w.heap.size + 1, 0, none⟩ = some (.int .i64 amain) := Row.cell r1 (i := 0) (by simp)
  have c1_1 : W.cell? ⟨w.heap.size + 1, 1, none⟩ = some (.int .i64 abonus) := Row.cell r1 (i := 1) (by simp)
  have c1_2 : W.cell? ⟨w.heap.size + 1, 2, none⟩ = some (.int .i64 aextra) := Row.cell r1 (i := 2) (by simp)
  have r2 : Row W (w.heap.size + 1 + 1) 46 [.int .i64 tmain, .int .i64 tbonus, .int .i64 textra, .int .i64 tmode, .int .i64 tkind, .int .i64 tvalue] := by rw [hW]; exact Row.at3 _ _ _ _ _
  have c2_0 : W.cell? ⟨w.heap.size + 1 + 1, 0, none⟩ = some (.int .i64 tmain) := Row.cell r2 (i := 0) (by simp)
  have c2_1 : W.cell? ⟨w.heap.size + 1 + 1, 1, none⟩ = some (.int .i64 tbonus) := Row.cell r2 (i := 1) (by simp)
  have c2_2 : W.cell? ⟨w.heap.size + 1 + 1, 2, none⟩ = some (.int .i64 textra) := Row.cell r2 (i := 2) (by simp)
  have sW : w.heap.size + 1 + 1 < W.heap.size := by rw [hW]; simp
  rw [← hW]
  clear hW
  have pW : World.rangeAt W.drew (w.heap.size) 0 [.string gname, .int .i64 gkind, .int .i64 gprice, .int .i64 gmain, .int .i64 gof, .int .i64 gbonus, .int .i64 gbonusOf, .int .i64 gextra, .int .i64 gdraws, .int .i64 gsystem, .int .i64 gdays, .int .i64 gat, .int .i64 gclose, .int .i64 gcancel, .int .i64 gexpiry, .int .i64 gpool, .int .i64 greserve, .int .i64 ground, .int .i64 gcap, .int .i64 grolls, av, tv] ∧ World.rangeAt W.drew (w.heap.size + 1) 0 [.int .i64 amain, .int .i64 abonus, .int .i64 aextra, .int .i64 amode, .int .i64 akind, .int .i64 avalue] ∧ World.rangeAt W.drew (w.heap.size + 1 + 1) 0 [.int .i64 tmain, .int .i64 tbonus, .int .i64 textra, .int .i64 tmode, .int .i64 tkind, .int .i64 tvalue] := ⟨fun j v hv => by rw [Nat.zero_add]; exact (Row.cell? r0 j).trans hv, fun j v hv => by rw [Nat.zero_add]; exact (Row.cell? r1 j).trans hv, fun j v hv => by rw [Nat.zero_add]; exact (Row.cell? r2 j).trans hv⟩
  clear c0_1 c1_0 c1_1 c1_2 c2_0 c2_1 c2_2
  have c0_1 : W.cell? ⟨w.heap.size, 1, none⟩ = some (.int .i64 gkind) := Row.cell r0 (i := 1) (by simp)
  replace pW := hide pW
  go_upto_region 3 with (fail)
  go_cut [7, 8] (fun x y X => x = .int .i64 ma ∧ y = .int .i64 mt ∧ X.cell? ⟨w.heap.size + 1, 0, none⟩ = some (.int .i64 amain) ∧ X.cell? ⟨w.heap.size + 1 + 1, 0, none⟩ = some (.int .i64 tmain) ∧ Below w.heap.size w X)
  case first =>
    have pV := pW.out
    refine wp_region_held_drew (S := fun X => World.rangeAt X (w.heap.size) 0 [.string gname, .int .i64 gkind, .int .i64 gprice, .int .i64 gmain, .int .i64 gof, .int .i64 gbonus, .int .i64 gbonusOf, .int .i64 gextra, .int .i64 gdraws, .int .i64 gsystem, .int .i64 gdays, .int .i64 gat, .int .i64 gclose, .int .i64 gcancel, .int .i64 gexpiry, .int .i64 gpool, .int .i64 greserve, .int .i64 ground, .int .i64 gcap, .int .i64 grolls, av, tv] ∧ World.rangeAt X (w.heap.size + 1) 0 [.int .i64 amain, .int .i64 abonus, .int .i64 aextra, .int .i64 amode, .int .i64 akind, .int .i64 avalue] ∧ World.rangeAt X (w.heap.size + 1 + 1) 0 [.int .i64 tmain, .int .i64 tbonus, .int .i64 textra, .int .i64 tmode, .int .i64 tkind, .int .i64 tvalue]) (by kernel_rfl) pV (fun hHeld => ?_)
    refine' wpAnyH_take (i := 0) (oi := _) (v := _) rfl (by kernel_rfl) (by kernel_rfl) (by kernel_rfl) (fun _ _ _ h => h) (yieldsIf_load_mid (by rfl) 25 _ rfl _ _ rfl [.string gname, .int .i64 gkind, .int .i64 gprice, .int .i64 gmain, .int .i64 gof, .int .i64 gbonus, .int .i64 gbonusOf, .int .i64 gextra, .int .i64 gdraws, .int .i64 gsystem, .int .i64 gdays, .int .i64 gat, .int .i64 gclose, .int .i64 gcancel, .int .i64 gexpiry, .int .i64 gpool, .int .i64 greserve, .int .i64 ground, .int .i64 gcap, .int .i64 grolls, av, tv] _ (fun X h => h.1) Tryz.underlying25 rfl (by kernel_rfl)) hHeld ?_
    try simp only [Act.put, List.setIfInBounds_toArray, List.set_cons_zero, List.set_cons_succ]
    refine' wpAnyH_take (i := 1) (oi := _) (v := _) rfl (by kernel_rfl) (by kernel_rfl) (by kernel_rfl) (fun _ _ _ h => h) (yieldsIf_load_mid (by rfl) 46 _ rfl _ _ rfl [.int .i64 amain, .int .i64 abonus, .int .i64 aextra, .int .i64 amode, .int .i64 akind, .int .i64 avalue] _ (fun X h => h.2.1) Tryz.underlying46 rfl (by kernel_rfl)) hHeld ?_
    try simp only [Act.put, List.setIfInBounds_toArray, List.set_cons_zero, List.set_cons_succ]
    refine' wpAnyH_take (i := 3) (oi := _) (v := _) rfl (by kernel_rfl) (by kernel_rfl) (by kernel_rfl) (fun _ _ _ h => h) (yieldsIf_load_mid (by rfl) 25 _ rfl _ _ rfl [.string gname, .int .i64 gkind, .int .i64 gprice, .int .i64 gmain, .int .i64 gof, .int .i64 gbonus, .int .i64 gbonusOf, .int .i64 gextra, .int .i64 gdraws, .int .i64 gsystem, .int .i64 gdays, .int .i64 gat, .int .i64 gclose, .int .i64 gcancel, .int .i64 gexpiry, .int .i64 gpool, .int .i64 greserve, .int .i64 ground, .int .i64 gcap, .int .i64 grolls, av, tv] _ (fun X h => h.1) Tryz.underlying25 rfl (by kernel_rfl)) hHeld ?_
    try simp only [Act.put, List.setIfInBounds_toArray, List.set_cons_zero, List.set_cons_succ]
    refine' wpAnyH_take (i := 4) (oi := _) (v := _) rfl (by kernel_rfl) (by kernel_rfl) (by kernel_rfl) (fun _ _ _ h => h) (yieldsIf_load_mid (by rfl) 46 _ rfl _ _ rfl [.int .i64 tmain, .int .i64 tbonus, .int .i64 textra, .int .i64 tmode, .int .i64 tkind, .int .i64 tvalue] _ (fun X h => h.2.2) Tryz.underlying46 rfl (by kernel_rfl)) hHeld ?_
    try simp only [Act.put, List.setIfInBounds_toArray, List.set_cons_zero, List.set_cons_succ]
    refine wpAnyH_ready (rs := [2]) (by kernel_rfl) (by simp) ?_
    refine AllReadyH.cons (o := _) rfl (fun K hK => ?_) AllReadyH.nil
    ·
      go_simp
      refine (effMode_any ⟨gname, gkind, gprice, gmain, gof, gbonus, gbonusOf, gextra, gdraws, gsystem, gdays, gat, gclose, gcancel, gexpiry, gpool, greserve, ground, gcap, grolls, ga, gt⟩ ⟨amain, abonus, aextra, amode, akind, avalue⟩ av tv _).mono ?_
      rintro e wa ⟨rfl, hba⟩
      have Ba := Bel.to (Below.drew bW) hba
      have pa := cov_keep hba pV
      go_wp2_with fail
      refine hK.out _ _ pa (fun hHeld => ?_)
      clear hK K
      try simp only [Act.put, List.setIfInBounds_toArray, List.set_cons_zero, List.set_cons_succ]
      refine wpAnyH_ready (rs := [5]) (by kernel_rfl) (by simp) ?_
      refine AllReadyH.cons (o := _) rfl (fun K hK => ?_) AllReadyH.nil
      go_simp
      refine (effMode_any ⟨gname, gkind, gprice, gmain, gof, gbonus, gbonusOf, gextra, gdraws, gsystem, gdays, gat, gclose, gcancel, gexpiry, gpool, greserve, ground, gcap, grolls, ga, gt⟩ ⟨tmain, tbonus, textra, tmode, tkind, tvalue⟩ av tv _).mono ?_
      rintro e wt ⟨rfl, hbt⟩
      have Bt := Bel.to Ba hbt
      have pt := cov_keep hbt pa
      go_wp2_with fail
      refine hK.out _ _ pt (fun hHeld => ?_)
      clear hK K
      try simp only [Act.put, List.setIfInBounds_toArray, List.set_cons_zero, List.set_cons_succ]
      refine' wpAnyH_take (i := 6) (oi := _) (v := .int .i64 (modeV ⟨gname, gkind, gprice, gmain, gof, gbonus, gbonusOf, gextra, gdraws, gsystem, gdays, gat, gclose, gcancel, gexpiry, gpool, greserve, ground, gcap, grolls, ga, gt⟩ ⟨amain, abonus, aextra, amode, akind, avalue⟩)) rfl (by kernel_rfl) (by kernel_rfl) (by kernel_rfl) (fun _ _ _ h => h) (Or.inl ⟨by rfl, fun X _ => by go_simp⟩) hHeld ?_
      try simp only [Act.put, List.setIfInBounds_toArray, List.set_cons_zero, List.set_cons_succ]
      refine' wpAnyH_take (i := 7) (oi := _) (v := .int .i64 (modeV ⟨gname, gkind, gprice, gmain, gof, gbonus, gbonusOf, gextra, gdraws, gsystem, gdays, gat, gclose, gcancel, gexpiry, gpool, greserve, ground, gcap, grolls, ga, gt⟩ ⟨tmain, tbonus, textra, tmode, tkind, tvalue⟩)) rfl (by kernel_rfl) (by kernel_rfl) (by kernel_rfl) (fun _ _ _ h => h) (Or.inl ⟨by rfl, fun X _ => by go_simp⟩) hHeld ?_
      try simp only [Act.put, List.setIfInBounds_toArray, List.set_cons_zero, List.set_cons_succ]
      refine wpAnyH_done (by kernel_rfl) ?_ _
      go_simp
      go_wp2_with fail
      go_meet
      rw [← hma.out, ← hmt.out]
      have q := pt
      obtain ⟨h0, h1, h2⟩ := q
      exact ⟨rfl, rfl, h1 0 _ rfl, h2 0 _ rfl, Bt⟩
  case rest =>
    obtain ⟨rfl, rfl, k1, k2, hbel⟩ := hcut
    clear r0 r1 r2 bW sW c0_1 pW
    go_wp2
    all_goals
      go_ret
      refine ⟨?_, hbel⟩
      rw [hr.out]
      simp_all

theorem covers_any (g : GameD) (a t : TierD) (av tv : Value) (w : World) :
    Calls Tryz.prog 66 #[gameVal g av tv, tierVal a, tierVal t] w (BoolB (coversB g a t) w) := by
  by_cases h : g.kind = 1
  · exact covers_choose g a t av tv w h
  · exact covers_digits g a t av tv w h
end Go.Proofs.YtlppomkpmnpmcaaGreat

/- rulecheck.Check. -/
import Derived.Test.YtlppomkpmnpmcaaGreatRuleTiers
import Derived.Test.YtlppomkpmnpmcaaGreatRuleMat
open Go.RowKit
set_option linter.unusedVariables false
set_option linter.unusedSimpArgs false
namespace Go.Proofs.YtlppomkpmnpmcaaGreat

theorem bytes_loop_len (s : ByteArray) : ∀ i r, (ByteArray.toList.loop s i r).length = (s.size - i) + r.length := by
  intro i r
  induction i, r using ByteArray.toList.loop.induct s with
  | case1 i r h ih => unfold ByteArray.toList.loop; rw [if_pos h, ih]; simp; omega
  | case2 i r h => unfold ByteArray.toList.loop; rw [if_neg h]; simp; omega
theorem bytes_toList_len (s : ByteArray) : s.toList.length = s.size := by
  unfold ByteArray.toList; rw [bytes_loop_len]; simp
theorem str_ne (s : ByteArray) (h : s ≠ ⟨#[]⟩) : s.toList.isEmpty = false := by
  cases hs : s.toList with
  | cons a l => rfl
  | nil =>
    exfalso
    have h1 := bytes_toList_len s
    rw [hs] at h1
    obtain ⟨⟨l⟩⟩ := s
    have : l.length = 0 := h1.symm
    exact h (by rw [List.length_eq_zero_iff.1 this])

/-- A code, and some text. -/
def ErrS (c : Int) (w : World) (e : Ending) (w' : World) : Prop := ∃ s : ByteArray, e = .returned (.tuple #[.int .i64 c, .string s]) ∧ Below w.heap.size w w'

set_option maxHeartbeats 2000000 in
set_option maxRecDepth 100000 in
theorem gcheck_any (g : GameD) (av tv : Value) (ms : List AddonM) (w : World) (h : GameR w av tv ms g) :
    Calls Tryz.prog 20 #[gameVal g av tv] w (ErrS (gameE g) w) := by
  obtain ⟨h1, h2, h3⟩ := h
  obtain ⟨aa, ac, rfl, hal, ham⟩ := h1.1.shape
  obtain ⟨ta, tc, rfl, htl, htm⟩ := h3.shape
  obtain ⟨r, hr⟩ : ∃ r, r = gameE g := ⟨_, rfl⟩
  rw [← hr]
  unfold gameE at hr
  have cm := hide (fun X => badMatrix_any g (.slice aa ms.length ac) (.slice ta g.tiers.length tc) X)
  have ct := hide (fun X => badTerms_any g (.slice aa ms.length ac) (.slice ta g.tiers.length tc) X)
  have cg := hide (fun X (hX : RdS 6 tierCells X (.slice ta g.tiers.length tc) g.tiers) => checkTiers_any g (.slice aa ms.length ac) _ X hX ⟨_, _, _, rfl⟩)
  have ca := hide (fun X (hX : AddonsR X (.slice aa ms.length ac) ms) => checkAddons_any _ ms X hX)
  rw [h2] at ca
  obtain ⟨cmv, hcm⟩ : ∃ c, c = matB g := ⟨_, rfl⟩
  obtain ⟨ctv, hct⟩ : ∃ c, c = termB g := ⟨_, rfl⟩
  obtain ⟨cgv, hcg⟩ : ∃ c, c = tiersE g := ⟨_, rfl⟩
  obtain ⟨cav, hca⟩ : ∃ c, c = addonsE g.addons := ⟨_, rfl⟩
  obtain ⟨nm, hnm⟩ : ∃ b, b = nameB g.name := ⟨_, rfl⟩
  rw [← hcm, ← hct, ← hcg, ← hca, ← hnm] at hr
  rw [← hcm] at cm
  rw [← hct] at ct
  rw [← hcg] at cg
  rw [← hca] at ca
  clear hcm hct hcg hca h2
  replace h1 := hide h1
  replace h3 := hide h3
  obtain ⟨gname, gkind, gprice, gmain, gof, gbonus, gbonusOf, gextra, gdraws, gsystem, gdays, gat, gclose, gcancel, gexpiry, gpool, greserve, ground, gcap, grolls, ga, gt⟩ := g
  (try simp only [] at hr hnm cm ct cg h3 htl)
  unfold gameVal at cm ct cg ⊢
  (try simp only [] at cm ct cg ⊢)
  replace hr := hide hr
  replace hnm := hide hnm
  go_enter Tryz.func20, Tryz.ntmps20
  go_upto_region 1 with (fail)
  obtain ⟨W, hW⟩ : ∃ W, W = (w.alloc (Obj.cells #[.string gname, .int .i64 gkind, .int .i64 gprice, .int .i64 gmain, .int .i64 gof, .int .i64 gbonus, .int .i64 gbonusOf, .int .i64 gextra, .int .i64 gdraws, .int .i64 gsystem, .int .i64 gdays, .int .i64 gat, .int .i64 gclose, .int .i64 gcancel, .int .i64 gexpiry, .int .i64 gpool, .int .i64 greserve, .int .i64 ground, .int .i64 gcap, .int .i64 grolls, (.slice aa ms.length ac), (.slice ta gt.length tc)] 25)) := ⟨_, rfl⟩
  have bW : Below w.heap.size w W := by rw [hW]; exact Bel.al (Below.refl _ _) _
  have r0 : Row W (w.heap.size) 25 [.string gname, .int .i64 gkind, .int .i64 gprice, .int .i64 gmain, .int .i64 gof, .int .i64 gbonus, .int .i64 gbonusOf, .int .i64 gextra, .int .i64 gdraws, .int .i64 gsystem, .int .i64 gdays, .int .i64 gat, .int .i64 gclose, .int .i64 gcancel, .int .i64 gexpiry, .int .i64 gpool, .int .i64 greserve, .int .i64 ground, .int .i64 gcap, .int .i64 grolls, (.slice aa ms.length ac), (.slice ta gt.length tc)] := by rw [hW]; exact Row.new _ _ _
  have c0_0 : W.cell? ⟨w.heap.size, 0, none⟩ = some (.string gname) := Row.cell r0 (i := 0) (by simp)
  have c0_1 : W.cell? ⟨w.heap.size, 1, none⟩ = some (.int .i64 gkind) := Row.cell r0 (i := 1) (by simp)
  have c0_20 : W.cell? ⟨w.heap.size, 20, none⟩ = some ((.slice aa ms.length ac)) := Row.cell r0 (i := 20) (by simp)
  have sW : w.heap.size < W.heap.size := by rw [hW]; simp
  rw [← hW]
  clear hW
  go_wp2_with fail
  refine (name_any _ _).mono ?_
  rintro e w' ⟨rfl, rfl⟩
  rw [← hnm.out]
  cases nm
  · have hr2 : r = 4 := by rw [hr.out]; simp
    replace hr2 := hide hr2
    clear hr
    go_wp2
    go_ret2
    rw [hr2.out]
    exact ⟨_, rfl, bW⟩
  · by_cases hk : gkind = 1 ∨ gkind = 2
    · have hr2 : r = if cmv = false then 2 else if ctv = false then 2 else if cav ≠ 0 then cav else cgv := by
        rw [hr.out, if_neg (by simp), if_neg (by omega)]
      replace hr2 := hide hr2
      clear hr
      have hcm2 := hide cm.out
      rcases hk with rfl | rfl
      all_goals
        go_wp2_with (first | (refine wpList_load_row rfl 25 _ rfl _ rfl _ _ _ _ r0 Tryz.underlying25 rfl (by kernel_rfl) ?_) | fail)
        refine (cm.out _).mono ?_
        rintro e w1 ⟨s1, rfl, hs1, hs1', hb1⟩
        have B1 := Bel.to bW hb1
        have q1 := Row.keep r0 hb1
        have d1 := Bel.cellOf hb1 c0_20
        clear hb1 r0 c0_0 c0_1 c0_20 cm
        cases cmv
        · have hr3 : r = 2 := by rw [hr2.out]; simp
          have hne := hs1' rfl
          have hne2 : s1.toList.isEmpty = false := str_ne _ hne
          replace hr3 := hide hr3
          clear hs1 hs1'
          go_wp2
          go_ret2
          rw [hr3.out]
          exact ⟨_, rfl, B1⟩
        · have he := hs1 rfl
          subst he
          clear hs1 hs1'
          go_wp2_with (first | (refine wpList_load_row rfl 25 _ rfl _ rfl _ _ _ _ q1 Tryz.underlying25 rfl (by kernel_rfl) ?_) | fail)
          refine (ct.out _).mono ?_
          rintro e w2 ⟨s2, rfl, hs2, hs2', hb2⟩
          have B2 := Bel.to B1 hb2
          have q2 := Row.keep q1 hb2
          have d2 := Bel.cellOf hb2 d1
          clear hb2 q1 d1 ct
          cases ctv
          · have hr3 : r = 2 := by rw [hr2.out]; simp
            have hne := hs2' rfl
            have hne2 : s2.toList.isEmpty = false := str_ne _ hne
            replace hr3 := hide hr3
            clear hs2 hs2'
            go_wp2
            go_ret2
            rw [hr3.out]
            exact ⟨_, rfl, B2⟩
          · have he := hs2 rfl
            subst he
            clear hs2 hs2'
            go_wp2_with fail
            refine (ca.out _ (h1.out.below B2)).mono ?_
            rintro e w3 ⟨rfl, hb3⟩
            have B3 := Bel.to B2 hb3
            have q3 := Row.keep q2 hb3
            clear hb3 q2 d2 ca
            by_cases hc0 : cav = 0
            · have hr3 : r = cgv := by rw [hr2.out, if_neg (by simp), if_neg (by simp), if_neg (by simpa using hc0)]
              replace hr3 := hide hr3
              subst hc0
              go_wp2_with (first | (refine wpList_load_row rfl 25 _ rfl _ rfl _ _ _ _ q3 Tryz.underlying25 rfl (by kernel_rfl) ?_) | fail)
              refine (cg.out _ (h3.out.below B3)).mono ?_
              rintro e w4 ⟨rfl, hb4⟩
              by_cases hc1 : cgv = 0
              · subst hc1
                go_wp2
                go_ret2
                rw [hr3.out]
                exact ⟨_, rfl, Bel.to B3 hb4⟩
              · have hcb : (cgv != 0) = true := by simpa using hc1
                replace hc1 := hide hc1
                go_wp2
                go_ret2
                rw [hr3.out]
                exact ⟨_, rfl, Bel.to B3 hb4⟩
            · have hr3 : r = cav := by rw [hr2.out, if_neg (by simp), if_neg (by simp), if_pos hc0]
              have hcb : (cav != 0) = true := by simpa using hc0
              replace hr3 := hide hr3
              replace hc0 := hide hc0
              go_wp2
              go_ret2
              rw [hr3.out]
              exact ⟨_, rfl, B3⟩
    · have hr2 : r = 7 := by rw [hr.out, if_neg (by simp), if_pos (by omega)]
      replace hr2 := hide hr2
      have k1 : (gkind != 1) = true := by simp; omega
      have k2 : (gkind != 2) = true := by simp; omega
      clear hr hk
      go_wp2
      go_ret2
      rw [hr2.out]
      exact ⟨_, rfl, bW⟩
end Go.Proofs.YtlppomkpmnpmcaaGreat

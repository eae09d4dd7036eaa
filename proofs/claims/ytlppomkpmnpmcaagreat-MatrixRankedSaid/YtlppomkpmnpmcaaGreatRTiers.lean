/- lotteryref12.Tiers. -/
import Derived.Test.YtlppomkpmnpmcaaGreatRCov
import Derived.Test.YtlppomkpmnpmcaaGreatRuleTiers
open Go.RowKit
set_option linter.unusedVariables false
set_option linter.unusedSimpArgs false
namespace Go.Proofs.YtlppomkpmnpmcaaGreat

theorem Below.drewL {w w' : World} (h : Below w.drew.heap.size w.drew w') : Below w.heap.size w w' := Bel.to (Below.drew (Below.refl _ _)) h

theorem rtier_any (g : GameD) (t : TierD) (av tv : Value) (w : World) (hk : g.kind = 1 ∨ g.kind = 2) (b1 : g.main ≤ 10) (b2 : g.bonus ≤ 4) (b3 : g.extra ≤ 4) :
    Calls Tryz.prog 88 #[gameVal g av tv, tierVal t] w (IntB (tierE g t) w) := by
  rcases hk with h | h
  · exact rtier_choose g t av tv w h b1 b2 b3
  · exact rtier_digits g t av tv w h

set_option maxHeartbeats 4000000 in
set_option maxRecDepth 100000 in
theorem rtiers_any (g : GameD) (av tv : Value) (w : World) (h : RdS 6 tierCells w tv g.tiers) (hav : ∃ ao n cap, av = .slice ao n cap) (hk : g.kind = 1 ∨ g.kind = 2) (b1 : g.main ≤ 10) (b2 : g.bonus ≤ 4) (b3 : g.extra ≤ 4) :
    Calls Tryz.prog 60 #[gameVal g av tv] w (IntB (tiersE g) w) := by
  obtain ⟨ta, tc, rfl, hle, hmax⟩ := h.shape
  obtain ⟨aa, an, ac, rfl⟩ := hav
  obtain ⟨G, hG⟩ : ∃ G, G = g := ⟨_, rfl⟩
  have hkG : G.kind = 1 ∨ G.kind = 2 := by rw [hG]; exact hk
  have hrt := hide (fun t tv X => rtier_any g t (.slice aa an ac) tv X hk b1 b2 b3)
  clear hk b1 b2 b3
  replace hkG := hide hkG
  unfold tiersE
  by_cases hn : inB g.tiers.length 1 12 = true
  · rw [if_neg (by rw [hn]; simp)]
    have hlen : g.tiers.length ≤ 12 := by have := (inB_iff.1 hn).2; omega
    have hn' := hn
    clear hn
    obtain ⟨r, hr0⟩ : ∃ r, r = tiersGo g [] g.tiers := ⟨_, rfl⟩
    rw [← hr0]
    rw [← hG] at hr0
    rw [← hG] at hrt
    obtain ⟨gname, gkind, gprice, gmain, gof, gbonus, gbonusOf, gextra, gdraws, gsystem, gdays, gat, gclose, gcancel, gexpiry, gpool, greserve, ground, gcap, grolls, ga, gt⟩ := g
    simp only [] at h hle hn' hlen
    unfold gameVal
    (try simp only [])
    replace hG := hide hG
    replace hr0 := hide hr0
    have hh := hide h
    clear h
    go_enter Tryz.func60, Tryz.ntmps60
    go_upto_region 1 with (fail)
    obtain ⟨W, hW⟩ : ∃ W, W = (w.alloc (Obj.cells #[.string gname, .int .i64 gkind, .int .i64 gprice, .int .i64 gmain, .int .i64 gof, .int .i64 gbonus, .int .i64 gbonusOf, .int .i64 gextra, .int .i64 gdraws, .int .i64 gsystem, .int .i64 gdays, .int .i64 gat, .int .i64 gclose, .int .i64 gcancel, .int .i64 gexpiry, .int .i64 gpool, .int .i64 greserve, .int .i64 ground, .int .i64 gcap, .int .i64 grolls, (.slice aa an ac), (.slice ta gt.length tc)] 25)) := ⟨_, rfl⟩
    have bW : Below w.heap.size w W := by rw [hW]; exact Bel.al (Below.refl _ _) _
    have r0 : Row W (w.heap.size) 25 [.string gname, .int .i64 gkind, .int .i64 gprice, .int .i64 gmain, .int .i64 gof, .int .i64 gbonus, .int .i64 gbonusOf, .int .i64 gextra, .int .i64 gdraws, .int .i64 gsystem, .int .i64 gdays, .int .i64 gat, .int .i64 gclose, .int .i64 gcancel, .int .i64 gexpiry, .int .i64 gpool, .int .i64 greserve, .int .i64 ground, .int .i64 gcap, .int .i64 grolls, (.slice aa an ac), (.slice ta gt.length tc)] := by rw [hW]; exact Row.new _ _ _
    have c0_21 : W.cell? ⟨w.heap.size, 21, none⟩ = some ((.slice ta gt.length tc)) := Row.cell r0 (i := 21) (by simp)
    have sW : w.heap.size < W.heap.size := by rw [hW]; simp
    rw [← hW]
    clear hW
    go_wp2_with fail
    refine (rin_any _ _ _ _).mono ?_
    rintro e w' ⟨rfl, rfl⟩
    rw [hn']
    go_wp2
    have hstart : tiersGo G (gt.take 0) (gt.drop 0) = r := by rw [hr0.out, hG.out]; rfl
    clear hn'
    have hlen2 : gt.length ≤ 9223372036854775807 := by omega
    go_loopg [3] gt.length (fun g t wr => ∃ i : Nat, g = gt.length - i ∧ i ≤ gt.length ∧ t = .int .i64 i ∧ Below W.heap.size W wr ∧ tiersGo G (gt.take i) (gt.drop i) = r ∧ ∀ j x, j < i → gt[j]? = some x → tierE G x = 0)
    case atStart => exact ⟨0, rfl, Nat.zero_le _, rfl, Below.refl _ _, hstart, fun j x hj => absurd hj (Nat.not_lt_zero _)⟩
    case round =>
      clear hstart
      obtain ⟨i, hg, hi, rfl, hbel, hgo, hval⟩ := hrel
      replace hg := hide hg
      replace hgo := hide hgo
      replace hval := hide hval
      by_cases hlt : i < gt.length
      · have hlt2 := hide hlt
        have i1 : (0 : Int) ≤ (i : Int) := by omega
        have i2 : (i : Int) < (gt.length : Int) := by omega
        obtain ⟨t, ht⟩ : ∃ t, gt[i]? = some t := ⟨_, List.getElem?_eq_getElem hlt⟩
        have hT := hh.out.below (Bel.to bW hbel)
        obtain ⟨b, off, rfl, hbb, hcell⟩ := hT.at_ hlt
        have hrange : wr.rangeAt b (off + i * 6) (tierCells t) := fun j u hu => hcell i t ht j u hu
        clear hcell hT
        have hstep := tiersGo_step (g := G) ht
        rw [hgo.out] at hstep
        replace hstep := hide hstep
        have ht' := hide ht
        clear ht
        have q0 := Row.keep r0 hbel
        have g0 : wr.rangeAt w.heap.size 0 [.string gname, .int .i64 gkind, .int .i64 gprice, .int .i64 gmain, .int .i64 gof, .int .i64 gbonus, .int .i64 gbonusOf, .int .i64 gextra, .int .i64 gdraws, .int .i64 gsystem, .int .i64 gdays, .int .i64 gat, .int .i64 gclose, .int .i64 gcancel, .int .i64 gexpiry, .int .i64 gpool, .int .i64 greserve, .int .i64 ground, .int .i64 gcap, .int .i64 grolls, (.slice aa an ac), (.slice (some ⟨b, off, none⟩) gt.length tc)] := fun j v hv => by rw [Nat.zero_add]; exact (q0.cell? j).trans hv
        have d21 := Bel.cellOf hbel c0_21
        have c1 := hide (fun X => hrt.out t (.slice (some ⟨b, off, none⟩) gt.length tc) X)
        have hcov := hide (fun e X => rcovers_any G e t (.slice aa an ac) (.slice (some ⟨b, off, none⟩) gt.length tc) X)
        obtain ⟨c, hc⟩ : ∃ c, c = tierE G t := ⟨_, rfl⟩
        obtain ⟨Cv, hCv⟩ : ∃ Cv : TierD → Bool, Cv = fun e => coversB G e t := ⟨_, rfl⟩
        have hstep2 : r = if c ≠ 0 then c else if (gt.take i).any Cv then 6 else tiersGo G (gt.take (i + 1)) (gt.drop (i + 1)) := by rw [hstep.out, hc, hCv]
        have hcv : c = 0 → ∀ e, tierE G e = 0 → ∀ X, Calls Tryz.prog 89 #[gameVal G (.slice aa an ac) (.slice (some ⟨b, off, none⟩) gt.length tc), tierVal e, tierVal t] X (BoolB (Cv e) X) := by
          intro h0 e he X
          rw [hCv]
          (try simp only [])
          rw [← coversR_eq hkG.out he (by rw [← hc]; exact h0)]
          exact hcov.out e X
        have hct : ∀ X, Calls Tryz.prog 88 #[gameVal G (.slice aa an ac) (.slice (some ⟨b, off, none⟩) gt.length tc), tierVal t] X (IntB c X) := by rw [hc]; exact c1.out
        have hvn : c = 0 → ∀ j x, j < i + 1 → gt[j]? = some x → tierE G x = 0 := by
          intro h0 j x hj hx
          rcases Nat.lt_succ_iff_lt_or_eq.1 hj with h' | rfl
          · exact hval.out j x h' hx
          · rw [ht'.out] at hx; injection hx with hx; rw [← hx, ← hc]; exact h0
        clear hstep hcov c1 hc hCv q0
        replace hvn := hide hvn
        rw [hG.out] at hct
        have hcv2 := hcv
        rw [hG.out] at hcv2
        clear hcv
        replace hstep2 := hide hstep2
        replace hcv2 := hide hcv2
        replace hct := hide hct
        obtain ⟨tmain, tbonus, textra, tmode, tkind, tvalue⟩ := t
        unfold tierCells at hrange
        (try simp only [] at hrange)
        go_wp2_with fail
        refine wp_region_held_drew (S := fun X => World.rangeAt X w.heap.size 0 [.string gname, .int .i64 gkind, .int .i64 gprice, .int .i64 gmain, .int .i64 gof, .int .i64 gbonus, .int .i64 gbonusOf, .int .i64 gextra, .int .i64 gdraws, .int .i64 gsystem, .int .i64 gdays, .int .i64 gat, .int .i64 gclose, .int .i64 gcancel, .int .i64 gexpiry, .int .i64 gpool, .int .i64 greserve, .int .i64 ground, .int .i64 gcap, .int .i64 grolls, (.slice aa an ac), (.slice (some ⟨b, off, none⟩) gt.length tc)] ∧ World.rangeAt X b (off + i * 6) [.int .i64 tmain, .int .i64 tbonus, .int .i64 textra, .int .i64 tmode, .int .i64 tkind, .int .i64 tvalue] ∧ X.cell? ⟨w.heap.size, 21, none⟩ = some (.slice (some ⟨b, off, none⟩) gt.length tc)) (by kernel_rfl) ⟨g0, hrange, d21⟩ (fun hHeld => ?_)
        refine' wpAnyH_take (i := 0) (oi := _) (v := _) rfl (by kernel_rfl) (by kernel_rfl) (by kernel_rfl) (fun _ _ _ h => h) (yieldsIf_load_mid (by rfl) 25 _ rfl (w.heap.size) (0) rfl [.string gname, .int .i64 gkind, .int .i64 gprice, .int .i64 gmain, .int .i64 gof, .int .i64 gbonus, .int .i64 gbonusOf, .int .i64 gextra, .int .i64 gdraws, .int .i64 gsystem, .int .i64 gdays, .int .i64 gat, .int .i64 gclose, .int .i64 gcancel, .int .i64 gexpiry, .int .i64 gpool, .int .i64 greserve, .int .i64 ground, .int .i64 gcap, .int .i64 grolls, (.slice aa an ac), (.slice (some ⟨b, off, none⟩) gt.length tc)] _ (fun X h => h.1) Tryz.underlying25 rfl (by kernel_rfl)) hHeld ?_
        try simp only [Act.put, List.setIfInBounds_toArray, List.set_cons_zero, List.set_cons_succ, List.getElem_toArray, List.getElem_cons_zero, List.getElem_cons_succ]
        refine' wpAnyH_take (i := 1) (oi := _) (v := .pointer (some ⟨w.heap.size, 21, none⟩)) rfl (by kernel_rfl) (by kernel_rfl) (by kernel_rfl) (fun _ _ _ h => h) (Or.inl ⟨by rfl, fun X hX => by go_simp⟩) hHeld ?_
        try simp only [Act.put, List.setIfInBounds_toArray, List.set_cons_zero, List.set_cons_succ, List.getElem_toArray, List.getElem_cons_zero, List.getElem_cons_succ]
        refine' wpAnyH_take (i := 2) (oi := _) (v := (.slice (some ⟨b, off, none⟩) gt.length tc)) rfl (by kernel_rfl) (by kernel_rfl) (by kernel_rfl) (fun _ _ _ h => h) (Or.inl ⟨by rfl, fun X hX => by (have hX3 := hX.2.2; go_simp)⟩) hHeld ?_
        try simp only [Act.put, List.setIfInBounds_toArray, List.set_cons_zero, List.set_cons_succ, List.getElem_toArray, List.getElem_cons_zero, List.getElem_cons_succ]
        refine' wpAnyH_take (i := 3) (oi := _) (v := .int .i64 i) rfl (by kernel_rfl) (by kernel_rfl) (by kernel_rfl) (fun _ _ _ h => h) (Or.inl ⟨by rfl, fun X hX => by go_simp⟩) hHeld ?_
        try simp only [Act.put, List.setIfInBounds_toArray, List.set_cons_zero, List.set_cons_succ, List.getElem_toArray, List.getElem_cons_zero, List.getElem_cons_succ]
        refine' wpAnyH_take (i := 4) (oi := _) (v := .pointer (some ⟨b, off + i * 6, none⟩)) rfl (by kernel_rfl) (by kernel_rfl) (by kernel_rfl) (fun _ _ _ h => h) (Or.inl ⟨by rfl, fun X hX => by go_simp⟩) hHeld ?_
        try simp only [Act.put, List.setIfInBounds_toArray, List.set_cons_zero, List.set_cons_succ, List.getElem_toArray, List.getElem_cons_zero, List.getElem_cons_succ]
        refine' wpAnyH_take (i := 5) (oi := _) (v := _) rfl (by kernel_rfl) (by kernel_rfl) (by kernel_rfl) (fun _ _ _ h => h) (yieldsIf_load_mid (by rfl) 46 _ rfl (b) (off + i * 6) rfl [.int .i64 tmain, .int .i64 tbonus, .int .i64 textra, .int .i64 tmode, .int .i64 tkind, .int .i64 tvalue] _ (fun X h => h.2.1) Tryz.underlying46 rfl (by kernel_rfl)) hHeld ?_
        try simp only [Act.put, List.setIfInBounds_toArray, List.set_cons_zero, List.set_cons_succ, List.getElem_toArray, List.getElem_cons_zero, List.getElem_cons_succ]
        refine wpAnyH_ready (rs := [6]) (by kernel_rfl) (by simp) ?_
        refine AllReadyH.cons (o := _) rfl (fun K hK => ?_) AllReadyH.nil
        go_simp
        refine (hct.out _).mono ?_
        rintro e w2 ⟨rfl, hb2⟩
        go_wp2_with fail
        refine hK.out _ _ ⟨rangeAt_below (Below.drewL hb2) g0, rangeAt_below (Below.drewL hb2) hrange, Bel.cellOf (Below.drewL hb2) d21⟩ (fun hHeld => ?_)
        clear hK K
        try simp only [Act.put, List.setIfInBounds_toArray, List.set_cons_zero, List.set_cons_succ, List.getElem_toArray, List.getElem_cons_zero, List.getElem_cons_succ]
        refine' wpAnyH_take (i := 7) (oi := _) (v := .int .i64 c) rfl (by kernel_rfl) (by kernel_rfl) (by kernel_rfl) (fun _ _ _ h => h) (Or.inl ⟨by rfl, fun X _ => by go_simp⟩) hHeld ?_
        try simp only [Act.put, List.setIfInBounds_toArray, List.set_cons_zero, List.set_cons_succ, List.getElem_toArray, List.getElem_cons_zero, List.getElem_cons_succ]
        refine wpAnyH_done (by kernel_rfl) ?_ _
        go_simp
        have hb12 : Below wr.heap.size wr w2 := Below.drewL hb2
        have g2 := rangeAt_below hb12 g0
        have t2 := rangeAt_below hb12 hrange
        have d2 := Bel.cellOf hb12 d21
        have B2 : Below W.heap.size W w2 := Bel.to hbel hb12
        clear g0 d21 hrange hct hb2 hb12 hbel hHeld
        by_cases hc0 : c = 0
        · have hs3 := hstep2.out
          rw [hc0, if_neg (by simp)] at hs3
          have hcv := hide (hcv2.out hc0)
          have hvn2 := hide (hvn.out hc0)
          clear hcv2 hvn
          subst hc0
          replace hs3 := hide hs3
          clear hstep2
          go_wp2
          go_loopg [5] i (fun g t wr' => ∃ k : Nat, g = i - k ∧ k ≤ i ∧ t = .int .i64 k ∧ Below w2.heap.size w2 wr' ∧ ∀ j x, j < k → gt[j]? = some x → Cv x = false)
          case atStart => exact ⟨0, rfl, Nat.zero_le _, rfl, Below.refl _ _, fun j x hj => absurd hj (Nat.not_lt_zero _)⟩
          case round =>
            obtain ⟨k, hgk, hk, rfl, hbel3, hno⟩ := hrel
            replace hgk := hide hgk
            replace hno := hide hno
            by_cases hki : k < i
            · have hki2 := hide hki
              have k1 : (0 : Int) ≤ (k : Int) := by omega
              have k2 : (k : Int) < (i : Int) := by omega
              have k3 : (k : Int) < (gt.length : Int) := by omega
              have hkl : k < gt.length := by omega
              obtain ⟨e, he⟩ : ∃ e, gt[k]? = some e := ⟨_, List.getElem?_eq_getElem hkl⟩
              have hT := hh.out.below (Bel.to bW (Bel.to B2 hbel3))
              obtain ⟨b', off', hbo, hbb', hcell⟩ := hT.at_ hkl
              obtain ⟨rfl, rfl⟩ : b = b' ∧ off = off' := by simpa using hbo
              have hrange : wr.rangeAt b (off + k * 6) (tierCells e) := fun j u hu => hcell k e he j u hu
              clear hcell hT hbo
              have hcve := hide (hcv.out e (by rw [← hG.out]; exact hval.out k e hki he))
              have he' := hide he
              clear he
              have q0 := rangeAt_below hbel3 g2
              have t0 := rangeAt_below hbel3 t2
              have f21 := Bel.cellOf hbel3 d2
              obtain ⟨q, hq⟩ : ∃ q, q = Cv e := ⟨_, rfl⟩
              rw [← hq] at hcve
              replace hq := hide hq
              have hlast := hide (fun (h : Cv e = true) => any_take_yes (p := Cv) hki he'.out h)
              have hnext := hide (fun (h : Cv e = false) => show ∀ j x, j < k + 1 → gt[j]? = some x → Cv x = false from by
                intro j x hj hx
                rcases Nat.lt_succ_iff_lt_or_eq.1 hj with h' | rfl
                · exact hno.out j x h' hx
                · rw [he'.out] at hx; injection hx with hx; rw [← hx]; exact h)
              clear hcv he'
              obtain ⟨emain, ebonus, eextra, emode, ekind, evalue⟩ := e
              unfold tierCells at hrange
              (try simp only [] at hrange)
              go_wp2_with fail
              refine wp_region_held_drew (S := fun X => World.rangeAt X w.heap.size 0 [.string gname, .int .i64 gkind, .int .i64 gprice, .int .i64 gmain, .int .i64 gof, .int .i64 gbonus, .int .i64 gbonusOf, .int .i64 gextra, .int .i64 gdraws, .int .i64 gsystem, .int .i64 gdays, .int .i64 gat, .int .i64 gclose, .int .i64 gcancel, .int .i64 gexpiry, .int .i64 gpool, .int .i64 greserve, .int .i64 ground, .int .i64 gcap, .int .i64 grolls, (.slice aa an ac), (.slice (some ⟨b, off, none⟩) gt.length tc)] ∧ World.rangeAt X b (off + k * 6) [.int .i64 emain, .int .i64 ebonus, .int .i64 eextra, .int .i64 emode, .int .i64 ekind, .int .i64 evalue] ∧ World.rangeAt X b (off + i * 6) [.int .i64 tmain, .int .i64 tbonus, .int .i64 textra, .int .i64 tmode, .int .i64 tkind, .int .i64 tvalue] ∧ X.cell? ⟨w.heap.size, 21, none⟩ = some (.slice (some ⟨b, off, none⟩) gt.length tc)) (by kernel_rfl) ⟨q0, hrange, t0, f21⟩ (fun hHeld => ?_)
              refine' wpAnyH_take (i := 0) (oi := _) (v := _) rfl (by kernel_rfl) (by kernel_rfl) (by kernel_rfl) (fun _ _ _ h => h) (yieldsIf_load_mid (by rfl) 25 _ rfl (w.heap.size) (0) rfl [.string gname, .int .i64 gkind, .int .i64 gprice, .int .i64 gmain, .int .i64 gof, .int .i64 gbonus, .int .i64 gbonusOf, .int .i64 gextra, .int .i64 gdraws, .int .i64 gsystem, .int .i64 gdays, .int .i64 gat, .int .i64 gclose, .int .i64 gcancel, .int .i64 gexpiry, .int .i64 gpool, .int .i64 greserve, .int .i64 ground, .int .i64 gcap, .int .i64 grolls, (.slice aa an ac), (.slice (some ⟨b, off, none⟩) gt.length tc)] _ (fun X h => h.1) Tryz.underlying25 rfl (by kernel_rfl)) hHeld ?_
              try simp only [Act.put, List.setIfInBounds_toArray, List.set_cons_zero, List.set_cons_succ, List.getElem_toArray, List.getElem_cons_zero, List.getElem_cons_succ]
              refine' wpAnyH_take (i := 1) (oi := _) (v := .pointer (some ⟨w.heap.size, 21, none⟩)) rfl (by kernel_rfl) (by kernel_rfl) (by kernel_rfl) (fun _ _ _ h => h) (Or.inl ⟨by rfl, fun X hX => by go_simp⟩) hHeld ?_
              try simp only [Act.put, List.setIfInBounds_toArray, List.set_cons_zero, List.set_cons_succ, List.getElem_toArray, List.getElem_cons_zero, List.getElem_cons_succ]
              refine' wpAnyH_take (i := 2) (oi := _) (v := (.slice (some ⟨b, off, none⟩) gt.length tc)) rfl (by kernel_rfl) (by kernel_rfl) (by kernel_rfl) (fun _ _ _ h => h) (Or.inl ⟨by rfl, fun X hX => by (have hX3 := hX.2.2.2; go_simp)⟩) hHeld ?_
              try simp only [Act.put, List.setIfInBounds_toArray, List.set_cons_zero, List.set_cons_succ, List.getElem_toArray, List.getElem_cons_zero, List.getElem_cons_succ]
              refine' wpAnyH_take (i := 3) (oi := _) (v := .int .i64 k) rfl (by kernel_rfl) (by kernel_rfl) (by kernel_rfl) (fun _ _ _ h => h) (Or.inl ⟨by rfl, fun X hX => by go_simp⟩) hHeld ?_
              try simp only [Act.put, List.setIfInBounds_toArray, List.set_cons_zero, List.set_cons_succ, List.getElem_toArray, List.getElem_cons_zero, List.getElem_cons_succ]
              refine' wpAnyH_take (i := 4) (oi := _) (v := .pointer (some ⟨b, off + k * 6, none⟩)) rfl (by kernel_rfl) (by kernel_rfl) (by kernel_rfl) (fun _ _ _ h => h) (Or.inl ⟨by rfl, fun X hX => by go_simp⟩) hHeld ?_
              try simp only [Act.put, List.setIfInBounds_toArray, List.set_cons_zero, List.set_cons_succ, List.getElem_toArray, List.getElem_cons_zero, List.getElem_cons_succ]
              refine' wpAnyH_take (i := 5) (oi := _) (v := _) rfl (by kernel_rfl) (by kernel_rfl) (by kernel_rfl) (fun _ _ _ h => h) (yieldsIf_load_mid (by rfl) 46 _ rfl (b) (off + k * 6) rfl [.int .i64 emain, .int .i64 ebonus, .int .i64 eextra, .int .i64 emode, .int .i64 ekind, .int .i64 evalue] _ (fun X h => h.2.1) Tryz.underlying46 rfl (by kernel_rfl)) hHeld ?_
              try simp only [Act.put, List.setIfInBounds_toArray, List.set_cons_zero, List.set_cons_succ, List.getElem_toArray, List.getElem_cons_zero, List.getElem_cons_succ]
              refine' wpAnyH_take (i := 6) (oi := _) (v := .pointer (some ⟨w.heap.size, 21, none⟩)) rfl (by kernel_rfl) (by kernel_rfl) (by kernel_rfl) (fun _ _ _ h => h) (Or.inl ⟨by rfl, fun X hX => by go_simp⟩) hHeld ?_
              try simp only [Act.put, List.setIfInBounds_toArray, List.set_cons_zero, List.set_cons_succ, List.getElem_toArray, List.getElem_cons_zero, List.getElem_cons_succ]
              refine' wpAnyH_take (i := 7) (oi := _) (v := (.slice (some ⟨b, off, none⟩) gt.length tc)) rfl (by kernel_rfl) (by kernel_rfl) (by kernel_rfl) (fun _ _ _ h => h) (Or.inl ⟨by rfl, fun X hX => by (have hX3 := hX.2.2.2; go_simp)⟩) hHeld ?_
              try simp only [Act.put, List.setIfInBounds_toArray, List.set_cons_zero, List.set_cons_succ, List.getElem_toArray, List.getElem_cons_zero, List.getElem_cons_succ]
              refine' wpAnyH_take (i := 8) (oi := _) (v := .int .i64 i) rfl (by kernel_rfl) (by kernel_rfl) (by kernel_rfl) (fun _ _ _ h => h) (Or.inl ⟨by rfl, fun X hX => by go_simp⟩) hHeld ?_
              try simp only [Act.put, List.setIfInBounds_toArray, List.set_cons_zero, List.set_cons_succ, List.getElem_toArray, List.getElem_cons_zero, List.getElem_cons_succ]
              refine' wpAnyH_take (i := 9) (oi := _) (v := .pointer (some ⟨b, off + i * 6, none⟩)) rfl (by kernel_rfl) (by kernel_rfl) (by kernel_rfl) (fun _ _ _ h => h) (Or.inl ⟨by rfl, fun X hX => by go_simp⟩) hHeld ?_
              try simp only [Act.put, List.setIfInBounds_toArray, List.set_cons_zero, List.set_cons_succ, List.getElem_toArray, List.getElem_cons_zero, List.getElem_cons_succ]
              refine' wpAnyH_take (i := 10) (oi := _) (v := _) rfl (by kernel_rfl) (by kernel_rfl) (by kernel_rfl) (fun _ _ _ h => h) (yieldsIf_load_mid (by rfl) 46 _ rfl (b) (off + i * 6) rfl [.int .i64 tmain, .int .i64 tbonus, .int .i64 textra, .int .i64 tmode, .int .i64 tkind, .int .i64 tvalue] _ (fun X h => h.2.2.1) Tryz.underlying46 rfl (by kernel_rfl)) hHeld ?_
              try simp only [Act.put, List.setIfInBounds_toArray, List.set_cons_zero, List.set_cons_succ, List.getElem_toArray, List.getElem_cons_zero, List.getElem_cons_succ]
              refine wpAnyH_ready (rs := [11]) (by kernel_rfl) (by simp) ?_
              refine AllReadyH.cons (o := _) rfl (fun K hK => ?_) AllReadyH.nil
              go_simp
              refine (hcve.out _).mono ?_
              rintro e w4 ⟨rfl, hb4⟩
              go_wp2_with fail
              refine hK.out _ _ ⟨rangeAt_below (Below.drewL hb4) q0, rangeAt_below (Below.drewL hb4) hrange, rangeAt_below (Below.drewL hb4) t0, Bel.cellOf (Below.drewL hb4) f21⟩ (fun hHeld => ?_)
              clear hK K
              try simp only [Act.put, List.setIfInBounds_toArray, List.set_cons_zero, List.set_cons_succ, List.getElem_toArray, List.getElem_cons_zero, List.getElem_cons_succ]
              refine wpAnyH_done (by kernel_rfl) ?_ _
              go_simp
              have B4 : Below w2.heap.size w2 w4 := Bel.to hbel3 (Below.drewL hb4)
              clear q0 t0 f21 hrange hb4 hbel3 hHeld
              cases q
              · have hn1 := hide (hnext.out hq.out.symm)
                go_wp2
                go_roundg (i - (k + 1))
                case measure => have := hgk.out; have := hki2.out; omega
                case rel => exact ⟨k + 1, rfl, by have := hki2.out; omega, by go_num, B4, hn1.out⟩
              · have hr6 := hs3.out
                rw [hlast.out hq.out.symm, if_pos rfl] at hr6
                replace hr6 := hide hr6
                go_wp2
                go_ret
                rw [hr6.out]
                exact ⟨rfl, Bel.to bW (Bel.to B2 B4)⟩
            · have hki2 : k = i := by omega
              have hs4 := hs3.out
              rw [any_take_no (fun j x hj hx => hno.out j x (by omega) hx), if_neg (by simp)] at hs4
              replace hs4 := hide hs4
              replace hki2 := hide hki2
              have B5 := Bel.to B2 hbel3
              go_wp2
              go_roundg (gt.length - (i + 1))
              case measure => have := hg.out; have := hlt2.out; omega
              case rel => exact ⟨i + 1, rfl, by have := hlt2.out; omega, by go_num, B5, hs4.out.symm, hvn2.out⟩
        · have hcb : (c != 0) = true := by simpa using hc0
          have hs3 := hstep2.out
          rw [if_pos hc0] at hs3
          replace hs3 := hide hs3
          clear hstep2
          replace hc0 := hide hc0
          go_wp2
          go_ret
          rw [hs3.out]
          exact ⟨rfl, Bel.to bW B2⟩
      · have hend := tiersGo_end (g := G) (l := gt) (i := i) hlt
        rw [hgo.out] at hend
        replace hend := hide hend
        have d21 := Bel.cellOf hbel c0_21
        go_wp2
        go_ret
        rw [hend.out]
        exact ⟨rfl, Bel.to bW hbel⟩
  · rw [if_pos (by simpa using hn)]
    have hn' : inB g.tiers.length 1 12 = false := by simpa using hn
    clear hn hrt
    obtain ⟨gname, gkind, gprice, gmain, gof, gbonus, gbonusOf, gextra, gdraws, gsystem, gdays, gat, gclose, gcancel, gexpiry, gpool, greserve, ground, gcap, grolls, ga, gt⟩ := g
    simp only [] at hn'
    unfold gameVal
    (try simp only [])
    go_enter Tryz.func60, Tryz.ntmps60
    go_wp2_with fail
    refine (rin_any _ _ _ _).mono ?_
    rintro e w' ⟨rfl, rfl⟩
    rw [hn']
    go_wp2
    go_ret
    exact ⟨rfl, Bel.al (Below.refl _ _) _⟩
end Go.Proofs.YtlppomkpmnpmcaaGreat

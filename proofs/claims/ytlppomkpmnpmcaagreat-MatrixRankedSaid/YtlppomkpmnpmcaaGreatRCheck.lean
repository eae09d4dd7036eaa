/- lotteryref12.Check: the loop's region. -/
import Derived.Test.YtlppomkpmnpmcaaGreatRNumsLaw
import Derived.Test.YtlppomkpmnpmcaaGreatRTiers
import Derived.Test.YtlppomkpmnpmcaaGreatRAddons
import Derived.Test.YtlppomkpmnpmcaaGreatRuleCheck
open Go.RowKit
set_option linter.unusedVariables false
set_option linter.unusedSimpArgs false
namespace Go.Proofs.YtlppomkpmnpmcaaGreat

theorem Rd.form_n {w : World} {v : Value} {l : List Int} {n : Nat} (h : Rd I64 w v l) (hn : l.length = n) (hp : 0 < n) : ∃ b off cap, v = .slice (some ⟨b, off, none⟩) n cap ∧ ∀ i x, l[i]? = some x → w.cell? ⟨b, off + i, none⟩ = some (.int .i64 x) := by
  obtain ⟨ao, cap, rfl, h2, h3, h4⟩ := h
  obtain ⟨b, off, rfl, h5, h6⟩ := h4 (by omega)
  exact ⟨b, off, cap, by rw [hn], h6⟩

theorem Rd.form_s {w : World} {v : Value} {l : List ByteArray} {n : Nat} (h : Rd Value.string w v l) (hn : l.length = n) (hp : 0 < n) : ∃ b off cap, v = .slice (some ⟨b, off, none⟩) n cap ∧ ∀ i x, l[i]? = some x → w.cell? ⟨b, off + i, none⟩ = some (.string x) := by
  obtain ⟨ao, cap, rfl, h2, h3, h4⟩ := h
  obtain ⟨b, off, rfl, h5, h6⟩ := h4 (by omega)
  exact ⟨b, off, cap, by rw [hn], h6⟩

theorem mat_bounds {g : GameD} (hk : g.kind = 1 ∨ g.kind = 2) (h : matB g = true) : g.main ≤ 10 ∧ g.bonus ≤ 4 ∧ g.extra ≤ 4 := by
  unfold matB at h
  simp only [Bool.and_eq_true] at h
  obtain ⟨⟨⟨⟨⟨⟨⟨h1, h2⟩, h3⟩, h4⟩, h5⟩, h6⟩, h7⟩, h8⟩ := h
  have a2 := inB_iff.1 h2
  refine ⟨a2.2, ?_, ?_⟩
  · split at h4
    · have := inB_iff.1 h4; omega
    · have := inB_iff.1 h4; omega
  · split at h6
    · have := inB_iff.1 h6; omega
    · rw [Bool.and_eq_true] at h6; have := inB_iff.1 h6.1; omega



theorem game_range {g : GameD} {r : Int} {OK : Nat → Bool} {i : Nat} (hr : r = gameE g) (hn : nameB g.name = true) (hk : g.kind = 1 ∨ g.kind = 2) (hOK : OK = okAt g) (hi : i < 18) (hq : OK i = false) : r = 2 := by
  rw [hr]
  unfold gameE
  rw [if_neg (by rw [hn]; simp), if_neg (by omega)]
  by_cases hm : matB g = true
  · by_cases ht : termB g = true
    · have := (nums_ok hk).2 ⟨hm, ht⟩ i hi
      rw [hOK, this] at hq
      cases hq
    · rw [if_neg (by rw [hm]; simp), if_pos (by simpa using ht)]
  · rw [if_pos (by simpa using hm)]

theorem game_rest {g : GameD} {r : Int} {OK : Nat → Bool} (hr : r = gameE g) (hn : nameB g.name = true) (hk : g.kind = 1 ∨ g.kind = 2) (hOK : OK = okAt g) (hq : ∀ i, i < 18 → OK i = true) : r = (if addonsE g.addons ≠ 0 then addonsE g.addons else tiersE g) ∧ matB g = true := by
  have h := (nums_ok hk).1 (fun i hi => by rw [← hOK]; exact hq i hi)
  refine ⟨?_, h.1⟩
  rw [hr]
  unfold gameE
  rw [if_neg (by rw [hn]; simp), if_neg (by omega), if_neg (by rw [h.1]; simp), if_neg (by rw [h.2]; simp)]

set_option maxHeartbeats 4000000 in
set_option maxRecDepth 100000 in
theorem rcheck_any (g : GameD) (av tv : Value) (ms : List AddonM) (w : World) (h : GameR w av tv ms g) :
    Calls Tryz.prog 33 #[gameVal g av tv] w (ErrS (gameE g) w) := by
  obtain ⟨h1, h2, h3⟩ := h
  obtain ⟨aa, ac, rfl, hal, ham⟩ := h1.1.shape
  obtain ⟨ta, tc, rfl, htl, htm⟩ := h3.shape
  have hnum := hide (fun X => numbers_any g (.slice aa ms.length ac) (.slice ta g.tiers.length tc) X ⟨_, _, _, rfl⟩ ⟨_, _, _, rfl⟩)
  have hlow := hide (fun X => lowest_any g (.slice aa ms.length ac) (.slice ta g.tiers.length tc) X ⟨_, _, _, rfl⟩ ⟨_, _, _, rfl⟩)
  have hhigh := hide (fun X => highest_any g (.slice aa ms.length ac) (.slice ta g.tiers.length tc) X ⟨_, _, _, rfl⟩ ⟨_, _, _, rfl⟩)
  obtain ⟨NL, hNL⟩ : ∃ l, l = numsL g := ⟨_, rfl⟩
  obtain ⟨LL, hLL⟩ : ∃ l, l = lowL g := ⟨_, rfl⟩
  obtain ⟨HL, hHL⟩ : ∃ l, l = highL g := ⟨_, rfl⟩
  have hlen1 : NL.length = 18 := by rw [hNL]; rfl
  have hlen2 : LL.length = 18 := by rw [hLL]; rfl
  have hlen3 : HL.length = 18 := by rw [hHL]; rfl
  rw [← hNL] at hnum
  rw [← hLL] at hlow
  rw [← hHL] at hhigh
  have hok : ∀ i xn xl xh, NL[i]? = some xn → LL[i]? = some xl → HL[i]? = some xh → okAt g i = inB xn xl xh := by
    intro i xn xl xh e1 e2 e3
    unfold okAt
    rw [← hNL, ← hLL, ← hHL]
    simp [List.getD_eq_getElem?_getD, e1, e2, e3]
  clear hNL hLL hHL
  obtain ⟨OK, hOK⟩ : ∃ p : Nat → Bool, p = okAt g := ⟨_, rfl⟩
  rw [← hOK] at hok
  replace hok := hide hok
  obtain ⟨r, hr⟩ : ∃ r, r = gameE g := ⟨_, rfl⟩
  rw [← hr]
  replace hr := hide hr
  replace hOK := hide hOK
  replace h1 := hide h1
  replace h3 := hide h3
  replace hlen1 := hide hlen1
  obtain ⟨gname, gkind, gprice, gmain, gof, gbonus, gbonusOf, gextra, gdraws, gsystem, gdays, gat, gclose, gcancel, gexpiry, gpool, greserve, ground, gcap, grolls, ga, gt⟩ := g
  (try simp only [] at hnum hlow hhigh h3 htl)
  unfold gameVal at hnum hlow hhigh ⊢
  (try simp only [] at hnum hlow hhigh ⊢)
  by_cases hfirst : nameB gname = true ∧ (gkind = 1 ∨ gkind = 2)
  · obtain ⟨hn, hk⟩ := hfirst
    have hkb : (gkind != 1) = false ∨ ((gkind != 1) = true ∧ (gkind != 2) = false) := by
      rcases hk with rfl | rfl
      · exact .inl (by decide)
      · exact .inr ⟨by decide, by decide⟩
    go_enter Tryz.func33, Tryz.ntmps33
    go_upto_region 1 with (fail)
    obtain ⟨W, hW⟩ : ∃ W, W = (w.alloc (Obj.cells #[.string gname, .int .i64 gkind, .int .i64 gprice, .int .i64 gmain, .int .i64 gof, .int .i64 gbonus, .int .i64 gbonusOf, .int .i64 gextra, .int .i64 gdraws, .int .i64 gsystem, .int .i64 gdays, .int .i64 gat, .int .i64 gclose, .int .i64 gcancel, .int .i64 gexpiry, .int .i64 gpool, .int .i64 greserve, .int .i64 ground, .int .i64 gcap, .int .i64 grolls, (.slice aa ms.length ac), (.slice ta gt.length tc)] 25)) := ⟨_, rfl⟩
    have bW : Below w.heap.size w W := by rw [hW]; exact Bel.al (Below.refl _ _) _
    have r0 : Row W (w.heap.size) 25 [.string gname, .int .i64 gkind, .int .i64 gprice, .int .i64 gmain, .int .i64 gof, .int .i64 gbonus, .int .i64 gbonusOf, .int .i64 gextra, .int .i64 gdraws, .int .i64 gsystem, .int .i64 gdays, .int .i64 gat, .int .i64 gclose, .int .i64 gcancel, .int .i64 gexpiry, .int .i64 gpool, .int .i64 greserve, .int .i64 ground, .int .i64 gcap, .int .i64 grolls, (.slice aa ms.length ac), (.slice ta gt.length tc)] := by rw [hW]; exact Row.new _ _ _
    have c0_0 : W.cell? ⟨w.heap.size, 0, none⟩ = some (.string gname) := Row.cell r0 (i := 0) (by simp)
    have c0_1 : W.cell? ⟨w.heap.size, 1, none⟩ = some (.int .i64 gkind) := Row.cell r0 (i := 1) (by simp)
    have c0_20 : W.cell? ⟨w.heap.size, 20, none⟩ = some ((.slice aa ms.length ac)) := Row.cell r0 (i := 20) (by simp)
    have sW : w.heap.size < W.heap.size := by rw [hW]; simp
    rw [← hW]
    clear hW
    replace hk := hide hk
    rcases hkb with hkb | ⟨hkb, hkb2⟩
    all_goals
      go_wp2_with fail
      refine (rname_any _ _).mono ?_
      rintro e w' ⟨rfl, rfl⟩
      rw [hn]
      go_wp2_with (first | (refine wpList_load_row rfl 25 _ rfl _ rfl _ _ _ _ r0 Tryz.underlying25 rfl (by kernel_rfl) ?_) | fail)
      refine (hnum.out _).mono ?_
      rintro e w1 ⟨u1, rfl, hu1, hb1⟩
      obtain ⟨nb, no, nc, rfl, hnc⟩ := Rd.form_n hu1 hlen1.out (by decide)
      have BN := Bel.to bW hb1
      have q1 := Row.keep r0 hb1
      have d20 := Bel.cellOf hb1 c0_20
      clear r0 c0_0 c0_1 c0_20 hu1 hb1
      replace hnc := hide hnc
      go_wp2
      go_loopg [5] 18 (fun g t wr => ∃ i : Nat, g = 18 - i ∧ i ≤ 18 ∧ t = .int .i64 i ∧ Below w1.heap.size w1 wr ∧ ∀ j, j < i → OK j = true)
      case atStart => exact ⟨0, rfl, Nat.zero_le _, rfl, Below.refl _ _, fun j hj => absurd hj (Nat.not_lt_zero _)⟩
      case round =>
        obtain ⟨i, hg, hi, rfl, hbel, hall⟩ := hrel
        replace hg := hide hg
        replace hall := hide hall
        by_cases hlt : i < 18
        · have hlt2 := hide hlt
          have i1 : (0 : Int) ≤ (i : Int) := by omega
          have i2 : (i : Int) < 18 := by omega
          obtain ⟨xn, hxn⟩ : ∃ x, NL[i]? = some x := ⟨_, List.getElem?_eq_getElem (by have := hlen1.out; omega)⟩
          obtain ⟨xl, hxl⟩ : ∃ x, LL[i]? = some x := ⟨_, List.getElem?_eq_getElem (by omega)⟩
          obtain ⟨xh, hxh⟩ : ∃ x, HL[i]? = some x := ⟨_, List.getElem?_eq_getElem (by omega)⟩
          have hoki := hide (hok.out i xn xl xh hxn hxl hxh)
          have cn := Bel.cellOf hbel (hnc.out i xn hxn)
          replace hxn := hide hxn
          replace hxl := hide hxl
          replace hxh := hide hxh
          have q2 := Row.keep q1 hbel
          have g0 : wr.rangeAt w.heap.size 0 [.string gname, .int .i64 gkind, .int .i64 gprice, .int .i64 gmain, .int .i64 gof, .int .i64 gbonus, .int .i64 gbonusOf, .int .i64 gextra, .int .i64 gdraws, .int .i64 gsystem, .int .i64 gdays, .int .i64 gat, .int .i64 gclose, .int .i64 gcancel, .int .i64 gexpiry, .int .i64 gpool, .int .i64 greserve, .int .i64 ground, .int .i64 gcap, .int .i64 grolls, (.slice aa ms.length ac), (.slice ta gt.length tc)] := fun j v hv => by rw [Nat.zero_add]; exact (q2.cell? j).trans hv
          clear q2
          go_wp2_with fail
          go_cut [42] (fun b X => b = .bool (!inB xn xl xh) ∧ X.rangeAt w.heap.size 0 [.string gname, .int .i64 gkind, .int .i64 gprice, .int .i64 gmain, .int .i64 gof, .int .i64 gbonus, .int .i64 gbonusOf, .int .i64 gextra, .int .i64 gdraws, .int .i64 gsystem, .int .i64 gdays, .int .i64 gat, .int .i64 gclose, .int .i64 gcancel, .int .i64 gexpiry, .int .i64 gpool, .int .i64 greserve, .int .i64 ground, .int .i64 gcap, .int .i64 grolls, (.slice aa ms.length ac), (.slice ta gt.length tc)] ∧ Below wr.heap.size wr X)
          case first =>
            refine wp_region_held_drew (S := fun X => World.rangeAt X w.heap.size 0 [.string gname, .int .i64 gkind, .int .i64 gprice, .int .i64 gmain, .int .i64 gof, .int .i64 gbonus, .int .i64 gbonusOf, .int .i64 gextra, .int .i64 gdraws, .int .i64 gsystem, .int .i64 gdays, .int .i64 gat, .int .i64 gclose, .int .i64 gcancel, .int .i64 gexpiry, .int .i64 gpool, .int .i64 greserve, .int .i64 ground, .int .i64 gcap, .int .i64 grolls, (.slice aa ms.length ac), (.slice ta gt.length tc)] ∧ X.cell? ⟨nb, no + i, none⟩ = some (.int .i64 xn)) (by kernel_rfl) ⟨g0, cn⟩ (fun hHeld => ?_)
            refine' wpAnyH_take (i := 0) (oi := _) (v := .slice (some ⟨nb, no, none⟩) 18 nc) rfl (by kernel_rfl) (by kernel_rfl) (by kernel_rfl) (fun _ _ _ h => h) (Or.inl ⟨by rfl, fun X hX => by go_simp⟩) hHeld ?_
            try simp only [Act.put, List.setIfInBounds_toArray, List.set_cons_zero, List.set_cons_succ, List.getElem_toArray, List.getElem_cons_zero, List.getElem_cons_succ]
            refine' wpAnyH_take (i := 1) (oi := _) (v := .int .i64 i) rfl (by kernel_rfl) (by kernel_rfl) (by kernel_rfl) (fun _ _ _ h => h) (Or.inl ⟨by rfl, fun X hX => by go_simp⟩) hHeld ?_
            try simp only [Act.put, List.setIfInBounds_toArray, List.set_cons_zero, List.set_cons_succ, List.getElem_toArray, List.getElem_cons_zero, List.getElem_cons_succ]
            refine' wpAnyH_take (i := 2) (oi := _) (v := .pointer (some ⟨nb, no + i, none⟩)) rfl (by kernel_rfl) (by kernel_rfl) (by kernel_rfl) (fun _ _ _ h => h) (Or.inl ⟨by rfl, fun X hX => by go_simp⟩) hHeld ?_
            try simp only [Act.put, List.setIfInBounds_toArray, List.set_cons_zero, List.set_cons_succ, List.getElem_toArray, List.getElem_cons_zero, List.getElem_cons_succ]
            refine' wpAnyH_take (i := 3) (oi := _) (v := .int .i64 xn) rfl (by kernel_rfl) (by kernel_rfl) (by kernel_rfl) (fun _ _ _ h => h) (Or.inl ⟨by rfl, fun X hX => by (have hX2 := hX.2; go_simp)⟩) hHeld ?_
            try simp only [Act.put, List.setIfInBounds_toArray, List.set_cons_zero, List.set_cons_succ, List.getElem_toArray, List.getElem_cons_zero, List.getElem_cons_succ]
            refine' wpAnyH_take (i := 4) (oi := _) (v := _) rfl (by kernel_rfl) (by kernel_rfl) (by kernel_rfl) (fun _ _ _ h => h) (yieldsIf_load_mid (by rfl) 25 _ rfl (w.heap.size) (0) rfl [.string gname, .int .i64 gkind, .int .i64 gprice, .int .i64 gmain, .int .i64 gof, .int .i64 gbonus, .int .i64 gbonusOf, .int .i64 gextra, .int .i64 gdraws, .int .i64 gsystem, .int .i64 gdays, .int .i64 gat, .int .i64 gclose, .int .i64 gcancel, .int .i64 gexpiry, .int .i64 gpool, .int .i64 greserve, .int .i64 ground, .int .i64 gcap, .int .i64 grolls, (.slice aa ms.length ac), (.slice ta gt.length tc)] _ (fun X h => h.1) Tryz.underlying25 rfl (by kernel_rfl)) hHeld ?_
            try simp only [Act.put, List.setIfInBounds_toArray, List.set_cons_zero, List.set_cons_succ, List.getElem_toArray, List.getElem_cons_zero, List.getElem_cons_succ]
            refine' wpAnyH_take (i := 9) (oi := _) (v := _) rfl (by kernel_rfl) (by kernel_rfl) (by kernel_rfl) (fun _ _ _ h => h) (yieldsIf_load_mid (by rfl) 25 _ rfl (w.heap.size) (0) rfl [.string gname, .int .i64 gkind, .int .i64 gprice, .int .i64 gmain, .int .i64 gof, .int .i64 gbonus, .int .i64 gbonusOf, .int .i64 gextra, .int .i64 gdraws, .int .i64 gsystem, .int .i64 gdays, .int .i64 gat, .int .i64 gclose, .int .i64 gcancel, .int .i64 gexpiry, .int .i64 gpool, .int .i64 greserve, .int .i64 ground, .int .i64 gcap, .int .i64 grolls, (.slice aa ms.length ac), (.slice ta gt.length tc)] _ (fun X h => h.1) Tryz.underlying25 rfl (by kernel_rfl)) hHeld ?_
            try simp only [Act.put, List.setIfInBounds_toArray, List.set_cons_zero, List.set_cons_succ, List.getElem_toArray, List.getElem_cons_zero, List.getElem_cons_succ]
            refine' wpAnyH_take (i := 6) (oi := _) (v := .int .i64 i) rfl (by kernel_rfl) (by kernel_rfl) (by kernel_rfl) (fun _ _ _ h => h) (Or.inl ⟨by rfl, fun X hX => by go_simp⟩) hHeld ?_
            try simp only [Act.put, List.setIfInBounds_toArray, List.set_cons_zero, List.set_cons_succ, List.getElem_toArray, List.getElem_cons_zero, List.getElem_cons_succ]
            refine' wpAnyH_take (i := 11) (oi := _) (v := .int .i64 i) rfl (by kernel_rfl) (by kernel_rfl) (by kernel_rfl) (fun _ _ _ h => h) (Or.inl ⟨by rfl, fun X hX => by go_simp⟩) hHeld ?_
            try simp only [Act.put, List.setIfInBounds_toArray, List.set_cons_zero, List.set_cons_succ, List.getElem_toArray, List.getElem_cons_zero, List.getElem_cons_succ]
            refine wpAnyH_ready (rs := [5]) (by kernel_rfl) (by simp) ?_
            refine AllReadyH.cons (o := _) rfl (fun K hK => ?_) AllReadyH.nil
            go_simp
            refine (hlow.out _).mono ?_
            rintro e w2 ⟨u2, rfl, hu2, hb2⟩
            obtain ⟨lb, lo, lc, rfl, hlc⟩ := Rd.form_n hu2 hlen2 (by decide)
            have hb2' := Below.drewL hb2
            have cl2 := hlc i xl hxl.out
            clear hlc
            have S2 := And.intro (rangeAt_below hb2' g0) (Bel.cellOf hb2' cn)
            go_wp2_with fail
            refine hK.out _ _ S2 (fun hHeld => ?_)
            clear hK K
            try simp only [Act.put, List.setIfInBounds_toArray, List.set_cons_zero, List.set_cons_succ, List.getElem_toArray, List.getElem_cons_zero, List.getElem_cons_succ]
            refine' wpAnyH_take (i := 7) (oi := _) (v := .pointer (some ⟨lb, lo + i, none⟩)) rfl (by kernel_rfl) (by kernel_rfl) (by kernel_rfl) (fun _ _ _ h => h) (Or.inl ⟨by rfl, fun X hX => by go_simp⟩) hHeld ?_
            try simp only [Act.put, List.setIfInBounds_toArray, List.set_cons_zero, List.set_cons_succ, List.getElem_toArray, List.getElem_cons_zero, List.getElem_cons_succ]
            refine wpAnyH_ready (rs := [8, 10]) (by kernel_rfl) (by simp) ?_
            refine AllReadyH.cons (o := _) rfl (fun K hK => ?_) (AllReadyH.cons (o := _) rfl (fun K hK => ?_) AllReadyH.nil)
            · skip
              go_simp
              refine hK.out _ _ S2 (fun hHeld => ?_)
              clear hK K
              try simp only [Act.put, List.setIfInBounds_toArray, List.set_cons_zero, List.set_cons_succ, List.getElem_toArray, List.getElem_cons_zero, List.getElem_cons_succ]
              refine wpAnyH_ready (rs := [10]) (by kernel_rfl) (by simp) ?_
              refine AllReadyH.cons (o := _) rfl (fun K hK => ?_) AllReadyH.nil
              go_simp
              refine (hhigh.out _).mono ?_
              rintro e w3 ⟨u3, rfl, hu3, hb3⟩
              obtain ⟨qb, qo, qc, rfl, hqc⟩ := Rd.form_n hu3 hlen3 (by decide)
              have ch3 := hqc i xh hxh.out
              clear hqc
              have cl3 := Bel.cellOf hb3 cl2
              have S3 := And.intro (rangeAt_below hb3 S2.1) (Bel.cellOf hb3 S2.2)
              go_wp2_with fail
              refine hK.out _ _ S3 (fun hHeld => ?_)
              clear hK K
              try simp only [Act.put, List.setIfInBounds_toArray, List.set_cons_zero, List.set_cons_succ, List.getElem_toArray, List.getElem_cons_zero, List.getElem_cons_succ]
              refine' wpAnyH_take (i := 12) (oi := _) (v := .pointer (some ⟨qb, qo + i, none⟩)) rfl (by kernel_rfl) (by kernel_rfl) (by kernel_rfl) (fun _ _ _ h => h) (Or.inl ⟨by rfl, fun X hX => by go_simp⟩) hHeld ?_
              try simp only [Act.put, List.setIfInBounds_toArray, List.set_cons_zero, List.set_cons_succ, List.getElem_toArray, List.getElem_cons_zero, List.getElem_cons_succ]
              refine wpAnyH_ready (rs := [13]) (by kernel_rfl) (by simp) ?_
              refine AllReadyH.cons (o := _) rfl (fun K hK => ?_) AllReadyH.nil
              go_simp
              refine hK.out _ _ S3 (fun hHeld => ?_)
              clear hK K
              try simp only [Act.put, List.setIfInBounds_toArray, List.set_cons_zero, List.set_cons_succ, List.getElem_toArray, List.getElem_cons_zero, List.getElem_cons_succ]
              refine wpAnyH_ready (rs := [14]) (by kernel_rfl) (by simp) ?_
              refine AllReadyH.cons (o := _) rfl (fun K hK => ?_) AllReadyH.nil
              go_simp
              refine (rin_any _ _ _ _).mono ?_
              rintro e w4 ⟨rfl, rfl⟩
              go_wp2_with fail
              refine hK.out _ _ S3 (fun hHeld => ?_)
              clear hK K
              try simp only [Act.put, List.setIfInBounds_toArray, List.set_cons_zero, List.set_cons_succ, List.getElem_toArray, List.getElem_cons_zero, List.getElem_cons_succ]
              refine' wpAnyH_take (i := 15) (oi := _) (v := .bool (!inB xn xl xh)) rfl (by kernel_rfl) (by kernel_rfl) (by kernel_rfl) (fun _ _ _ h => h) (Or.inl ⟨by rfl, fun X hX => by go_simp⟩) hHeld ?_
              try simp only [Act.put, List.setIfInBounds_toArray, List.set_cons_zero, List.set_cons_succ, List.getElem_toArray, List.getElem_cons_zero, List.getElem_cons_succ]
              refine wpAnyH_done (by kernel_rfl) ?_ _
              go_simp
              go_wp2_with fail
              go_meet
              exact ⟨rfl, S3.1, Bel.to hb2' hb3⟩
            · skip
              go_simp
              refine (hhigh.out _).mono ?_
              rintro e w3 ⟨u3, rfl, hu3, hb3⟩
              obtain ⟨qb, qo, qc, rfl, hqc⟩ := Rd.form_n hu3 hlen3 (by decide)
              have ch3 := hqc i xh hxh.out
              clear hqc
              have cl3 := Bel.cellOf hb3 cl2
              have S3 := And.intro (rangeAt_below hb3 S2.1) (Bel.cellOf hb3 S2.2)
              go_wp2_with fail
              refine hK.out _ _ S3 (fun hHeld => ?_)
              clear hK K
              try simp only [Act.put, List.setIfInBounds_toArray, List.set_cons_zero, List.set_cons_succ, List.getElem_toArray, List.getElem_cons_zero, List.getElem_cons_succ]
              refine' wpAnyH_take (i := 12) (oi := _) (v := .pointer (some ⟨qb, qo + i, none⟩)) rfl (by kernel_rfl) (by kernel_rfl) (by kernel_rfl) (fun _ _ _ h => h) (Or.inl ⟨by rfl, fun X hX => by go_simp⟩) hHeld ?_
              try simp only [Act.put, List.setIfInBounds_toArray, List.set_cons_zero, List.set_cons_succ, List.getElem_toArray, List.getElem_cons_zero, List.getElem_cons_succ]
              refine wpAnyH_ready (rs := [8, 13]) (by kernel_rfl) (by simp) ?_
              refine AllReadyH.cons (o := _) rfl (fun K hK => ?_) (AllReadyH.cons (o := _) rfl (fun K hK => ?_) AllReadyH.nil)
              · skip
                go_simp
                refine hK.out _ _ S3 (fun hHeld => ?_)
                clear hK K
                try simp only [Act.put, List.setIfInBounds_toArray, List.set_cons_zero, List.set_cons_succ, List.getElem_toArray, List.getElem_cons_zero, List.getElem_cons_succ]
                refine wpAnyH_ready (rs := [13]) (by kernel_rfl) (by simp) ?_
                refine AllReadyH.cons (o := _) rfl (fun K hK => ?_) AllReadyH.nil
                go_simp
                refine hK.out _ _ S3 (fun hHeld => ?_)
                clear hK K
                try simp only [Act.put, List.setIfInBounds_toArray, List.set_cons_zero, List.set_cons_succ, List.getElem_toArray, List.getElem_cons_zero, List.getElem_cons_succ]
                refine wpAnyH_ready (rs := [14]) (by kernel_rfl) (by simp) ?_
                refine AllReadyH.cons (o := _) rfl (fun K hK => ?_) AllReadyH.nil
                go_simp
                refine (rin_any _ _ _ _).mono ?_
                rintro e w4 ⟨rfl, rfl⟩
                go_wp2_with fail
                refine hK.out _ _ S3 (fun hHeld => ?_)
                clear hK K
                try simp only [Act.put, List.setIfInBounds_toArray, List.set_cons_zero, List.set_cons_succ, List.getElem_toArray, List.getElem_cons_zero, List.getElem_cons_succ]
                refine' wpAnyH_take (i := 15) (oi := _) (v := .bool (!inB xn xl xh)) rfl (by kernel_rfl) (by kernel_rfl) (by kernel_rfl) (fun _ _ _ h => h) (Or.inl ⟨by rfl, fun X hX => by go_simp⟩) hHeld ?_
                try simp only [Act.put, List.setIfInBounds_toArray, List.set_cons_zero, List.set_cons_succ, List.getElem_toArray, List.getElem_cons_zero, List.getElem_cons_succ]
                refine wpAnyH_done (by kernel_rfl) ?_ _
                go_simp
                go_wp2_with fail
                go_meet
                exact ⟨rfl, S3.1, Bel.to hb2' hb3⟩
              · skip
                go_simp
                refine hK.out _ _ S3 (fun hHeld => ?_)
                clear hK K
                try simp only [Act.put, List.setIfInBounds_toArray, List.set_cons_zero, List.set_cons_succ, List.getElem_toArray, List.getElem_cons_zero, List.getElem_cons_succ]
                refine wpAnyH_ready (rs := [8]) (by kernel_rfl) (by simp) ?_
                refine AllReadyH.cons (o := _) rfl (fun K hK => ?_) AllReadyH.nil
                go_simp
                refine hK.out _ _ S3 (fun hHeld => ?_)
                clear hK K
                try simp only [Act.put, List.setIfInBounds_toArray, List.set_cons_zero, List.set_cons_succ, List.getElem_toArray, List.getElem_cons_zero, List.getElem_cons_succ]
                refine wpAnyH_ready (rs := [14]) (by kernel_rfl) (by simp) ?_
                refine AllReadyH.cons (o := _) rfl (fun K hK => ?_) AllReadyH.nil
                go_simp
                refine (rin_any _ _ _ _).mono ?_
                rintro e w4 ⟨rfl, rfl⟩
                go_wp2_with fail
                refine hK.out _ _ S3 (fun hHeld => ?_)
                clear hK K
                try simp only [Act.put, List.setIfInBounds_toArray, List.set_cons_zero, List.set_cons_succ, List.getElem_toArray, List.getElem_cons_zero, List.getElem_cons_succ]
                refine' wpAnyH_take (i := 15) (oi := _) (v := .bool (!inB xn xl xh)) rfl (by kernel_rfl) (by kernel_rfl) (by kernel_rfl) (fun _ _ _ h => h) (Or.inl ⟨by rfl, fun X hX => by go_simp⟩) hHeld ?_
                try simp only [Act.put, List.setIfInBounds_toArray, List.set_cons_zero, List.set_cons_succ, List.getElem_toArray, List.getElem_cons_zero, List.getElem_cons_succ]
                refine wpAnyH_done (by kernel_rfl) ?_ _
                go_simp
                go_wp2_with fail
                go_meet
                exact ⟨rfl, S3.1, Bel.to hb2' hb3⟩
          case rest =>
            obtain ⟨rfl, g2, hb5⟩ := hcut
            have B5 := Bel.to hbel hb5
            clear g0 cn hbel hb5
            rw [← hoki.out]
            cases hq : OK i with
            | true =>
              have hnext : ∀ j, j < i + 1 → OK j = true := by
                intro j hj
                rcases Nat.lt_succ_iff_lt_or_eq.1 hj with h | rfl
                · exact hall.out j h
                · exact hq
              replace hnext := hide hnext
              replace hq := hide hq
              go_wp2
              go_roundg (18 - (i + 1))
              case measure => have := hg.out; omega
              case rel => exact ⟨i + 1, rfl, by have := hlt2.out; omega, by go_num, B5, hnext.out⟩
            | false =>
              have hr2 : r = 2 := game_range hr.out hn hk.out hOK.out hlt2.out hq
              replace hr2 := hide hr2
              replace hq := hide hq
              go_wp2
              go_region_with (first
                | (go_at_call 58; refine (fields_any _).mono ?_; rintro e w9 ⟨u9, ss, rfl, hu9, hl9, hb9⟩; obtain ⟨fb, fo, fc, rfl, hfc⟩ := Rd.form_s hu9 hl9 (by decide); obtain ⟨sx, hsx⟩ : ∃ s, ss[i]? = some s := ⟨_, List.getElem?_eq_getElem (by have := hlt2.out; omega)⟩; have cf := hfc i sx hsx; clear hfc hsx hu9))
              all_goals
                go_wp2
                go_ret2
                rw [hr2.out]
                exact ⟨_, rfl, Bel.to (Bel.to BN B5) (Below.drewL hb9)⟩
        · have hrest := game_rest hr.out hn hk.out hOK.out (fun j hj => hall.out j (by omega))
          have hbd := mat_bounds hk.out hrest.2
          have hr2 := hide hrest.1
          clear hrest
          have e20 := Bel.cellOf hbel d20
          have q2 := Row.keep q1 hbel
          have B6 := Bel.to BN hbel
          clear d20 q1 hbel
          go_wp2_with fail
          refine (raddons_any _ ms _ (h1.out.below B6)).mono ?_
          rintro e w5 ⟨rfl, hb5⟩
          rw [h2]
          have q3 := Row.keep q2 hb5
          have B7 := Bel.to B6 hb5
          clear q2 e20 hb5 B6
          have hcg := hide (fun X (hX : RdS 6 tierCells X (.slice ta gt.length tc) gt) => rtiers_any ⟨gname, gkind, gprice, gmain, gof, gbonus, gbonusOf, gextra, gdraws, gsystem, gdays, gat, gclose, gcancel, gexpiry, gpool, greserve, ground, gcap, grolls, ga, gt⟩ (.slice aa ms.length ac) _ X hX ⟨_, _, _, rfl⟩ hk.out hbd.1 hbd.2.1 hbd.2.2)
          obtain ⟨cav, hca⟩ : ∃ c, c = addonsE ga := ⟨_, rfl⟩
          obtain ⟨cgv, hcg2⟩ : ∃ c, c = tiersE ⟨gname, gkind, gprice, gmain, gof, gbonus, gbonusOf, gextra, gdraws, gsystem, gdays, gat, gclose, gcancel, gexpiry, gpool, greserve, ground, gcap, grolls, ga, gt⟩ := ⟨_, rfl⟩
          rw [← hcg2] at hcg
          have hr3 : r = if cav ≠ 0 then cav else cgv := by rw [hr2.out, hca, hcg2]
          rw [← hca]
          unfold gameVal at hcg
          (try simp only [] at hcg)
          replace hca := hide hca
          replace hcg2 := hide hcg2
          clear hr2 hbd
          by_cases hc0 : cav = 0
          · have hr4 : r = cgv := by rw [hr3, if_neg (by simpa using hc0)]
            replace hr4 := hide hr4
            subst hc0
            clear hr3
            go_wp2_with (first | (refine wpList_load_row rfl 25 _ rfl _ rfl _ _ _ _ q3 Tryz.underlying25 rfl (by kernel_rfl) ?_) | fail)
            refine (hcg.out _ (h3.out.below B7)).mono ?_
            rintro e w6 ⟨rfl, hb6⟩
            by_cases hc1 : cgv = 0
            · replace hr4 : Hid (r = 0) := hide (by rw [hr4.out, hc1])
              subst hc1
              go_wp2
              go_ret2
              rw [hr4.out]
              exact ⟨_, rfl, Bel.to B7 hb6⟩
            · have hcb : (cgv != 0) = true := by simpa using hc1
              replace hc1 := hide hc1
              go_wp2
              go_ret2
              rw [hr4.out]
              exact ⟨_, rfl, Bel.to B7 hb6⟩
          · have hr4 : r = cav := by rw [hr3, if_pos hc0]
            replace hr4 := hide hr4
            have hcb : (cav != 0) = true := by simpa using hc0
            replace hc0 := hide hc0
            clear hr3
            go_wp2
            go_ret2
            rw [hr4.out]
            exact ⟨_, rfl, B7⟩
  · have hr2 : (nameB gname = false ∧ r = 4) ∨ (nameB gname = true ∧ gkind ≠ 1 ∧ gkind ≠ 2 ∧ r = 7) := by
      cases hn : nameB gname with
      | false => left; refine ⟨rfl, ?_⟩; rw [hr.out]; unfold gameE; simp [hn]
      | true =>
        right
        have hk : gkind ≠ 1 ∧ gkind ≠ 2 := by
          constructor
          · intro h; exact hfirst ⟨hn, .inl h⟩
          · intro h; exact hfirst ⟨hn, .inr h⟩
        refine ⟨rfl, hk.1, hk.2, ?_⟩
        rw [hr.out]; unfold gameE; simp [hn, hk.1, hk.2]
    clear hfirst hr
    rcases hr2 with ⟨hn, hr2⟩ | ⟨hn, k1, k2, hr2⟩
    · replace hr2 := hide hr2
      go_enter Tryz.func33, Tryz.ntmps33
      go_wp2_with fail
      refine (rname_any _ _).mono ?_
      rintro e w' ⟨rfl, rfl⟩
      rw [hn]
      go_wp2
      go_ret2
      rw [hr2.out]
      exact ⟨_, rfl, Bel.al (Below.refl _ _) _⟩
    · replace hr2 := hide hr2
      have j1 : (gkind != 1) = true := by simpa using k1
      have j2 : (gkind != 2) = true := by simpa using k2
      replace k1 := hide k1
      replace k2 := hide k2
      go_enter Tryz.func33, Tryz.ntmps33
      go_wp2_with fail
      refine (rname_any _ _).mono ?_
      rintro e w' ⟨rfl, rfl⟩
      rw [hn]
      go_wp2
      go_ret2
      rw [hr2.out]
      exact ⟨_, rfl, Bel.al (Below.refl _ _) _⟩
end Go.Proofs.YtlppomkpmnpmcaaGreat

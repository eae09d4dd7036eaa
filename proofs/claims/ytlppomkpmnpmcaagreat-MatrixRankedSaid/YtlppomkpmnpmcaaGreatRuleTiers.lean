/- rulecheck.checkTiers. -/
import Derived.Test.YtlppomkpmnpmcaaGreatRuleTier
import Derived.Test.YtlppomkpmnpmcaaGreatRuleCov
import Derived.Test.YtlppomkpmnpmcaaGreatRuleAddons
import Derived.WalkMore
import Derived.Deep.LoopGhost
open Go.RowKit
set_option linter.unusedVariables false
set_option linter.unusedSimpArgs false
namespace Go.Proofs.YtlppomkpmnpmcaaGreat

theorem tiersGo_step {g : GameD} {l : List TierD} {i : Nat} {a : TierD} (h : l[i]? = some a) : tiersGo g (l.take i) (l.drop i) = if tierE g a ≠ 0 then tierE g a else if (l.take i).any (fun s => coversB g s a) then 6 else tiersGo g (l.take (i + 1)) (l.drop (i + 1)) := by
  have h1 : l.drop i = a :: l.drop (i + 1) := by
    obtain ⟨hi, h⟩ := List.getElem?_eq_some_iff.1 h
    rw [List.drop_eq_getElem_cons hi, h]
  rw [h1, take_snoc? h]
  rfl

theorem tiersGo_end {g : GameD} {l : List TierD} {i : Nat} (hi : ¬ i < l.length) : tiersGo g (l.take i) (l.drop i) = 0 := by
  rw [List.drop_of_length_le (by omega)]
  rfl

set_option maxHeartbeats 2000000 in
set_option maxRecDepth 100000 in
theorem checkTiers_any (g : GameD) (av tv : Value) (w : World) (h : RdS 6 tierCells w tv g.tiers) (hav : ∃ ao n cap, av = .slice ao n cap) :
    Calls Tryz.prog 43 #[gameVal g av tv] w (IntB (tiersE g) w) := by
  obtain ⟨ta, tc, rfl, hle, hmax⟩ := h.shape
  obtain ⟨aa, an, ac, rfl⟩ := hav
  obtain ⟨G, hG⟩ : ∃ G, G = g := ⟨_, rfl⟩
  unfold tiersE
  by_cases hn : inB g.tiers.length 1 12 = true
  · rw [if_neg (by rw [hn]; simp)]
    have hlen : g.tiers.length ≤ 12 := by have := (inB_iff.1 hn).2; omega
    have hn' := hn
    clear hn
    obtain ⟨r, hr0⟩ : ∃ r, r = tiersGo g [] g.tiers := ⟨_, rfl⟩
    rw [← hr0]
    rw [← hG] at hr0
    obtain ⟨gname, gkind, gprice, gmain, gof, gbonus, gbonusOf, gextra, gdraws, gsystem, gdays, gat, gclose, gcancel, gexpiry, gpool, greserve, ground, gcap, grolls, ga, gt⟩ := g
    simp only [] at h hle hn' hlen
    unfold gameVal
    (try simp only [])
    replace hG := hide hG
    replace hr0 := hide hr0
    have hh := hide h
    clear h
    go_enter Tryz.func43, Tryz.ntmps43
    go_wp2
    obtain ⟨W, hW⟩ : ∃ W, W = (w.alloc (Obj.cells #[.string gname, .int .i64 gkind, .int .i64 gprice, .int .i64 gmain, .int .i64 gof, .int .i64 gbonus, .int .i64 gbonusOf, .int .i64 gextra, .int .i64 gdraws, .int .i64 gsystem, .int .i64 gdays, .int .i64 gat, .int .i64 gclose, .int .i64 gcancel, .int .i64 gexpiry, .int .i64 gpool, .int .i64 greserve, .int .i64 ground, .int .i64 gcap, .int .i64 grolls, (.slice aa an ac), (.slice ta gt.length tc)] 25)) := ⟨_, rfl⟩
    have bW : Below w.heap.size w W := by rw [hW]; exact Bel.al (Below.refl _ _) _
    have r0 : Row W (w.heap.size) 25 [.string gname, .int .i64 gkind, .int .i64 gprice, .int .i64 gmain, .int .i64 gof, .int .i64 gbonus, .int .i64 gbonusOf, .int .i64 gextra, .int .i64 gdraws, .int .i64 gsystem, .int .i64 gdays, .int .i64 gat, .int .i64 gclose, .int .i64 gcancel, .int .i64 gexpiry, .int .i64 gpool, .int .i64 greserve, .int .i64 ground, .int .i64 gcap, .int .i64 grolls, (.slice aa an ac), (.slice ta gt.length tc)] := by rw [hW]; exact Row.new _ _ _
    have c0_21 : W.cell? ⟨w.heap.size, 21, none⟩ = some ((.slice ta gt.length tc)) := Row.cell r0 (i := 21) (by simp)
    have sW : w.heap.size < W.heap.size := by rw [hW]; simp
    rw [← hW]
    clear hW
    go_step3
    go_wp2_with fail
    refine (within_any _ _ _ _).mono ?_
    rintro e w' ⟨rfl, rfl⟩
    rw [hn']
    go_wp2
    go_step3
    go_wp2
    have hstart : tiersGo G (gt.take 0) (gt.drop 0) = r := by rw [hr0.out, hG.out]; rfl
    clear hn'
    have hlen2 : gt.length ≤ 9223372036854775807 := by omega
    go_loopg [16, 3] gt.length (fun g t f wr => ∃ i : Nat, g = gt.length - i ∧ i ≤ gt.length ∧ t = .int .i64 i ∧ f = .int .i64 0 ∧ Below W.heap.size W wr ∧ tiersGo G (gt.take i) (gt.drop i) = r)
    case atStart => exact ⟨0, rfl, Nat.zero_le _, rfl, rfl, Below.refl _ _, hstart⟩
    case round =>
      clear hstart
      obtain ⟨i, hg, hi, rfl, rfl, hbel, hgo⟩ := hrel
      replace hg := hide hg
      replace hgo := hide hgo
      by_cases hlt : i < gt.length
      · have hlt2 := hide hlt
        have i1 : (0 : Int) ≤ (i : Int) := by omega
        have i2 : (i : Int) < (gt.length : Int) := by omega
        obtain ⟨t, ht⟩ : ∃ t, gt[i]? = some t := ⟨_, List.getElem?_eq_getElem hlt⟩
        have hT := hh.out.below (Bel.to bW hbel)
        obtain ⟨b, off, rfl, hbb, hcell⟩ := hT.at_ hlt
        have hrange : wr.rangeAt b (off + i * 6) (tierCells t) := fun j u hu => hcell i t ht j u hu
        clear hcell hT
        have hstep := tiersGo_step (g := G) ht
        rw [hgo.out] at hstep
        replace hstep := hide hstep
        have ht' := hide ht
        clear ht
        have q0 := Row.keep r0 hbel
        have d21 := Bel.cellOf hbel c0_21
        have c1 := hide (fun X => checkTier_any G t (.slice aa an ac) (.slice (some ⟨b, off, none⟩) gt.length tc) X)
        have hcov := hide (fun e X => covers_any G e t (.slice aa an ac) (.slice (some ⟨b, off, none⟩) gt.length tc) X)
        obtain ⟨c, hc⟩ : ∃ c, c = tierE G t := ⟨_, rfl⟩
        obtain ⟨Cv, hCv⟩ : ∃ Cv : TierD → Bool, Cv = fun e => coversB G e t := ⟨_, rfl⟩
        have hstep2 : r = if c ≠ 0 then c else if (gt.take i).any Cv then 6 else tiersGo G (gt.take (i + 1)) (gt.drop (i + 1)) := by rw [hstep.out, hc, hCv]
        have hcv : ∀ e X, Calls Tryz.prog 66 #[gameVal G (.slice aa an ac) (.slice (some ⟨b, off, none⟩) gt.length tc), tierVal e, tierVal t] X (BoolB (Cv e) X) := by rw [hCv]; exact hcov.out
        have hct : ∀ X, Calls Tryz.prog 65 #[gameVal G (.slice aa an ac) (.slice (some ⟨b, off, none⟩) gt.length tc), tierVal t] X (IntB c X) := by rw [hc]; exact c1.out
        clear hstep hcov c1 hc hCv
        rw [hG.out] at hcv hct
        replace hstep2 := hide hstep2
        replace hcv := hide hcv
        replace hct := hide hct
        obtain ⟨tmain, tbonus, textra, tmode, tkind, tvalue⟩ := t
        unfold tierCells at hrange
        simp only [] at hrange
        go_upto_region 7 with (first | (refine wpList_load_mid rfl 46 _ rfl (b) (off + i * 6) rfl [.int .i64 tmain, .int .i64 tbonus, .int .i64 textra, .int .i64 tmode, .int .i64 tkind, .int .i64 tvalue] _ hrange Tryz.underlying46 rfl (by kernel_rfl) ?_) | fail)
        obtain ⟨W1, hW1⟩ : ∃ W1, W1 = wr.alloc (.cells #[.int .i64 tmain, .int .i64 tbonus, .int .i64 textra, .int .i64 tmode, .int .i64 tkind, .int .i64 tvalue] 46) := ⟨_, rfl⟩
        have hb1 : Below wr.heap.size wr W1 := by rw [hW1]; exact Bel.al (Below.refl _ _) _
        have r1 : Row W1 wr.heap.size 46 [.int .i64 tmain, .int .i64 tbonus, .int .i64 textra, .int .i64 tmode, .int .i64 tkind, .int .i64 tvalue] := by rw [hW1]; exact Row.newOf _ rfl
        rw [← hW1]
        clear hW1 hrange
        have q1 := Row.keep q0 hb1
        have d1 := Bel.cellOf hb1 d21
        clear q0 d21
        go_wp2_with (first | (refine wpList_load_row rfl 25 _ rfl _ rfl _ _ _ _ q1 Tryz.underlying25 rfl (by kernel_rfl) ?_) | (refine wpList_load_row rfl 46 _ rfl _ rfl _ _ _ _ r1 Tryz.underlying46 rfl (by kernel_rfl) ?_) | fail)
        refine (hct.out _).mono ?_
        rintro e w2 ⟨rfl, hb2⟩
        have q2 := Row.keep q1 hb2
        have d2 := Bel.cellOf hb2 d1
        have r2 := Row.keep r1 hb2
        have B2 : Below W.heap.size W w2 := Bel.to (Bel.to hbel hb1) hb2
        clear q1 d1 r1 hct hb1 hb2 hbel
        by_cases hc0 : c = 0
        · have hs3 := hstep2.out
          rw [hc0, if_neg (by simp)] at hs3
          subst hc0
          replace hs3 := hide hs3
          clear hstep2
          have i3 : (i : Int) ≤ (tc : Int) := by omega
          have i4 : (i : Int) ≤ (gt.length : Int) := by omega
          go_wp2
          go_loopg [31, 3] i (fun g t f wr' => ∃ k : Nat, g = i - k ∧ k ≤ i ∧ t = .int .i64 k ∧ f = .int .i64 0 ∧ Below w2.heap.size w2 wr' ∧ ∀ j x, j < k → gt[j]? = some x → Cv x = false)
          case atStart => exact ⟨0, rfl, Nat.zero_le _, rfl, rfl, Below.refl _ _, fun j x hj => absurd hj (Nat.not_lt_zero _)⟩
          case round =>
            obtain ⟨k, hgk, hk, rfl, rfl, hbel3, hno⟩ := hrel
            replace hgk := hide hgk
            replace hno := hide hno
            obtain ⟨wq, hwq⟩ : ∃ X, X = wr := ⟨_, rfl⟩
            by_cases hki : k < i
            · have hki2 := hide hki
              have k1 : (0 : Int) ≤ (k : Int) := by omega
              have k2 : (k : Int) < (i : Int) := by omega
              have hkl : k < gt.length := by omega
              obtain ⟨e, he⟩ : ∃ e, gt[k]? = some e := ⟨_, List.getElem?_eq_getElem hkl⟩
              have hT := hh.out.below (Bel.to bW (Bel.to B2 hbel3))
              obtain ⟨b', off', hbo, hbb', hcell⟩ := hT.at_ hkl
              obtain ⟨rfl, rfl⟩ : b = b' ∧ off = off' := by simpa using hbo
              have hrange : wr.rangeAt b (off + k * 6) (tierCells e) := fun j u hu => hcell k e he j u hu
              clear hcell hT hbo hwq
              have he' := hide he
              clear he
              have q3 := Row.keep q2 hbel3
              have r3 := Row.keep r2 hbel3
              have hcve := hide (hcv.out e)
              obtain ⟨q, hq⟩ : ∃ q, q = Cv e := ⟨_, rfl⟩
              rw [← hq] at hcve
              replace hq := hide hq
              have hlast := hide (fun (h : Cv e = true) => any_take_yes (p := Cv) hki he'.out h)
              have hnext := hide (fun (h : Cv e = false) => show ∀ j x, j < k + 1 → gt[j]? = some x → Cv x = false from by
                intro j x hj hx
                rcases Nat.lt_succ_iff_lt_or_eq.1 hj with h' | rfl
                · exact hno.out j x h' hx
                · rw [he'.out] at hx; injection hx with hx; rw [← hx]; exact h)
              clear hcv he'
              obtain ⟨emain, ebonus, eextra, emode, ekind, evalue⟩ := e
              unfold tierCells at hrange
              simp only [] at hrange
              go_upto_region 12 with (first | (refine wpList_load_mid rfl 46 _ rfl (b) (off + k * 6) rfl [.int .i64 emain, .int .i64 ebonus, .int .i64 eextra, .int .i64 emode, .int .i64 ekind, .int .i64 evalue] _ hrange Tryz.underlying46 rfl (by kernel_rfl) ?_) | fail)
              obtain ⟨W3, hW3⟩ : ∃ W3, W3 = wr.alloc (.cells #[.int .i64 emain, .int .i64 ebonus, .int .i64 eextra, .int .i64 emode, .int .i64 ekind, .int .i64 evalue] 46) := ⟨_, rfl⟩
              have hb3 : Below wr.heap.size wr W3 := by rw [hW3]; exact Bel.al (Below.refl _ _) _
              have r4 : Row W3 wr.heap.size 46 [.int .i64 emain, .int .i64 ebonus, .int .i64 eextra, .int .i64 emode, .int .i64 ekind, .int .i64 evalue] := by rw [hW3]; exact Row.newOf _ rfl
              rw [← hW3]
              clear hW3 hrange
              have q4 := Row.keep q3 hb3
              have r5 := Row.keep r3 hb3
              clear q3 r3
              go_wp2_with (first | (refine wpList_load_row rfl 25 _ rfl _ rfl _ _ _ _ q4 Tryz.underlying25 rfl (by kernel_rfl) ?_) | (refine wpList_load_row rfl 46 _ rfl _ rfl _ _ _ _ r4 Tryz.underlying46 rfl (by kernel_rfl) ?_) | (refine wpList_load_row rfl 46 _ rfl _ rfl _ _ _ _ r5 Tryz.underlying46 rfl (by kernel_rfl) ?_) | fail)
              refine (hcve.out _).mono ?_
              rintro e w4 ⟨rfl, hb4⟩
              have B4 : Below w2.heap.size w2 w4 := Bel.to (Bel.to hbel3 hb3) hb4
              clear q4 r4 r5 hb3 hb4 hbel3
              cases q
              · have hn1 := hide (hnext.out hq.out.symm)
                go_wp2
                go_roundg (i - (k + 1))
                case measure => have := hgk.out; have := hki2.out; omega
                case rel => exact ⟨k + 1, rfl, by have := hki2.out; omega, by go_num, rfl, B4, hn1.out⟩
              · have hr6 := hs3.out
                rw [hlast.out hq.out.symm, if_pos rfl] at hr6
                replace hr6 := hide hr6
                go_wp2
                rw [Exit.noGoto_ret]
                go_ret
                rw [hr6.out]
                exact ⟨rfl, Bel.to bW (Bel.to B2 B4)⟩
            · have hki2 : k = i := by omega
              have hs4 := hs3.out
              rw [any_take_no (fun j x hj hx => hno.out j x (by omega) hx), if_neg (by simp)] at hs4
              replace hs4 := hide hs4
              replace hki2 := hide hki2
              clear hwq
              have B5 := Bel.to B2 hbel3
              go_wp2
              go_roundg (gt.length - (i + 1))
              case measure => have := hg.out; have := hlt2.out; omega
              case rel => exact ⟨i + 1, rfl, by have := hlt2.out; omega, by go_num, rfl, B5, hs4.out.symm⟩
        · have hcb : (c != 0) = true := by simpa using hc0
          have hs3 := hstep2.out
          rw [if_pos hc0] at hs3
          replace hs3 := hide hs3
          clear hstep2
          go_wp2
          rw [Exit.noGoto_ret]
          go_ret
          rw [hs3.out]
          exact ⟨rfl, Bel.to bW B2⟩
      · have hend := tiersGo_end (g := G) (l := gt) (i := i) hlt
        rw [hgo.out] at hend
        replace hend := hide hend
        go_wp2
        go_ret
        rw [hend.out]
        exact ⟨rfl, Bel.to bW hbel⟩
  · rw [if_pos (by simpa using hn)]
    have hn' : inB g.tiers.length 1 12 = false := by simpa using hn
    clear hn
    obtain ⟨gname, gkind, gprice, gmain, gof, gbonus, gbonusOf, gextra, gdraws, gsystem, gdays, gat, gclose, gcancel, gexpiry, gpool, greserve, ground, gcap, grolls, ga, gt⟩ := g
    simp only [] at hn'
    unfold gameVal
    (try simp only [])
    go_enter Tryz.func43, Tryz.ntmps43
    go_wp2
    go_step3
    go_wp2_with fail
    refine (within_any _ _ _ _).mono ?_
    rintro e w' ⟨rfl, rfl⟩
    rw [hn']
    go_wp2
    go_ret
    exact ⟨rfl, Bel.al (Below.refl _ _) _⟩
end Go.Proofs.YtlppomkpmnpmcaaGreat

/- lotteryref12.Covers. -/
import Derived.Test.YtlppomkpmnpmcaaGreatRTier
import Derived.Deep.DeepCutAuto
import Derived.Laws.Rows
open Go.RowKit
set_option linter.unusedVariables false
set_option linter.unusedSimpArgs false
namespace Go.Proofs.YtlppomkpmnpmcaaGreat

def coversR (g : GameD) (a b : TierD) : Bool :=
  if g.kind = 1 then decide (a.main ≤ b.main ∧ a.bonus ≤ b.bonus ∧ a.extra ≤ b.extra)
  else if modeR g b = 1 then true
  else decide (modeR g a = modeR g b ∧ (modeR g a = 2 ∨ a.main ≤ b.main))

theorem tier_valid {g : GameD} {t : TierD} (hk : g.kind = 2) (h : tierE g t = 0) : (t.mode = 1 ∧ t.main = 0) ∨ (t.mode = 2 ∧ t.main = 0) ∨ ((t.mode = 3 ∨ t.mode = 4) ∧ 1 ≤ t.main ∧ t.main ≤ g.main) := by
  rw [tierE_digits hk] at h
  have hd : digitsTE g t = 0 := by
    by_cases hd : digitsTE g t = 0
    · exact hd
    · rw [if_pos hd] at h; exact h
  unfold digitsTE at hd
  by_cases hm : inB t.mode 1 4 = true
  · rw [if_neg (by rw [hm]; simp)] at hd
    by_cases hc : t.bonus ≠ 0 ∨ t.extra ≠ 0 ∨ (if t.mode ≤ 2 then inB t.main 0 0 else inB t.main 1 g.main) = false
    · rw [if_pos hc] at hd; omega
    · simp only [not_or] at hc
      obtain ⟨-, -, hc⟩ := hc
      rcases mode_in hm with h | h | h | h
      · rw [if_pos (by omega), inB_zero] at hc; left; exact ⟨h, by simpa using hc⟩
      · rw [if_pos (by omega), inB_zero] at hc; right; left; exact ⟨h, by simpa using hc⟩
      · rw [if_neg (by omega)] at hc
        have := inB_iff.1 (show inB t.main 1 g.main = true by simpa using hc)
        right; right; exact ⟨.inl h, this⟩
      · rw [if_neg (by omega)] at hc
        have := inB_iff.1 (show inB t.main 1 g.main = true by simpa using hc)
        right; right; exact ⟨.inr h, this⟩
  · rw [if_pos (by simpa using hm)] at hd; omega

theorem modeR_eq {g : GameD} {t : TierD} (hk : g.kind = 2) (h : tierE g t = 0) : modeR g t = modeV g t := by
  unfold modeR modeV
  rcases tier_valid hk h with ⟨h1, h2⟩ | ⟨h1, h2⟩ | ⟨h1, h2, h3⟩
  · rw [if_neg (by omega), if_neg (by omega)]
  · rw [if_neg (by omega), if_neg (by omega)]
  · by_cases hm : t.main = g.main
    · rw [if_pos (by omega), if_pos (by omega)]
    · rw [if_neg (by omega), if_neg (by omega)]

theorem coversR_eq {g : GameD} {a b : TierD} (hk : g.kind = 1 ∨ g.kind = 2) (ha : tierE g a = 0) (hb : tierE g b = 0) : coversR g a b = coversB g a b := by
  unfold coversR coversB
  rcases hk with hk | hk
  · rw [if_pos hk, if_pos hk]
  · have hk1 : ¬ g.kind = 1 := by omega
    rw [if_neg hk1, if_neg hk1, modeR_eq hk ha, modeR_eq hk hb]
    by_cases h1 : modeV g b = 1
    · rw [if_pos h1, if_pos h1]
    · rw [if_neg h1, if_neg h1, decide_eq_decide]
      constructor
      · rintro ⟨h2, h3 | h3⟩
        · refine ⟨h2, ?_⟩
          have za : a.main = 0 := by
            unfold modeV at h3
            rcases tier_valid hk ha with ⟨h4, h5⟩ | ⟨h4, h5⟩ | ⟨h4, h5, h6⟩
            · exact h5
            · exact h5
            · split at h3 <;> omega
          have zb : b.main = 0 := by
            rw [h2] at h3
            unfold modeV at h3
            rcases tier_valid hk hb with ⟨h4, h5⟩ | ⟨h4, h5⟩ | ⟨h4, h5, h6⟩
            · exact h5
            · exact h5
            · split at h3 <;> omega
          omega
        · exact ⟨h2, h3⟩
      · rintro ⟨h2, h3⟩
        exact ⟨h2, .inr h3⟩

theorem rcovers_choose (g : GameD) (a t : TierD) (av tv : Value) (w : World) (hk : g.kind = 1) :
    Calls Tryz.prog 89 #[gameVal g av tv, tierVal a, tierVal t] w (BoolB (coversR g a t) w) := by
  obtain ⟨r, hr⟩ : ∃ r, r = coversR g a t := ⟨_, rfl⟩
  rw [← hr]
  unfold coversR at hr
  rw [if_pos hk] at hr
  obtain ⟨gname, gkind, gprice, gmain, gof, gbonus, gbonusOf, gextra, gdraws, gsystem, gdays, gat, gclose, gcancel, gexpiry, gpool, greserve, ground, gcap, grolls, ga, gt⟩ := g
  obtain ⟨amain, abonus, aextra, amode, akind, avalue⟩ := a
  obtain ⟨tmain, tbonus, textra, tmode, tkind, tvalue⟩ := t
  (try simp only [] at hk hr)
  unfold gameVal tierVal
  (try simp only [])
  replace hr := hide hr
  subst hk
  go_enter Tryz.func89, Tryz.ntmps89
  go_wp2
  all_goals
    go_ret
    refine ⟨?_, Bel.al (Bel.al (Bel.al (Below.refl _ _) _) _) _⟩
    rw [hr.out]
    first | (simp_all; done) | (congr 2; simp_all; omega) | (rw [decide_eq_false (by omega)]; done) | (rw [decide_eq_true (by omega)]; done)

set_option maxHeartbeats 2000000 in
set_option maxRecDepth 100000 in
theorem rcovers_digits (g : GameD) (a t : TierD) (av tv : Value) (w : World) (hk : g.kind ≠ 1) :
    Calls Tryz.prog 89 #[gameVal g av tv, tierVal a, tierVal t] w (BoolB (coversR g a t) w) := by
  obtain ⟨r, hr⟩ : ∃ r, r = coversR g a t := ⟨_, rfl⟩
  rw [← hr]
  unfold coversR at hr
  rw [if_neg hk] at hr
  have ca := hide (fun X => rmode_any g a av tv X)
  have ct := hide (fun X => rmode_any g t av tv X)
  obtain ⟨ma, hma⟩ : ∃ m, m = modeR g a := ⟨_, rfl⟩
  obtain ⟨mt, hmt⟩ : ∃ m, m = modeR g t := ⟨_, rfl⟩
  rw [← hma] at hr ca
  rw [← hmt] at hr ct
  clear hma hmt
  obtain ⟨gname, gkind, gprice, gmain, gof, gbonus, gbonusOf, gextra, gdraws, gsystem, gdays, gat, gclose, gcancel, gexpiry, gpool, greserve, ground, gcap, grolls, ga, gt⟩ := g
  obtain ⟨amain, abonus, aextra, amode, akind, avalue⟩ := a
  obtain ⟨tmain, tbonus, textra, tmode, tkind, tvalue⟩ := t
  (try simp only [] at hk hr)
  unfold gameVal tierVal at ca ct ⊢
  (try simp only [] at ca ct ⊢)
  replace hr := hide hr
  have hkb : (gkind == 1) = false := by simpa using hk
  replace hk := hide hk
  go_enter Tryz.func89, Tryz.ntmps89
  go_upto_region 1 with (fail)
  obtain ⟨W, hW⟩ : ∃ W, W = (((w.alloc (Obj.cells #[.string gname, .int .i64 gkind, .int .i64 gprice, .int .i64 gmain, .int .i64 gof, .int .i64 gbonus, .int .i64 gbonusOf, .int .i64 gextra, .int .i64 gdraws, .int .i64 gsystem, .int .i64 gdays, .int .i64 gat, .int .i64 gclose, .int .i64 gcancel, .int .i64 gexpiry, .int .i64 gpool, .int .i64 greserve, .int .i64 ground, .int .i64 gcap, .int .i64 grolls, av, tv] 25)).alloc (Obj.cells #[.int .i64 amain, .int .i64 abonus, .int .i64 aextra, .int .i64 amode, .int .i64 akind, .int .i64 avalue] 46)).alloc (Obj.cells #[.int .i64 tmain, .int .i64 tbonus, .int .i64 textra, .int .i64 tmode, .int .i64 tkind, .int .i64 tvalue] 46)) := ⟨_, rfl⟩
  have bW : Below w.heap.size w W := by rw [hW]; exact Bel.al (Bel.al (Bel.al (Below.refl _ _) _) _) _
  have r0 : Row W (w.heap.size) 25 [.string gname, .int .i64 gkind, .int .i64 gprice, .int .i64 gmain, .int .i64 gof, .int .i64 gbonus, .int .i64 gbonusOf, .int .i64 gextra, .int .i64 gdraws, .int .i64 gsystem, .int .i64 gdays, .int .i64 gat, .int .i64 gclose, .int .i64 gcancel, .int .i64 gexpiry, .int .i64 gpool, .int .i64 greserve, .int .i64 ground, .int .i64 gcap, .int .i64 grolls, av, tv] := by rw [hW]; exact Row.alloc (Row.alloc (Row.new _ _ _) _) _
  have c0_1 : W.cell? ⟨w.heap.size, 1, none⟩ = some (.int .i64 gkind) := Row.cell r0 (i := 1) (by simp)
  have r1 : Row W (w.heap.size + 1) 46 [.int .i64 amain, .int .i64 abonus, .int .i64 aextra, .int .i64 amode, .int .i64 akind, .int .i64 avalue] := by rw [hW]; exact Row.alloc (Row.at2 _ _ _ _) _
  have c1_0 : W.cell? ⟨w.heap.size + 1, 0, none⟩ = some (.int .i64 amain) := Row.cell r1 (i := 0) (by simp)
  have r2 : Row W (w.heap.size + 1 + 1) 46 [.int .i64 tmain, .int .i64 tbonus, .int .i64 textra, .int .i64 tmode, .int .i64 tkind, .int .i64 tvalue] := by rw [hW]; exact Row.at3 _ _ _ _ _
  have c2_0 : W.cell? ⟨w.heap.size + 1 + 1, 0, none⟩ = some (.int .i64 tmain) := Row.cell r2 (i := 0) (by simp)
  have sW : w.heap.size + 1 + 1 < W.heap.size := by rw [hW]; simp
  rw [← hW]
  clear hW
  go_wp2_with (first | (refine wpList_load_row rfl 25 _ rfl _ rfl _ _ _ _ r0 Tryz.underlying25 rfl (by kernel_rfl) ?_) | (refine wpList_load_row rfl 46 _ rfl _ rfl _ _ _ _ r1 Tryz.underlying46 rfl (by kernel_rfl) ?_) | fail)
  refine (ca.out _).mono ?_
  rintro e w1 ⟨rfl, hb1⟩
  have q0 := Row.keep r0 hb1
  have q2 := Row.keep r2 hb1
  have d1 := Bel.cellOf hb1 c1_0
  have d2 := Bel.cellOf hb1 c2_0
  have B1 := Bel.to bW hb1
  clear r0 r1 r2 c0_1 c1_0 c2_0 hb1 ca
  go_wp2_with (first | (refine wpList_load_row rfl 25 _ rfl _ rfl _ _ _ _ q0 Tryz.underlying25 rfl (by kernel_rfl) ?_) | (refine wpList_load_row rfl 46 _ rfl _ rfl _ _ _ _ q2 Tryz.underlying46 rfl (by kernel_rfl) ?_) | fail)
  refine (ct.out _).mono ?_
  rintro e w2 ⟨rfl, hb2⟩
  have e1 := Bel.cellOf hb2 d1
  have e2 := Bel.cellOf hb2 d2
  have B2 := Bel.to B1 hb2
  clear q0 q2 d1 d2 hb2 ct
  go_wp2
  all_goals
    go_ret
    refine ⟨?_, B2⟩
    rw [hr.out]
    first | (simp_all; done) | (congr 2; simp_all; omega) | (rw [decide_eq_false (by omega)]; done) | (rw [decide_eq_true (by omega)]; done)

theorem rcovers_any (g : GameD) (a t : TierD) (av tv : Value) (w : World) :
    Calls Tryz.prog 89 #[gameVal g av tv, tierVal a, tierVal t] w (BoolB (coversR g a t) w) := by
  by_cases h : g.kind = 1
  · exact rcovers_choose g a t av tv w h
  · exact rcovers_digits g a t av tv w h
end Go.Proofs.YtlppomkpmnpmcaaGreat

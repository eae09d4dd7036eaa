/- lotteryref12: tier, mode, Covers. -/
import Derived.Test.YtlppomkpmnpmcaaGreatRuleTier
open Go.RowKit
set_option linter.unusedVariables false
set_option linter.unusedSimpArgs false
namespace Go.Proofs.YtlppomkpmnpmcaaGreat

set_option maxHeartbeats 4000000 in
set_option maxRecDepth 100000 in
theorem rtier_choose (g : GameD) (t : TierD) (av tv : Value) (w : World) (hk : g.kind = 1) (b1 : g.main ≤ 10) (b2 : g.bonus ≤ 4) (b3 : g.extra ≤ 4) :
    Calls Tryz.prog 88 #[gameVal g av tv, tierVal t] w (IntB (tierE g t) w) := by
  rw [tierE_choose (by omega)]
  obtain ⟨r, hr⟩ : ∃ r, r = (if chooseTE g t ≠ 0 then chooseTE g t else if inB t.kind 1 3 = false then 7 else if inB t.value 0 1000000000 = false then 2 else 0) := ⟨_, rfl⟩
  rw [← hr]
  unfold chooseTE at hr
  obtain ⟨gname, gkind, gprice, gmain, gof, gbonus, gbonusOf, gextra, gdraws, gsystem, gdays, gat, gclose, gcancel, gexpiry, gpool, greserve, ground, gcap, grolls, ga, gt⟩ := g
  obtain ⟨tmain, tbonus, textra, tmode, tkind, tvalue⟩ := t
  (try simp only [] at hk hr b1 b2 b3)
  unfold gameVal tierVal
  (try simp only [])
  subst hk
  by_cases hm : inB tmain 0 gmain = true
  · by_cases hb : inB tbonus 0 gbonus = true
    · by_cases he : inB textra 0 gextra = true
      · have m1 := (inB_iff.1 hm).1
        have m2 := (inB_iff.1 hm).2
        have n1 := (inB_iff.1 hb).1
        have n2 := (inB_iff.1 hb).2
        have x1 := (inB_iff.1 he).1
        have x2 := (inB_iff.1 he).2
        replace hr := hide hr
        go_enter Tryz.func88, Tryz.ntmps88
        go_wp2_with (first | (go_at_call 55; refine (rin_any _ _ _ _).mono ?_; rintro e w' ⟨rfl, rfl⟩) | fail)
        all_goals
          go_ret
          refine ⟨ret_int ?_, Bel.al (Bel.al (Below.refl _ _) _) _⟩
          rw [hr.out]
          (simp_all <;> omega)
      · replace he : inB textra 0 gextra = false := by simpa using he
        replace hr := hide hr
        go_enter Tryz.func88, Tryz.ntmps88
        go_wp2_with (first | (go_at_call 55; refine (rin_any _ _ _ _).mono ?_; rintro e w' ⟨rfl, rfl⟩) | fail)
        all_goals
          go_ret
          refine ⟨ret_int ?_, Bel.al (Bel.al (Below.refl _ _) _) _⟩
          rw [hr.out]
          (simp_all <;> omega)
    · replace hb : inB tbonus 0 gbonus = false := by simpa using hb
      replace hr := hide hr
      go_enter Tryz.func88, Tryz.ntmps88
      go_wp2_with (first | (go_at_call 55; refine (rin_any _ _ _ _).mono ?_; rintro e w' ⟨rfl, rfl⟩) | fail)
      all_goals
        go_ret
        refine ⟨ret_int ?_, Bel.al (Bel.al (Below.refl _ _) _) _⟩
        rw [hr.out]
        (simp_all <;> omega)
  · replace hm : inB tmain 0 gmain = false := by simpa using hm
    replace hr := hide hr
    go_enter Tryz.func88, Tryz.ntmps88
    go_wp2_with (first | (go_at_call 55; refine (rin_any _ _ _ _).mono ?_; rintro e w' ⟨rfl, rfl⟩) | fail)
    all_goals
      go_ret
      refine ⟨ret_int ?_, Bel.al (Bel.al (Below.refl _ _) _) _⟩
      rw [hr.out]
      (simp_all <;> omega)

theorem inB_zero (x : Int) : inB x 0 0 = decide (x = 0) := by
  unfold inB
  rw [decide_eq_decide]
  omega

theorem mode_in {m : Int} (h : inB m 1 4 = true) : m = 1 ∨ m = 2 ∨ m = 3 ∨ m = 4 := by
  have := inB_iff.1 h
  omega

set_option maxHeartbeats 4000000 in
set_option maxRecDepth 100000 in
theorem rtier_digits (g : GameD) (t : TierD) (av tv : Value) (w : World) (hk : g.kind = 2) :
    Calls Tryz.prog 88 #[gameVal g av tv, tierVal t] w (IntB (tierE g t) w) := by
  rw [tierE_digits hk]
  obtain ⟨r, hr⟩ : ∃ r, r = (if digitsTE g t ≠ 0 then digitsTE g t else if inB t.kind 1 3 = false then 7 else if inB t.value 0 1000000000 = false then 2 else 0) := ⟨_, rfl⟩
  rw [← hr]
  unfold digitsTE at hr
  obtain ⟨gname, gkind, gprice, gmain, gof, gbonus, gbonusOf, gextra, gdraws, gsystem, gdays, gat, gclose, gcancel, gexpiry, gpool, greserve, ground, gcap, grolls, ga, gt⟩ := g
  obtain ⟨tmain, tbonus, textra, tmode, tkind, tvalue⟩ := t
  (try simp only [] at hk hr)
  unfold gameVal tierVal
  (try simp only [])
  subst hk
  by_cases hm : inB tmode 1 4 = true
  · rcases mode_in hm with rfl | rfl | rfl | rfl
    · simp only [show inB 1 1 4 = true from rfl, show ((1 : Int) ≤ 2) = True by simp, if_true, inB_zero] at hr
      replace hr := hide hr
      go_enter Tryz.func88, Tryz.ntmps88
      go_wp2_with (first | (go_at_call 55; refine (rin_any _ _ _ _).mono ?_; rintro e w' ⟨rfl, rfl⟩) | fail)
      all_goals
        go_ret
        refine ⟨ret_int ?_, Bel.al (Bel.al (Below.refl _ _) _) _⟩
        rw [hr.out]
        (simp_all <;> omega)
    · simp only [show inB 2 1 4 = true from rfl, show ((2 : Int) ≤ 2) = True by simp, if_true, inB_zero] at hr
      replace hr := hide hr
      go_enter Tryz.func88, Tryz.ntmps88
      go_wp2_with (first | (go_at_call 55; refine (rin_any _ _ _ _).mono ?_; rintro e w' ⟨rfl, rfl⟩) | fail)
      all_goals
        go_ret
        refine ⟨ret_int ?_, Bel.al (Bel.al (Below.refl _ _) _) _⟩
        rw [hr.out]
        (simp_all <;> omega)
    · simp only [show inB 3 1 4 = true from rfl, show ((3 : Int) ≤ 2) = False by simp, if_false] at hr
      replace hr := hide hr
      go_enter Tryz.func88, Tryz.ntmps88
      go_wp2_with (first | (go_at_call 55; refine (rin_any _ _ _ _).mono ?_; rintro e w' ⟨rfl, rfl⟩) | fail)
      all_goals
        go_ret
        refine ⟨ret_int ?_, Bel.al (Bel.al (Below.refl _ _) _) _⟩
        rw [hr.out]
        (simp_all <;> omega)
    · simp only [show inB 4 1 4 = true from rfl, show ((4 : Int) ≤ 2) = False by simp, if_false] at hr
      replace hr := hide hr
      go_enter Tryz.func88, Tryz.ntmps88
      go_wp2_with (first | (go_at_call 55; refine (rin_any _ _ _ _).mono ?_; rintro e w' ⟨rfl, rfl⟩) | fail)
      all_goals
        go_ret
        refine ⟨ret_int ?_, Bel.al (Bel.al (Below.refl _ _) _) _⟩
        rw [hr.out]
        (simp_all <;> omega)
  · replace hm : inB tmode 1 4 = false := by simpa using hm
    replace hr := hide hr
    go_enter Tryz.func88, Tryz.ntmps88
    go_wp2_with (first | (go_at_call 55; refine (rin_any _ _ _ _).mono ?_; rintro e w' ⟨rfl, rfl⟩) | fail)
    all_goals
      go_ret
      refine ⟨ret_int ?_, Bel.al (Bel.al (Below.refl _ _) _) _⟩
      rw [hr.out]
      (simp_all <;> omega)

def modeR (g : GameD) (t : TierD) : Int := if 2 < t.mode ∧ t.main = g.main then 1 else t.mode

set_option maxHeartbeats 1000000 in
theorem rmode_any (g : GameD) (t : TierD) (av tv : Value) (w : World) :
    Calls Tryz.prog 106 #[gameVal g av tv, tierVal t] w (IntB (modeR g t) w) := by
  obtain ⟨r, hr⟩ : ∃ r, r = modeR g t := ⟨_, rfl⟩
  rw [← hr]
  unfold modeR at hr
  obtain ⟨gname, gkind, gprice, gmain, gof, gbonus, gbonusOf, gextra, gdraws, gsystem, gdays, gat, gclose, gcancel, gexpiry, gpool, greserve, ground, gcap, grolls, ga, gt⟩ := g
  obtain ⟨tmain, tbonus, textra, tmode, tkind, tvalue⟩ := t
  (try simp only [] at hr)
  unfold gameVal tierVal
  (try simp only [])
  replace hr := hide hr
  go_enter Tryz.func106, Tryz.ntmps106
  go_wp2
  all_goals
    go_ret
    refine ⟨ret_int ?_, Bel.al (Bel.al (Below.refl _ _) _) _⟩
    rw [hr.out]
    first | (simp_all; done) | (simp_all; omega) | (rw [if_neg (by omega)]; done) | (rw [if_pos (by omega)]; done)
end Go.Proofs.YtlppomkpmnpmcaaGreat

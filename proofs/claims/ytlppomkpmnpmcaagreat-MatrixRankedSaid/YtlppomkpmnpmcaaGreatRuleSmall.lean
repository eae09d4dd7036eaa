/- rulecheck: checkAll, checkChoose, checkDigits, effectiveMode, covers, checkTier. -/
import Derived.Test.YtlppomkpmnpmcaaGreatGame
import Derived.Test.YtlppomkpmnpmcaaGreatName
import Derived.BigQuiet
open Go.RowKit
set_option linter.unusedVariables false
set_option linter.unusedSimpArgs false
namespace Go.Proofs.YtlppomkpmnpmcaaGreat

theorem allE_at {l : List Int} {lo hi : Int} {k : Nat} (hk : k < l.length) (h : inB l[k] lo hi = false) : allE l lo hi = 2 := by
  unfold allE
  rw [if_neg]
  intro e
  have := List.all_eq_true.1 e l[k] (List.getElem_mem hk)
  rw [h] at this; cases this
theorem allE_yes {l : List Int} {lo hi : Int} (h : ∀ k (hk : k < l.length), inB l[k] lo hi = true) : allE l lo hi = 0 := by
  unfold allE
  rw [if_pos]
  rw [List.all_eq_true]
  intro x hx
  obtain ⟨k, hk, rfl⟩ := List.getElem_of_mem hx
  exact h k hk

set_option maxHeartbeats 1000000 in
theorem checkAll_any (v : Value) (l : List Int) (lo hi : Int) (w : World) (h : Rd I64 w v l) :
    Calls Tryz.prog 92 #[v, .int .i64 lo, .int .i64 hi] w (Pure (.int .i64 (allE l lo hi)) w) := by
  obtain ⟨ao, cap, rfl, hle, hmax, hrd⟩ := Rd.form h
  have hmax2 : cap ≤ 9223372036854775807 := by unfold maxLen at hmax; omega
  go_enter Tryz.func92, Tryz.ntmps92
  go_wp2
  go_loopg [11] l.length (fun g t wr => ∃ (i : Nat), g = l.length - i ∧ i ≤ l.length ∧ t = .int .i64 i ∧ w = wr ∧ ∀ k (hk : k < l.length), k < i → inB l[k] lo hi = true)
  case atStart => exact ⟨0, rfl, Nat.zero_le _, rfl, rfl, fun k hk hki => absurd hki (Nat.not_lt_zero _)⟩
  case round =>
    obtain ⟨i, hg, hi', rfl, rfl, hall⟩ := hrel
    replace hg := hide hg
    replace hall := hide hall
    by_cases hlt : i < l.length
    · have hlt2 := hide hlt
      obtain ⟨b, off, rfl, hbb, hcell⟩ := hrd.at_ hlt
      have i1 : (0 : Int) ≤ (i : Int) := by omega
      have i2 : (i : Int) < (l.length : Int) := by omega
      obtain ⟨x, hx, c1⟩ : ∃ x, x = l[i] ∧ w.cell? ⟨b, off + i, none⟩ = some (.int .i64 x) := ⟨_, rfl, hcell _ hlt⟩
      clear hcell
      by_cases hin : inB l[i] lo hi = true
      · have hnext : ∀ k (hk : k < l.length), k < i + 1 → inB l[k] lo hi = true := by
          intro k hk hki
          rcases Nat.lt_succ_iff_lt_or_eq.1 hki with h | rfl
          · exact hall.out k hk h
          · exact hin
        replace hnext := hide hnext
        rw [← hx] at hin
        replace hx := hide hx
        go_wp2_with fail
        refine (within_any _ _ _ _).mono ?_
        rintro e w' ⟨rfl, rfl⟩
        rw [hin]
        go_wp2
        go_roundg (l.length - (i + 1))
        case measure => have := hg.out; omega
        case rel => exact ⟨i + 1, rfl, by have := hlt2.out; omega, by go_num, rfl, hnext.out⟩
      · have hin' : inB l[i] lo hi = false := by simpa using hin
        have hr := hide (allE_at hlt hin')
        rw [← hx] at hin'
        clear hin
        replace hx := hide hx
        go_wp2_with fail
        refine (within_any _ _ _ _).mono ?_
        rintro e w' ⟨rfl, rfl⟩
        rw [hin']
        go_wp2
        go_ret
        rw [hr.out]
        exact ⟨rfl, rfl⟩
    · have hr := hide (allE_yes (lo := lo) (hi := hi) (fun k hk => hall.out k hk (by omega)))
      go_wp2
      go_ret
      rw [hr.out]
      exact ⟨rfl, rfl⟩

theorem chooseT_any (g : GameD) (t : TierD) (av tv : Value) (w : World) :
    Calls Tryz.prog 93 #[gameVal g av tv, tierVal t] w (IntB (chooseTE g t) w) := by
  obtain ⟨gname, gkind, gprice, gmain, gof, gbonus, gbonusOf, gextra, gdraws, gsystem, gdays, gat, gclose, gcancel, gexpiry, gpool, greserve, ground, gcap, grolls, ga, gt⟩ := g
  obtain ⟨tmain, tbonus, textra, tmode, tkind, tvalue⟩ := t
  unfold gameVal tierVal chooseTE
  simp only []
  go_enter Tryz.func93, Tryz.ntmps93
  go_wp2_with (first | (go_at_call 63; refine (within_any _ _ _ _).mono ?_; rintro e w' ⟨rfl, rfl⟩) | fail)
  all_goals
    go_ret
    refine ⟨ret_int ?_, by first | exact Bel.al (Bel.al (Below.refl _ _) _) _ | exact Below.drew (Bel.al (Bel.al (Below.refl _ _) _) _) | exact Bel.drN (Bel.al (Bel.al (Below.refl _ _) _) _) _⟩
    simp_all

theorem mode_cases {m : Int} (h : ¬ (m = 1 ∨ m = 2 ∨ m = 3 ∨ m = 4)) : inB m 1 4 = false := decide_eq_false (by omega)

set_option maxHeartbeats 1000000 in
theorem digitsT_any (g : GameD) (t : TierD) (av tv : Value) (w : World) :
    Calls Tryz.prog 94 #[gameVal g av tv, tierVal t] w (IntB (digitsTE g t) w) := by
  obtain ⟨gname, gkind, gprice, gmain, gof, gbonus, gbonusOf, gextra, gdraws, gsystem, gdays, gat, gclose, gcancel, gexpiry, gpool, greserve, ground, gcap, grolls, ga, gt⟩ := g
  obtain ⟨tmain, tbonus, textra, tmode, tkind, tvalue⟩ := t
  unfold gameVal tierVal digitsTE
  simp only []
  by_cases hm : tmode = 1 ∨ tmode = 2 ∨ tmode = 3 ∨ tmode = 4
  · rcases hm with rfl | rfl | rfl | rfl
    · simp only [show inB 1 1 4 = true from rfl, show inB 2 1 4 = true from rfl, show ((1 : Int) ≤ 2) = True by simp, show ((2 : Int) ≤ 2) = True by simp, if_true]
      go_enter Tryz.func94, Tryz.ntmps94
      go_wp2_with (first | (go_at_call 63; refine (within_any _ _ _ _).mono ?_; rintro e w' ⟨rfl, rfl⟩) | fail)
      all_goals
        go_ret
        refine ⟨ret_int ?_, by first | exact Bel.al (Bel.al (Below.refl _ _) _) _ | exact Below.drew (Bel.al (Bel.al (Below.refl _ _) _) _) | exact Bel.drN (Bel.al (Bel.al (Below.refl _ _) _) _) _⟩
        simp_all
    · simp only [show inB 1 1 4 = true from rfl, show inB 2 1 4 = true from rfl, show ((1 : Int) ≤ 2) = True by simp, show ((2 : Int) ≤ 2) = True by simp, if_true]
      go_enter Tryz.func94, Tryz.ntmps94
      go_wp2_with (first | (go_at_call 63; refine (within_any _ _ _ _).mono ?_; rintro e w' ⟨rfl, rfl⟩) | fail)
      all_goals
        go_ret
        refine ⟨ret_int ?_, by first | exact Bel.al (Bel.al (Below.refl _ _) _) _ | exact Below.drew (Bel.al (Bel.al (Below.refl _ _) _) _) | exact Bel.drN (Bel.al (Bel.al (Below.refl _ _) _) _) _⟩
        simp_all
    · simp only [show inB 3 1 4 = true from rfl, show ((3 : Int) ≤ 2) = False by simp, if_false]
      go_enter Tryz.func94, Tryz.ntmps94
      go_wp2_with (first | (go_at_call 63; refine (within_any _ _ _ _).mono ?_; rintro e w' ⟨rfl, rfl⟩) | fail)
      all_goals (try (go_quiet (fail)))
      all_goals (try (go_wp2_with (first | (go_at_call 63; refine (within_any _ _ _ _).mono ?_; rintro e w' ⟨rfl, rfl⟩) | fail)))
      all_goals
        go_ret
        refine ⟨ret_int ?_, by first | exact Bel.al (Bel.al (Below.refl _ _) _) _ | exact Below.drew (Bel.al (Bel.al (Below.refl _ _) _) _) | exact Bel.drN (Bel.al (Bel.al (Below.refl _ _) _) _) _⟩
        simp_all
    · simp only [show inB 4 1 4 = true from rfl, show ((4 : Int) ≤ 2) = False by simp, if_false]
      go_enter Tryz.func94, Tryz.ntmps94
      go_wp2_with (first | (go_at_call 63; refine (within_any _ _ _ _).mono ?_; rintro e w' ⟨rfl, rfl⟩) | fail)
      all_goals (try (go_quiet (fail)))
      all_goals (try (go_wp2_with (first | (go_at_call 63; refine (within_any _ _ _ _).mono ?_; rintro e w' ⟨rfl, rfl⟩) | fail)))
      all_goals
        go_ret
        refine ⟨ret_int ?_, by first | exact Bel.al (Bel.al (Below.refl _ _) _) _ | exact Below.drew (Bel.al (Bel.al (Below.refl _ _) _) _) | exact Bel.drN (Bel.al (Bel.al (Below.refl _ _) _) _) _⟩
        simp_all
  · rw [if_pos (mode_cases hm)]
    simp only [not_or] at hm
    obtain ⟨h1, h2, h3, h4⟩ := hm
    go_enter Tryz.func94, Tryz.ntmps94
    go_wp2_with (first | (go_at_call 63; refine (within_any _ _ _ _).mono ?_; rintro e w' ⟨rfl, rfl⟩) | fail)
    go_ret
    exact ⟨rfl, Bel.al (Bel.al (Below.refl _ _) _) _⟩

set_option maxHeartbeats 1000000 in
theorem effMode_any (g : GameD) (t : TierD) (av tv : Value) (w : World) :
    Calls Tryz.prog 95 #[gameVal g av tv, tierVal t] w (IntB (modeV g t) w) := by
  obtain ⟨gname, gkind, gprice, gmain, gof, gbonus, gbonusOf, gextra, gdraws, gsystem, gdays, gat, gclose, gcancel, gexpiry, gpool, greserve, ground, gcap, grolls, ga, gt⟩ := g
  obtain ⟨tmain, tbonus, textra, tmode, tkind, tvalue⟩ := t
  unfold gameVal tierVal modeV
  simp only []
  go_enter Tryz.func95, Tryz.ntmps95
  go_wp2_with (first | (go_at_call 63; refine (within_any _ _ _ _).mono ?_; rintro e w' ⟨rfl, rfl⟩) | fail)
  all_goals
    go_ret
    refine ⟨ret_int ?_, by first | exact Bel.al (Bel.al (Below.refl _ _) _) _ | exact Below.drew (Bel.al (Bel.al (Below.refl _ _) _) _) | exact Bel.drN (Bel.al (Bel.al (Below.refl _ _) _) _) _⟩
    first | (rw [if_pos (by omega)]; done) | (rw [if_neg (by simp_all; omega)]; done) | (simp_all; done) | skip
end Go.Proofs.YtlppomkpmnpmcaaGreat

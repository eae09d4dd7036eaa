/- rulecheck: badMatrix, badTerms. -/
import Derived.Test.YtlppomkpmnpmcaaGreatRuleSmall
open Go.RowKit
set_option linter.unusedVariables false
set_option linter.unusedSimpArgs false
namespace Go.Proofs.YtlppomkpmnpmcaaGreat

/-- An empty text just if b. -/
def StrE (b : Bool) (w : World) (e : Ending) (w' : World) : Prop := ∃ s : ByteArray, e = .returned (.string s) ∧ (b = true → s = ⟨#[]⟩) ∧ (b = false → s ≠ ⟨#[]⟩) ∧ Below w.heap.size w w'

set_option maxHeartbeats 4000000 in
set_option maxRecDepth 100000 in
theorem badTerms_any (g : GameD) (av tv : Value) (w : World) :
    Calls Tryz.prog 41 #[gameVal g av tv] w (StrE (termB g) w) := by
  obtain ⟨r, hr⟩ : ∃ r, r = termB g := ⟨_, rfl⟩
  rw [← hr]
  obtain ⟨gname, gkind, gprice, gmain, gof, gbonus, gbonusOf, gextra, gdraws, gsystem, gdays, gat, gclose, gcancel, gexpiry, gpool, greserve, ground, gcap, grolls, ga, gt⟩ := g
  unfold gameVal
  unfold termB at hr
  simp only [] at hr ⊢
  replace hr := hide hr
  go_enter Tryz.func41, Tryz.ntmps41
  go_wp2_with (first | (go_at_call 63; refine (within_any _ _ _ _).mono ?_; rintro e w' ⟨rfl, rfl⟩) | fail)
  all_goals
    go_ret
    replace hr := hr.out
    refine ⟨_, rfl, ?_, ?_, Bel.al (Below.refl _ _) _⟩
    all_goals
      intro hq
      simp_all

theorem inB_min (x lo y : Int) : inB x lo (if (14 : Int) ≤ y then 14 else y) = (inB x lo 14 && decide (x ≤ y)) := by
  unfold inB
  split
  · by_cases h : lo ≤ x ∧ x ≤ 14
    · rw [decide_eq_true h, decide_eq_true (show x ≤ y by omega)]; rfl
    · rw [decide_eq_false h]; rfl
  · by_cases h : lo ≤ x ∧ x ≤ y
    · rw [decide_eq_true h, decide_eq_true (show lo ≤ x ∧ x ≤ 14 by omega), decide_eq_true (show x ≤ y by omega)]; rfl
    · rw [decide_eq_false h]
      by_cases h2 : x ≤ y
      · rw [decide_eq_false (show ¬ (lo ≤ x ∧ x ≤ 14) by omega)]; rfl
      · rw [decide_eq_false h2]; simp

set_option maxHeartbeats 4000000 in
set_option maxRecDepth 100000 in
theorem badMatrix_any (g : GameD) (av tv : Value) (w : World) :
    Calls Tryz.prog 40 #[gameVal g av tv] w (StrE (matB g) w) := by
  obtain ⟨r, hr⟩ : ∃ r, r = matB g := ⟨_, rfl⟩
  rw [← hr]
  obtain ⟨gname, gkind, gprice, gmain, gof, gbonus, gbonusOf, gextra, gdraws, gsystem, gdays, gat, gclose, gcancel, gexpiry, gpool, greserve, ground, gcap, grolls, ga, gt⟩ := g
  unfold gameVal
  unfold matB at hr
  simp only [] at hr ⊢
  by_cases hk : gkind = 2
  · subst hk
    by_cases hb : gbonus = 0
    · subst hb
      replace hr := hide hr
      go_enter Tryz.func40, Tryz.ntmps40
      go_wp2_with (first | (go_at_call 63; refine (within_any _ _ _ _).mono ?_; rintro e w' ⟨rfl, rfl⟩) | fail)
      all_goals
        go_ret
        replace hr := hr.out
        refine ⟨_, rfl, ?_, ?_, Bel.al (Below.refl _ _) _⟩
        all_goals
          intro hq
          (simp_all <;> omega)
    · have hbb : (gbonus != 0) = true := by simpa using hb
      rw [if_neg hb] at hr
      replace hb := hide hb
      replace hr := hide hr
      go_enter Tryz.func40, Tryz.ntmps40
      go_wp2_with (first | (go_at_call 63; refine (within_any _ _ _ _).mono ?_; rintro e w' ⟨rfl, rfl⟩) | fail)
      all_goals
        go_ret
        replace hr := hr.out
        refine ⟨_, rfl, ?_, ?_, Bel.al (Below.refl _ _) _⟩
        all_goals
          intro hq
          (simp_all <;> omega)
  · have hkb : (gkind == 2) = false := by simpa using hk
    rw [if_neg hk, if_neg hk, if_neg hk, if_neg hk, ← inB_min] at hr
    replace hk := hide hk
    have h14 : (14 : Int) ≤ gof ∨ gof < 14 := by omega
    by_cases hb : gbonus = 0
    · subst hb
      rcases h14 with h14 | h14
      · rw [if_pos h14] at hr
        replace hr := hide hr
        by_cases hm : inB gmain 1 10 = true
        · by_cases he : inB gextra 0 4 = true
          · have m1 := (inB_iff.1 hm).1
            have m2 := (inB_iff.1 hm).2
            have x1 := (inB_iff.1 he).1
            have x2 := (inB_iff.1 he).2
            go_enter Tryz.func40, Tryz.ntmps40
            go_wp2_with (first | (go_at_call 63; refine (within_any _ _ _ _).mono ?_; rintro e w' ⟨rfl, rfl⟩) | fail)
            all_goals
              go_ret
              replace hr := hr.out
              refine ⟨_, rfl, ?_, ?_, Bel.al (Below.refl _ _) _⟩
              all_goals
                intro hq
                (simp_all <;> omega)
          · replace he : inB gextra 0 4 = false := by simpa using he
            go_enter Tryz.func40, Tryz.ntmps40
            go_wp2_with (first | (go_at_call 63; refine (within_any _ _ _ _).mono ?_; rintro e w' ⟨rfl, rfl⟩) | fail)
            all_goals
              go_ret
              replace hr := hr.out
              refine ⟨_, rfl, ?_, ?_, Bel.al (Below.refl _ _) _⟩
              all_goals
                intro hq
                (simp_all <;> omega)
        · replace hm : inB gmain 1 10 = false := by simpa using hm
          go_enter Tryz.func40, Tryz.ntmps40
          go_wp2_with (first | (go_at_call 63; refine (within_any _ _ _ _).mono ?_; rintro e w' ⟨rfl, rfl⟩) | fail)
          all_goals
            go_ret
            replace hr := hr.out
            refine ⟨_, rfl, ?_, ?_, Bel.al (Below.refl _ _) _⟩
            all_goals
              intro hq
              (simp_all <;> omega)
      · rw [if_neg (show ¬ (14 : Int) ≤ gof by omega)] at hr
        replace hr := hide hr
        by_cases hm : inB gmain 1 10 = true
        · by_cases he : inB gextra 0 4 = true
          · have m1 := (inB_iff.1 hm).1
            have m2 := (inB_iff.1 hm).2
            have x1 := (inB_iff.1 he).1
            have x2 := (inB_iff.1 he).2
            go_enter Tryz.func40, Tryz.ntmps40
            go_wp2_with (first | (go_at_call 63; refine (within_any _ _ _ _).mono ?_; rintro e w' ⟨rfl, rfl⟩) | fail)
            all_goals
              go_ret
              replace hr := hr.out
              refine ⟨_, rfl, ?_, ?_, Bel.al (Below.refl _ _) _⟩
              all_goals
                intro hq
                (simp_all <;> omega)
          · replace he : inB gextra 0 4 = false := by simpa using he
            go_enter Tryz.func40, Tryz.ntmps40
            go_wp2_with (first | (go_at_call 63; refine (within_any _ _ _ _).mono ?_; rintro e w' ⟨rfl, rfl⟩) | fail)
            all_goals
              go_ret
              replace hr := hr.out
              refine ⟨_, rfl, ?_, ?_, Bel.al (Below.refl _ _) _⟩
              all_goals
                intro hq
                (simp_all <;> omega)
        · replace hm : inB gmain 1 10 = false := by simpa using hm
          go_enter Tryz.func40, Tryz.ntmps40
          go_wp2_with (first | (go_at_call 63; refine (within_any _ _ _ _).mono ?_; rintro e w' ⟨rfl, rfl⟩) | fail)
          all_goals
            go_ret
            replace hr := hr.out
            refine ⟨_, rfl, ?_, ?_, Bel.al (Below.refl _ _) _⟩
            all_goals
              intro hq
              (simp_all <;> omega)
    · have hbb : (gbonus != 0) = true := by simpa using hb
      rw [if_neg hb] at hr
      replace hb := hide hb
      rcases h14 with h14 | h14
      · rw [if_pos h14] at hr
        replace hr := hide hr
        by_cases hm : inB gmain 1 10 = true
        · by_cases he : inB gextra 0 4 = true
          · have m1 := (inB_iff.1 hm).1
            have m2 := (inB_iff.1 hm).2
            have x1 := (inB_iff.1 he).1
            have x2 := (inB_iff.1 he).2
            go_enter Tryz.func40, Tryz.ntmps40
            go_wp2_with (first | (go_at_call 63; refine (within_any _ _ _ _).mono ?_; rintro e w' ⟨rfl, rfl⟩) | fail)
            all_goals
              go_ret
              replace hr := hr.out
              refine ⟨_, rfl, ?_, ?_, Bel.al (Below.refl _ _) _⟩
              all_goals
                intro hq
                (simp_all <;> omega)
          · replace he : inB gextra 0 4 = false := by simpa using he
            go_enter Tryz.func40, Tryz.ntmps40
            go_wp2_with (first | (go_at_call 63; refine (within_any _ _ _ _).mono ?_; rintro e w' ⟨rfl, rfl⟩) | fail)
            all_goals
              go_ret
              replace hr := hr.out
              refine ⟨_, rfl, ?_, ?_, Bel.al (Below.refl _ _) _⟩
              all_goals
                intro hq
                (simp_all <;> omega)
        · replace hm : inB gmain 1 10 = false := by simpa using hm
          go_enter Tryz.func40, Tryz.ntmps40
          go_wp2_with (first | (go_at_call 63; refine (within_any _ _ _ _).mono ?_; rintro e w' ⟨rfl, rfl⟩) | fail)
          all_goals
            go_ret
            replace hr := hr.out
            refine ⟨_, rfl, ?_, ?_, Bel.al (Below.refl _ _) _⟩
            all_goals
              intro hq
              (simp_all <;> omega)
      · rw [if_neg (show ¬ (14 : Int) ≤ gof by omega)] at hr
        replace hr := hide hr
        by_cases hm : inB gmain 1 10 = true
        · by_cases he : inB gextra 0 4 = true
          · have m1 := (inB_iff.1 hm).1
            have m2 := (inB_iff.1 hm).2
            have x1 := (inB_iff.1 he).1
            have x2 := (inB_iff.1 he).2
            go_enter Tryz.func40, Tryz.ntmps40
            go_wp2_with (first | (go_at_call 63; refine (within_any _ _ _ _).mono ?_; rintro e w' ⟨rfl, rfl⟩) | fail)
            all_goals
              go_ret
              replace hr := hr.out
              refine ⟨_, rfl, ?_, ?_, Bel.al (Below.refl _ _) _⟩
              all_goals
                intro hq
                (simp_all <;> omega)
          · replace he : inB gextra 0 4 = false := by simpa using he
            go_enter Tryz.func40, Tryz.ntmps40
            go_wp2_with (first | (go_at_call 63; refine (within_any _ _ _ _).mono ?_; rintro e w' ⟨rfl, rfl⟩) | fail)
            all_goals
              go_ret
              replace hr := hr.out
              refine ⟨_, rfl, ?_, ?_, Bel.al (Below.refl _ _) _⟩
              all_goals
                intro hq
                (simp_all <;> omega)
        · replace hm : inB gmain 1 10 = false := by simpa using hm
          go_enter Tryz.func40, Tryz.ntmps40
          go_wp2_with (first | (go_at_call 63; refine (within_any _ _ _ _).mono ?_; rintro e w' ⟨rfl, rfl⟩) | fail)
          all_goals
            go_ret
            replace hr := hr.out
            refine ⟨_, rfl, ?_, ?_, Bel.al (Below.refl _ _) _⟩
            all_goals
              intro hq
              (simp_all <;> omega)
end Go.Proofs.YtlppomkpmnpmcaaGreat

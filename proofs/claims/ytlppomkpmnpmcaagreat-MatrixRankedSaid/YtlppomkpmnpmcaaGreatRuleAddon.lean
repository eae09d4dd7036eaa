/- rulecheck.checkAddon. -/
import Derived.Test.YtlppomkpmnpmcaaGreatRuleSmall
import Derived.Deep.RegionWith
open Go.RowKit
set_option linter.unusedVariables false
set_option linter.unusedSimpArgs false
namespace Go.Proofs.YtlppomkpmnpmcaaGreat

set_option maxHeartbeats 1000000 in
set_option maxRecDepth 100000 in
theorem checkAddon_any (m : AddonM) (w : World) (h : AddonR w m) :
    Calls Tryz.prog 64 #[addonVal m] w (IntB (addonE m.d) w) := by
  obtain ⟨⟨aname, akind, aprice, afactors, adigits, aprizes⟩, fv, pv⟩ := m
  obtain ⟨hf, hp⟩ := h
  simp only [] at hf hp
  obtain ⟨fa, fc, rfl, hfl, hfm, hfr⟩ := Rd.form hf
  obtain ⟨pa, pc, rfl, hpl, hpm, hpr⟩ := Rd.form hp
  obtain ⟨r, hr⟩ : ∃ r, r = addonE ⟨aname, akind, aprice, afactors, adigits, aprizes⟩ := ⟨_, rfl⟩
  simp only []
  rw [← hr]
  unfold addonE at hr
  unfold addonVal
  simp only [] at hr ⊢
  obtain ⟨nm, hnm⟩ : ∃ b, b = nameB aname := ⟨_, rfl⟩
  obtain ⟨cf, hcf⟩ : ∃ c, c = allE afactors 1 100 := ⟨_, rfl⟩
  obtain ⟨cp, hcp⟩ : ∃ c, c = allE aprizes 0 1000000000 := ⟨_, rfl⟩
  rw [← hnm, ← hcf, ← hcp] at hr
  replace hr := hide hr
  replace hnm := hide hnm
  replace hcf := hide hcf
  replace hcp := hide hcp
  clear hf hp
  go_enter Tryz.func64, Tryz.ntmps64
  go_wp2_with (first | (go_at_call 63; refine (within_any _ _ _ _).mono ?_; rintro e w' ⟨rfl, rfl⟩) | (go_at_call 39; refine (name_any _ _).mono ?_; rintro e w' ⟨rfl, rfl⟩; rw [← hnm.out]) | (go_at_call_of 92 fa; refine (checkAll_any _ afactors _ _ _ (hfr.alloc _)).mono ?_; rintro e w' ⟨rfl, rfl⟩; rw [← hcf.out]) | (go_at_call_of 92 pa; refine (checkAll_any _ aprizes _ _ _ (hpr.alloc _)).mono ?_; rintro e w' ⟨rfl, rfl⟩; rw [← hcp.out]) | fail)
  all_goals
    go_ret
    refine ⟨ret_int ?_, Bel.al (Below.refl _ _) _⟩
    replace hr := hr.out
    first | (simp_all <;> omega) | skip
end Go.Proofs.YtlppomkpmnpmcaaGreat

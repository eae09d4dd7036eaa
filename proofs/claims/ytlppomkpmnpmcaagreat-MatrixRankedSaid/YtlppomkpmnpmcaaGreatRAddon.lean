/- lotteryref12.addon. -/
import Derived.Test.YtlppomkpmnpmcaaGreatRuleSmall
import Derived.Deep.LoopGhost
import Derived.Deep.DeepCutAuto
open Go.RowKit
set_option linter.unusedVariables false
set_option linter.unusedSimpArgs false
namespace Go.Proofs.YtlppomkpmnpmcaaGreat

set_option maxHeartbeats 2000000 in
set_option maxRecDepth 100000 in
theorem raddon_any (m : AddonM) (w : World) (h : AddonR w m) :
    Calls Tryz.prog 87 #[addonVal m] w (IntB (addonE m.d) w) := by
  obtain ⟨⟨aname, akind, aprice, afactors, adigits, aprizes⟩, fv, pv⟩ := m
  obtain ⟨hf, hp⟩ := h
  simp only [] at hf hp
  obtain ⟨fa, fc, rfl, hfl, hfm, hfr⟩ := Rd.form hf
  obtain ⟨pa, pc, rfl, hpl, hpm, hpr⟩ := Rd.form hp
  have hfm2 : fc ≤ 9223372036854775807 := by unfold maxLen at hfm; omega
  have hpm2 : pc ≤ 9223372036854775807 := by unfold maxLen at hpm; omega
  obtain ⟨r, hr⟩ : ∃ r, r = addonE ⟨aname, akind, aprice, afactors, adigits, aprizes⟩ := ⟨_, rfl⟩
  simp only []
  rw [← hr]
  unfold addonE at hr
  unfold addonVal
  simp only [] at hr ⊢
  obtain ⟨nm, hnm⟩ : ∃ b, b = nameB aname := ⟨_, rfl⟩
  rw [← hnm] at hr
  replace hnm := hide hnm
  clear hf hp
  by_cases hA : nm = true ∧ akind = 1 ∧ inB aprice 0 1000000 = true ∧ adigits = 0 ∧ aprizes.length = 0 ∧ inB (afactors.length : Int) 1 8 = true
  · obtain ⟨rfl, rfl, h3, rfl, h5, h6⟩ := hA
    have hr2 : r = allE afactors 1 100 := by rw [hr]; simp [h3, h5, h6]
    replace hr2 := hide hr2
    have h5' : (aprizes.length : Int) ≤ 0 := by omega
    clear hr h5
    go_enter Tryz.func87, Tryz.ntmps87
    go_upto_region 1 with (fail)
    obtain ⟨W, hW⟩ : ∃ W, W = (w.alloc (Obj.cells #[.string aname, .int .i64 1, .int .i64 aprice, (.slice fa afactors.length fc), .int .i64 0, (.slice pa aprizes.length pc)] 92)) := ⟨_, rfl⟩
    have bW : Below w.heap.size w W := by rw [hW]; exact Bel.al (Below.refl _ _) _
    have r0 : Row W (w.heap.size) 92 [.string aname, .int .i64 1, .int .i64 aprice, (.slice fa afactors.length fc), .int .i64 0, (.slice pa aprizes.length pc)] := by rw [hW]; exact Row.new _ _ _
    have c0_0 : W.cell? ⟨w.heap.size, 0, none⟩ = some (.string aname) := Row.cell r0 (i := 0) (by simp)
    have c0_1 : W.cell? ⟨w.heap.size, 1, none⟩ = some (.int .i64 1) := Row.cell r0 (i := 1) (by simp)
    have c0_2 : W.cell? ⟨w.heap.size, 2, none⟩ = some (.int .i64 aprice) := Row.cell r0 (i := 2) (by simp)
    have c0_3 : W.cell? ⟨w.heap.size, 3, none⟩ = some ((.slice fa afactors.length fc)) := Row.cell r0 (i := 3) (by simp)
    have c0_4 : W.cell? ⟨w.heap.size, 4, none⟩ = some (.int .i64 0) := Row.cell r0 (i := 4) (by simp)
    have c0_5 : W.cell? ⟨w.heap.size, 5, none⟩ = some ((.slice pa aprizes.length pc)) := Row.cell r0 (i := 5) (by simp)
    have sW : w.heap.size < W.heap.size := by rw [hW]; simp
    rw [← hW]
    clear hW
    replace hfr := hfr.below bW
    clear hpr r0
    go_wp2_with (first | (go_at_call 55; refine (rin_any _ _ _ _).mono ?_; rintro e w' ⟨rfl, rfl⟩) | (go_at_call 53; refine (rname_any _ _).mono ?_; rintro e w' ⟨rfl, rfl⟩; rw [← hnm.out]) | fail)
    go_loopg [3] afactors.length (fun g t wr => ∃ (i : Nat), g = afactors.length - i ∧ i ≤ afactors.length ∧ t = .int .i64 i ∧ W = wr ∧ ∀ k (hk : k < afactors.length), k < i → inB afactors[k] 1 100 = true)
    case atStart => exact ⟨0, rfl, Nat.zero_le _, rfl, rfl, fun k hk hki => absurd hki (Nat.not_lt_zero _)⟩
    case round =>
      obtain ⟨i, hg, hi', rfl, rfl, hall⟩ := hrel
      replace hg := hide hg
      replace hall := hide hall
      by_cases hlt : i < afactors.length
      · have hlt2 := hide hlt
        obtain ⟨b, off, rfl, hbb, hcell⟩ := hfr.at_ hlt
        obtain ⟨x, hx, c1⟩ : ∃ x, x = afactors[i] ∧ W.cell? ⟨b, off + i, none⟩ = some (.int .i64 x) := ⟨_, rfl, hcell _ hlt⟩
        clear hcell
        have i1 : (0 : Int) ≤ (i : Int) := by omega
        have i2 : (i : Int) < (afactors.length : Int) := by omega
        by_cases hin : inB afactors[i] 1 100 = true
        · have hnext : ∀ k (hk : k < afactors.length), k < i + 1 → inB afactors[k] 1 100 = true := by
            intro k hk hki
            rcases Nat.lt_succ_iff_lt_or_eq.1 hki with h | rfl
            · exact hall.out k hk h
            · exact hin
          replace hnext := hide hnext
          rw [← hx] at hin
          replace hx := hide hx
          go_wp2_with fail
          refine (rin_any _ _ _ _).mono ?_
          rintro e w' ⟨rfl, rfl⟩
          rw [hin]
          go_wp2
          go_roundg (afactors.length - (i + 1))
          case measure => have := hg.out; omega
          case rel => exact ⟨i + 1, rfl, by have := hlt2.out; omega, by go_num, rfl, hnext.out⟩
        · have hin' : inB afactors[i] 1 100 = false := by simpa using hin
          have hq := hide (allE_at hlt hin')
          rw [← hx] at hin'
          clear hin
          replace hx := hide hx
          go_wp2_with fail
          refine (rin_any _ _ _ _).mono ?_
          rintro e w' ⟨rfl, rfl⟩
          rw [hin']
          go_wp2
          go_ret
          rw [hr2.out, hq.out]
          exact ⟨rfl, bW⟩
      · have hq := hide (allE_yes (lo := 1) (hi := 100) (fun k hk => hall.out k hk (by omega)))
        go_wp2
        go_ret
        rw [hr2.out, hq.out]
        exact ⟨rfl, bW⟩
  · by_cases hB : nm = true ∧ akind = 2 ∧ inB aprice 0 1000000 = true ∧ afactors.length = 0 ∧ inB adigits 1 8 = true ∧ (aprizes.length : Int) = adigits
    · obtain ⟨rfl, rfl, h3, h4, h5, h6⟩ := hB
      have hr2 : r = allE aprizes 0 1000000000 := by rw [hr]; simp [h3, h4, h5, h6]
      replace hr2 := hide hr2
      have h4' : (afactors.length : Int) ≤ 0 := by omega
      clear hr hA h4
      have h7 : ((aprizes.length : Int) != adigits) = false := by simp [h6]
      replace h6 := hide h6
      go_enter Tryz.func87, Tryz.ntmps87
      go_upto_region 1 with (fail)
      obtain ⟨W, hW⟩ : ∃ W, W = (w.alloc (Obj.cells #[.string aname, .int .i64 2, .int .i64 aprice, (.slice fa afactors.length fc), .int .i64 adigits, (.slice pa aprizes.length pc)] 92)) := ⟨_, rfl⟩
      have bW : Below w.heap.size w W := by rw [hW]; exact Bel.al (Below.refl _ _) _
      have r0 : Row W (w.heap.size) 92 [.string aname, .int .i64 2, .int .i64 aprice, (.slice fa afactors.length fc), .int .i64 adigits, (.slice pa aprizes.length pc)] := by rw [hW]; exact Row.new _ _ _
      have c0_0 : W.cell? ⟨w.heap.size, 0, none⟩ = some (.string aname) := Row.cell r0 (i := 0) (by simp)
      have c0_1 : W.cell? ⟨w.heap.size, 1, none⟩ = some (.int .i64 2) := Row.cell r0 (i := 1) (by simp)
      have c0_2 : W.cell? ⟨w.heap.size, 2, none⟩ = some (.int .i64 aprice) := Row.cell r0 (i := 2) (by simp)
      have c0_3 : W.cell? ⟨w.heap.size, 3, none⟩ = some ((.slice fa afactors.length fc)) := Row.cell r0 (i := 3) (by simp)
      have c0_4 : W.cell? ⟨w.heap.size, 4, none⟩ = some (.int .i64 adigits) := Row.cell r0 (i := 4) (by simp)
      have c0_5 : W.cell? ⟨w.heap.size, 5, none⟩ = some ((.slice pa aprizes.length pc)) := Row.cell r0 (i := 5) (by simp)
      have sW : w.heap.size < W.heap.size := by rw [hW]; simp
      rw [← hW]
      clear hW
      replace hpr := hpr.below bW
      clear hfr r0
      go_wp2_with (first | (go_at_call 55; refine (rin_any _ _ _ _).mono ?_; rintro e w' ⟨rfl, rfl⟩) | (go_at_call 53; refine (rname_any _ _).mono ?_; rintro e w' ⟨rfl, rfl⟩; rw [← hnm.out]) | fail)
      go_loopg [4] aprizes.length (fun g t wr => ∃ (i : Nat), g = aprizes.length - i ∧ i ≤ aprizes.length ∧ t = .int .i64 i ∧ W = wr ∧ ∀ k (hk : k < aprizes.length), k < i → inB aprizes[k] 0 1000000000 = true)
      case atStart => exact ⟨0, rfl, Nat.zero_le _, rfl, rfl, fun k hk hki => absurd hki (Nat.not_lt_zero _)⟩
      case round =>
        obtain ⟨i, hg, hi', rfl, rfl, hall⟩ := hrel
        replace hg := hide hg
        replace hall := hide hall
        by_cases hlt : i < aprizes.length
        · have hlt2 := hide hlt
          obtain ⟨b, off, rfl, hbb, hcell⟩ := hpr.at_ hlt
          obtain ⟨x, hx, c1⟩ : ∃ x, x = aprizes[i] ∧ W.cell? ⟨b, off + i, none⟩ = some (.int .i64 x) := ⟨_, rfl, hcell _ hlt⟩
          clear hcell
          have i1 : (0 : Int) ≤ (i : Int) := by omega
          have i2 : (i : Int) < (aprizes.length : Int) := by omega
          by_cases hin : inB aprizes[i] 0 1000000000 = true
          · have hnext : ∀ k (hk : k < aprizes.length), k < i + 1 → inB aprizes[k] 0 1000000000 = true := by
              intro k hk hki
              rcases Nat.lt_succ_iff_lt_or_eq.1 hki with h | rfl
              · exact hall.out k hk h
              · exact hin
            replace hnext := hide hnext
            rw [← hx] at hin
            replace hx := hide hx
            go_wp2_with fail
            refine (rin_any _ _ _ _).mono ?_
            rintro e w' ⟨rfl, rfl⟩
            rw [hin]
            go_wp2
            go_roundg (aprizes.length - (i + 1))
            case measure => have := hg.out; omega
            case rel => exact ⟨i + 1, rfl, by have := hlt2.out; omega, by go_num, rfl, hnext.out⟩
          · have hin' : inB aprizes[i] 0 1000000000 = false := by simpa using hin
            have hq := hide (allE_at hlt hin')
            rw [← hx] at hin'
            clear hin
            replace hx := hide hx
            go_wp2_with fail
            refine (rin_any _ _ _ _).mono ?_
            rintro e w' ⟨rfl, rfl⟩
            rw [hin']
            go_wp2
            go_ret
            rw [hr2.out, hq.out]
            exact ⟨rfl, bW⟩
        · have hq := hide (allE_yes (lo := 0) (hi := 1000000000) (fun k hk => hall.out k hk (by omega)))
          go_wp2
          go_ret
          rw [hr2.out, hq.out]
          exact ⟨rfl, bW⟩
    · have hC := hide (And.intro hA hB)
      replace hr := hide hr
      clear hA hB hfr hpr
      go_enter Tryz.func87, Tryz.ntmps87
      go_wp2_with (first | (go_at_call 55; refine (rin_any _ _ _ _).mono ?_; rintro e w' ⟨rfl, rfl⟩) | (go_at_call 53; refine (rname_any _ _).mono ?_; rintro e w' ⟨rfl, rfl⟩; rw [← hnm.out]) | fail)
      all_goals
        first
        | (go_ret; refine ⟨ret_int ?_, Bel.al (Below.refl _ _) _⟩; rw [hr.out]; (simp_all <;> omega))
        | (exfalso; have hc := hC.out; simp_all; done)
        | (exfalso; have hc := hC.out; simp_all; omega)
        | trace_state
end Go.Proofs.YtlppomkpmnpmcaaGreat

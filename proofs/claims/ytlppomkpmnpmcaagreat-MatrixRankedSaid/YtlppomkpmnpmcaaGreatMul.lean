/- nat.Mul at two numbers in form. -/
import Derived.Test.YtlppomkpmnpmcaaGreatTrim
import Derived.Test.YtlppomkpmnpmcaaGreatMake
import Derived.Test.YtlppomkpmnpmcaaGreatMulLaw
set_option linter.unusedVariables false
set_option linter.unusedSimpArgs false
namespace Go.Proofs.YtlppomkpmnpmcaaGreat
open Go.RowKit

theorem infoU32 : (Tryz.prog.info? 105).map (fun i => (i.zero, i.size, i.bytes)) = some (some (.int .u32 0), 1, 4) := by kernel_rfl

set_option maxHeartbeats 1000000 in
set_option maxRecDepth 100000 in
theorem mul_core (va vb : Value) (la lb : List Nat) (m n : Nat) (w : World) (hA : Hid (la = limbs m)) (hB : Hid (lb = limbs n)) (ha : Rd U32 w va la) (hb : Rd U32 w vb lb) (hm : la.length ≤ 64) (hn : lb.length ≤ 64) :
    Calls Tryz.prog 50 #[.agg #[va], .agg #[vb]] w (Nat2 (m * n) w) := by
  obtain ⟨aa, ca, rfl, hla, hca, hra⟩ := Rd.form ha
  obtain ⟨ab, cb, rfl, hlb, hcb, hrb⟩ := Rd.form hb
  have hsa : Small la := by rw [hA.out]; exact small_limbs m
  have hsb : Small lb := by rw [hB.out]; exact small_limbs n
  have hva := hide (show val la * val lb = m * n by rw [hA.out, hB.out, val_limbs, val_limbs])
  go_enter Tryz.func50, Tryz.ntmps50
  go_wp2_with fail
  refine (valid _ m _ (by show Rd _ _ _ _; rw [← hA.out]; exact ((ha.alloc _).alloc _).alloc _) (by rw [← hA.out]; exact hm)).mono ?_
  rintro e w1 ⟨rfl, hb1⟩
  have hz1 : w.heap.size + 2 < w1.heap.size := by have := hb1.size; simp at this; omega
  have hbw1 := Bel.three _ _ _ hb1
  have c10 : w1.cell? ⟨w.heap.size, 0, none⟩ = some (.slice aa la.length ca) := Bel.cellOf hb1 (by go_simp)
  have c11 : w1.cell? ⟨w.heap.size + 1, 0, none⟩ = some (.slice ab lb.length cb) := Bel.cellOf hb1 (by go_simp)
  have c12 : w1.cell? ⟨w.heap.size + 1 + 1, 0, none⟩ = some (.slice none 0 0) := Bel.cellOf hb1 (by go_simp)
  have f12 : w1.frozen? ⟨w.heap.size + 1 + 1, 0, none⟩ = false := Bel.frozenOf hb1 (v := .slice none 0 0) (by go_simp) (by go_simp)
  clear hb1
  go_wp2_with fail
  refine (valid _ n _ (by show Rd _ _ _ _; rw [← hB.out]; exact hb.below hbw1) (by rw [← hB.out]; exact hn)).mono ?_
  rintro e w2 ⟨rfl, hb2⟩
  have hz2 : w.heap.size + 2 < w2.heap.size := by have := hb2.size; omega
  have hbw2 := Bel.to hbw1 hb2
  have c20 := Bel.cellOf hb2 c10
  have c21 := Bel.cellOf hb2 c11
  have c22 := Bel.cellOf hb2 c12
  have f22 := Bel.frozenOf hb2 c12 f12
  clear hb2 c10 c11 c12 f12 hbw1 hz1
  go_wp2_with (with_reducible refine wpList_make_row _ rfl _ _ 58 rfl 105 (.int .u32 0) 4 Tryz.underlying58 infoU32 rfl .i64 .i64 _ _ (la.length + lb.length) (la.length + lb.length) rfl rfl (by omega) (by omega) (Nat.le_refl _) (by omega) (by omega) ?_; intro w3 hrow hb3 hz3; have c30 := Bel.cellOf hb3 c20; have c31 := Bel.cellOf hb3 c21)
  have hbw3 := Bel.to hbw2 hb3
  have c32 := Bel.cellOf hb3 c22
  have f32 := Bel.frozenOf hb3 c22 f22
  obtain ⟨g, hg⟩ : ∃ g, g = w2.heap.size := ⟨_, rfl⟩
  rw [← hg] at hrow hz3 ⊢
  have hg2 : w.heap.size + 2 < g := by omega
  clear hb3 c20 c21 c22 f22 hbw2 hz2 ha hb
  clear hg
  go_loopw [33] (fun i wr => ∃ (k : Nat) (P : List Nat), k ≤ la.length ∧ i = .int .i64 k ∧ Row wr g 105 (P.map U32) ∧ Hid (P.length = la.length + lb.length) ∧ Small P ∧ Hid (val P = val (la.take k) * val lb) ∧
      Hid (∀ q (hq : q < P.length), k + lb.length ≤ q → P[q] = 0) ∧ w3.grownBy wr (some g)) (fun i _ => la.length - (intOf i).toNat)
  case atStart =>
    refine ⟨0, List.replicate (la.length + lb.length) 0, Nat.zero_le _, rfl, by rw [List.map_replicate]; exact hrow, by show _ = _; simp, small_zeros _, ?_, ?_, Gb.refl _ _⟩
    · show _ = _; rw [val_zeros]; simp [val]
    · show ∀ q hq, _; intro q hq _; simp
  case round =>
    obtain ⟨k, P, hk, rfl, hP, hPl, hPs, hPv, hPz, hgb⟩ := hrel
    have d0 := Gb.cellOf hgb c30 (by omega)
    have d1 := Gb.cellOf hgb c31 (by omega)
    by_cases hkl : k < la.length
    · obtain ⟨ba, offa, rfl, hba, hcella⟩ := hra.at_ hkl
      have e1 := Gb.cellOf hgb (Bel.cellOf hbw3 (hcella k hkl)) (by omega)
      have hx := small_get hsa hkl
      have hbnd : k + lb.length + 1 ≤ la.length + lb.length := by omega
      clear hcella
      go_wp2
      obtain ⟨wo, rfl⟩ : ∃ wo : World, wo = wr := ⟨_, rfl⟩
      go_loopw [10, 56] (fun c j wr => ∃ (q cc : Nat) (P' : List Nat), q ≤ lb.length ∧ cc < 4294967296 ∧ c = .int .u64 cc ∧ j = .int .i64 q ∧ Row wr g 105 (P'.map U32) ∧ Hid (P'.length = la.length + lb.length) ∧ Small P' ∧
          Hid (val P' + cc * 4294967296 ^ (k + q) = val (la.take k) * val lb + 4294967296 ^ k * (la[k] * val (lb.take q))) ∧
          Hid (∀ i (hq : i < P'.length), k + lb.length ≤ i → P'[i] = 0) ∧ w3.grownBy wr (some g)) (fun _ j _ => lb.length - (intOf j).toNat)
      case atStart =>
        refine ⟨0, 0, P, Nat.zero_le _, by omega, rfl, rfl, hP, hPl, hPs, ?_, hPz, hgb⟩
        show _ = _
        rw [hPv.out]; simp [val]
      case round =>
        obtain ⟨q, cc, P', hq, hcc, rfl, rfl, hP', hPl', hPs', hPv', hPz', hgb'⟩ := hrel
        have d0 := Gb.cellOf hgb' c30 (by omega)
        have d1 := Gb.cellOf hgb' c31 (by omega)
        have hPlo := hPl'.out
        by_cases hql : q < lb.length
        · obtain ⟨bb, offb, rfl, hbb, hcellb⟩ := hrb.at_ hql
          have e2 := Gb.cellOf hgb' (Bel.cellOf hbw3 (hcellb q hql)) (by omega)
          have hy := small_get hsb hql
          have hkq : k + q < P'.length := by omega
          have e3 := hP'.cellV hkq
          have e4 := hP'.frozen (k + q)
          have hp := small_get hPs' hkq
          have hxy := mul_bd hx hy
          obtain ⟨hxy0, hxy1⟩ := hxy
          clear hcellb hPlo
          go_wp2
          go_roundw
          case rel =>
            have et : (↑cc + (↑la[k] * ↑lb[q] + ↑P'[k + q]) : Int) = ((cc + (la[k] * lb[q] + P'[k + q]) : Nat) : Int) := by rw [Int.natCast_add, Int.natCast_add, Int.natCast_mul]
            have hst := mul_step hql hkq hPv'.out rfl
            have ht : cc + (la[k] * lb[q] + P'[k + q]) < 18446744073709551616 := by have := mul_lt hx hy; omega
            rw [et]
            clear et hxy0 hxy1
            generalize cc + (la[k] * lb[q] + P'[k + q]) = t at *
            refine ⟨q + 1, t / 4294967296, P'.set (k + q) (t % 4294967296), by omega, by omega, by go_num, by go_num, ?_, ?_, small_set hPs' _ (by omega), hst, ?_, Gb.set hgb' (.inl rfl) _⟩
            · rw [← u32_mod]
              exact hP'.setV (k + q) (t % 4294967296)
            · show _ = _; rw [List.length_set]; exact hPl'.out
            · show ∀ i hq, _
              intro i hi hki
              rw [List.getElem_set_ne (by omega)]
              exact hPz'.out i (by simpa using hi) hki
          case measure => simp [intOf]; omega
        · have eq1 : q = lb.length := by omega
          subst eq1
          have hkq : k + lb.length < P'.length := by omega
          have e3 := hP'.cellV hkq
          have e4 := hP'.frozen (k + lb.length)
          clear hPlo
          go_wp2
          go_roundw
          case rel =>
            have hz := hPz'.out (k + lb.length) hkq (Nat.le_refl _)
            refine ⟨k + 1, P'.set (k + lb.length) cc, by omega, by go_num, ?_, ?_, small_set hPs' _ hcc, mul_row hkl hkq hz hPv'.out, ?_, Gb.set hgb' (.inl rfl) _⟩
            · exact hP'.setV (k + lb.length) cc
            · show _ = _; rw [List.length_set]; exact hPl'.out
            · show ∀ i hq, _
              intro i hi hki
              rw [List.getElem_set_ne (by omega)]
              exact hPz'.out i (by simpa using hi) (by omega)
          case measure => simp [intOf]; omega
    · have ek : k = la.length := by omega
      subst ek
      have hfin : val P = m * n := by rw [hPv.out, List.take_length]; exact hva.out
      have hPlo := hPl.out
      have hrd := hP.rdAll (n := la.length + lb.length) (c := la.length + lb.length) hPlo.symm (Nat.le_refl _) (by omega)
      have c42 := Gb.cellOf hgb c32 (by omega)
      have f42 := (Gb.frozenOf hgb (b := w.heap.size + 1 + 1) (o := 0) (by omega) (by omega)).trans f32
      replace hfin := hide hfin
      clear hPlo
      go_wp2_with fail
      refine (bounded _ P _ (by exact hrd) hPs).mono ?_
      rintro e w5 ⟨u, c, rfl, hc, hu, hb5⟩
      rw [hfin.out] at hc hu
      have c52 := Bel.cellOf hb5 c42
      have f52 := Bel.frozenOf hb5 c42 f42
      have hu' := hu.setNe c52 (fun _ h => by cases h) u
      have hbel := Bel.st (Bel.to (Gb.bel hbw3 hgb (by omega)) hb5) (p := ⟨w.heap.size + 1 + 1, 0, none⟩) (by simp only []; omega) u
      obtain ⟨ao, n0, cp, rfl⟩ := Rd.shape hu
      go_wp2
      refine bodyPost_ret (v := .tuple #[.agg #[.slice ao n0 cp], .int .i64 c]) (by simp [results, Tryz.results50, go_sem, c52]) rfl ⟨_, c, rfl, hc, hu', hbel⟩
end Go.Proofs.YtlppomkpmnpmcaaGreat

/- comb.Choose within range. -/
import Derived.Test.YtlppomkpmnpmcaaGreatChoose
import Derived.Deep.DeepCutAuto
import Derived.Deep.LoopGhost
open Go.RowKit
set_option linter.unusedVariables false
set_option linter.unusedSimpArgs false
namespace Go.Proofs.YtlppomkpmnpmcaaGreat

/-- The state of the loop: the two cells, and the number. -/
structure ChSt (W w : World) (b6 : Nat) (vc : Value) (c : Nat) : Prop where
  bel : Below W.heap.size W w
  lt : W.heap.size < b6
  c4 : w.cell? ⟨W.heap.size, 0, none⟩ = some (.slice none 0 0)
  f4 : w.frozen? ⟨W.heap.size, 0, none⟩ = false
  c6 : w.cell? ⟨b6, 0, none⟩ = some vc
  f6 : w.frozen? ⟨b6, 0, none⟩ = false
  nv : NV w vc c

theorem ChSt.keep {W w w' : World} {b6 : Nat} {vc : Value} {c : Nat} (h : ChSt W w b6 vc c) (hb : Below w.heap.size w w') : ChSt W w' b6 vc c :=
  ⟨Bel.to h.bel hb, h.lt, Bel.cellOf hb h.c4, Bel.frozenOf hb h.c4 h.f4, Bel.cellOf hb h.c6, Bel.frozenOf hb h.c6 h.f6, h.nv.below hb⟩

theorem ChSt.set {W w : World} {b6 pb : Nat} {vc : Value} {c : Nat} (h : ChSt W w b6 vc c) (hb : b6 < pb) (hc : w.cell? ⟨pb, 0, none⟩ = some (.slice none 0 0)) (u : Value) : ChSt W (w.setCell ⟨pb, 0, none⟩ u) b6 vc c := by
  have hl := h.lt
  refine ⟨Bel.st h.bel (by simp only []; omega) u, h.lt, cell_far h.c4 (by simp only []; omega) u, ?_, cell_far h.c6 (by simp only []; omega) u, ?_, h.nv.setNe hc (fun _ h => by cases h) u⟩
  · rw [World.frozen?_of_block (w := w) (Below.heap_setCell _ _ _ _ (by simp only []; omega))]; exact h.f4
  · rw [World.frozen?_of_block (w := w) (Below.heap_setCell _ _ _ _ (by simp only []; omega))]; exact h.f6

theorem ChSt.put {W w : World} {b6 : Nat} {ao : Option Addr} {n cap : Nat} {c c' : Nat} (h : ChSt W w b6 (.slice ao n cap) c) {u : Value} (hu : NV w u c') : ChSt W (w.setCell ⟨b6, 0, none⟩ u) b6 u c' := by
  have hl := h.lt
  refine ⟨Bel.st h.bel (by simp only []; omega) u, h.lt, cell_far h.c4 (by simp only []; omega) u, ?_, set_cell h.c6 u, ?_, hu.setNe h.c6 (fun _ h => by cases h) u⟩
  · rw [World.frozen?_of_block (w := w) (Below.heap_setCell _ _ _ _ (by simp only []; omega))]; exact h.f4
  · rw [World.frozen?_setCell]; exact h.f6

set_option maxHeartbeats 1000000 in
set_option maxRecDepth 100000 in
theorem choose_in (n k : Nat) (w : World) (hn : n ≤ 80) (hk : k ≤ n) : Calls Tryz.prog 31 #[.int .i64 (n : Int), .int .i64 (k : Int)] w (NatC (choose n k) 0 w) := by
  have hd : decide ((0 : Int) ≤ (n : Int) ∧ (n : Int) ≤ 80) = true := decide_eq_true (by omega)
  go_enter Tryz.func31, Tryz.ntmps31
  go_wp2_with fail
  refine (known_any _ _).mono ?_
  rintro e w' ⟨rfl, rfl⟩
  rw [hd]
  clear hd
  go_wp2_with fail
  refine (of_int _ _ (by omega) (by omega)).mono ?_
  rintro e w1 ⟨u, rfl, hu, hb⟩
  have c1 : w1.cell? ⟨w.heap.size, 0, none⟩ = some (.slice none 0 0) := Bel.cellOf hb (by go_simp)
  have f1 : w1.frozen? ⟨w.heap.size, 0, none⟩ = false := Bel.frozenOf hb (v := .slice none 0 0) (by go_simp) (by go_simp)
  have hb1 := Bel.one _ hb
  have hz : w.heap.size < w1.heap.size := by have := hb.size; simp at this; omega
  clear hb
  obtain ⟨ao, n0, cp, rfl⟩ := Rd.shape hu
  go_wp2
  obtain ⟨b6, hb6⟩ : ∃ b6, b6 = w1.heap.size := ⟨_, rfl⟩
  have hst : ChSt w (w1.alloc (.cells #[.slice ao n0 cp] 60)) b6 (.slice ao n0 cp) (choose (n - k + 1 - 1) (1 - 1)) := by
    subst hb6
    refine ⟨Bel.al hb1 _, hz, by go_simp, by go_simp, by go_simp, by go_simp, ?_⟩
    rw [Nat.sub_self, choose_zero]
    exact hu.alloc _
  rw [← hb6]
  clear hu hb6
  have hk' : (k : Int) ≤ (n : Int) := by omega
  go_loopg [7] k (fun g t wr => ∃ (i : Nat) (ao : Option Addr) (n0 cp : Nat), g = k + 1 - i ∧ 1 ≤ i ∧ i ≤ k + 1 ∧ t = .int .i64 i ∧ ChSt w wr b6 (.slice ao n0 cp) (choose (n - k + i - 1) (i - 1)))
  case atStart => exact ⟨1, _, _, _, by omega, Nat.le_refl _, by omega, rfl, hst⟩
  case round =>
    obtain ⟨i, ao, n0, cp, hgk, hi1, hik, rfl, hst⟩ := hrel
    replace hgk := hide hgk
    have c6 := hst.c6
    have hb6 : b6 < wr.heap.size := World.block_lt_of_cell? wr ⟨b6, 0, none⟩ c6
    have hbig : choose (n - k + i - 1) (i - 1) ≤ 1208925819614629174706176 := choose_lt_80 (by omega)
    by_cases hik' : i ≤ k
    · have hne : n - k + i - 1 + 1 = n - k + i := by omega
      have hprod : choose (n - k + i - 1) (i - 1) * (n - k + i) = choose (n - k + i) i * i := by
        have := choose_mul (n - k + i - 1) (i - 1)
        rw [hne, Nat.sub_add_cancel hi1] at this
        exact this.symm
      have hlim1 : (limbs (choose (n - k + i - 1) (i - 1))).length ≤ 64 := by have := limbs_le_three (n := choose (n - k + i - 1) (i - 1)) (by omega); omega
      have hlim2 : (limbs (n - k + i)).length ≤ 64 := by have := limbs_le_three (n := n - k + i) (by omega); omega
      have hpb : choose (n - k + i - 1) (i - 1) * (n - k + i) ≤ 1208925819614629174706176 * 80 := Nat.mul_le_mul hbig (by omega)
      have hlim3 : (limbs (choose (n - k + i) i * i)).length ≤ 64 := by rw [← hprod]; have := limbs_le_three (n := choose (n - k + i - 1) (i - 1) * (n - k + i)) (by omega); omega
      replace hprod := hide hprod
      replace hne := hide hne
      obtain ⟨c, hc⟩ : ∃ c, c = choose (n - k + i - 1) (i - 1) := ⟨_, rfl⟩
      rw [← hc] at hst hprod hlim1 hbig hpb
      replace hc := hide hc
      have hcz := choose_pos (n := n - k + i) (k := i) (by omega)
      clear hbig hpb
      have hni : ((n : Int) - k + i).toNat = n - k + i := by omega
      replace hni := hide hni
      have a1 : IntKind.i64.wrap ((n : Int) - k) = (n : Int) - k := IntWalk.i64_in _ (by omega)
      have a2 : IntKind.i64.wrap ((n : Int) - k + i) = (n : Int) - k + i := IntWalk.i64_in _ (by omega)
      have a3 : IntKind.u64.wrap ((n : Int) - k + i) = (n : Int) - k + i := IntWalk.u64_in _ (by omega)
      go_upto_region 9 with (fail)
      go_cut [8, 9] (fun p cd W => ∃ (pb : Nat) (ap : Option Addr) (np cpp : Nat), p = .pointer (some ⟨pb, 0, none⟩) ∧ cd = .int .i64 0 ∧ ChSt w W b6 (.slice ao n0 cp) c ∧ W.cell? ⟨pb, 0, none⟩ = some (.slice ap np cpp) ∧ NV W (.slice ap np cpp) (choose (n - k + i) i * i) ∧ b6 < pb)
      case first =>
        go_region_held3 (fun W => W.cell? ⟨b6, 0, none⟩ = some (.slice ao n0 cp)) (first | go_keep | (refine cell_far c63 ?_ _; simp only []; omega)) (first
          | (go_at_call 49; refine (of_int _ _ ?_ ?_).mono ?_; (omega); (omega); rintro e w2 ⟨uo, rfl, huo, hbo⟩; obtain ⟨hc2, hf2⟩ := bcell hbo; have hz2 := hbo.size; (try simp at hz2); have hn2 : NV w2 (.slice ao n0 cp) c := (by first | exact Rd.below (Rd.drew hst.nv) hbo | exact Rd.below (Rd.alloc (Rd.drew hst.nv) _) hbo); have c62 : w2.cell? ⟨b6, 0, none⟩ = some (.slice ao n0 cp) := (by first | exact Bel.cellOf hbo c6 | exact Bel.cellOf hbo (cell_alloc c6 _)); (try have c8o : w2.cell? ⟨wr.heap.size, 0, none⟩ = some (.slice none 0 0) := Bel.cellOf hbo (new_cell wr _ _)); (try have f8o : w2.frozen? ⟨wr.heap.size, 0, none⟩ = false := Bel.frozenOf hbo (new_cell wr _ _) (new_frozen wr _ _)))
          | (go_at_call 50; refine (mul_any _ _ c (n - k + i) _ ?_ ?_ ?_ ?_).mono ?_; (first | exact hn2 | exact hn2.alloc _); (rw [← hni.out]; first | exact huo | exact huo.alloc _); (exact hlim1); (exact hlim2); rintro e w3 ⟨u3, cd3, rfl, hcd3, hu3, hb3⟩; obtain ⟨hc3, hf3⟩ := bcell hb3; have hz3 := hb3.size; (try simp at hz3); have c63 : w3.cell? ⟨b6, 0, none⟩ = some (.slice ao n0 cp) := (by first | exact Bel.cellOf hb3 c62 | exact Bel.cellOf hb3 (cell_alloc c62 _)); (try have f8m := Bel.frozenOf hb3 c8o f8o); (try have c8m := Bel.cellOf hb3 c8o);  (try have c8m : w3.cell? ⟨w2.heap.size, 0, none⟩ = some (.slice none 0 0) := Bel.cellOf hb3 (new_cell w2 _ _)); (try have f8m : w3.frozen? ⟨w2.heap.size, 0, none⟩ = false := Bel.frozenOf hb3 (new_cell w2 _ _) (new_frozen w2 _ _)); obtain ⟨ao3, n3, cp3, rfl⟩ := Rd.shape hu3))
        all_goals go_wp2_with fail
        all_goals
          go_meet
          have e0 : cd3 = 0 := by rw [hcd3.out, hprod.out, if_pos hlim3]
          rw [hprod.out, if_pos hlim3] at hu3
          rw [e0]
          have hst1 : ChSt w wr.drew b6 (.slice ao n0 cp) c := hst.keep (Below.refl _ _).drew
          first
            | exact ⟨w3.heap.size, _, _, _, rfl, rfl, ((hst1.keep hbo).keep hb3).keep (Bel.al (Below.refl _ _) _), new_cell _ _ _, hu3.alloc _, by omega⟩
            | exact ⟨w2.heap.size, _, _, _, rfl, rfl, ((((hst1.keep hbo)).keep (Bel.al (Below.refl _ _) _)).keep hb3).set (by omega) c8m _, set_cell c8m _, hu3.setNe c8m (fun _ h => by cases h) _, by omega⟩
            | exact ⟨wr.heap.size, _, _, _, rfl, rfl, (((hst1.keep (Bel.al (Below.refl _ _) _)).keep hbo).keep hb3).set (by omega) c8m _, set_cell c8m _, hu3.setNe c8m (fun _ h => by cases h) _, by omega⟩
      case rest =>
        obtain ⟨pb, ap, np, cpp, rfl, rfl, hst2, cpb, hp, hpb6⟩ := hcut
        have a4 : IntKind.u64.wrap (i : Int) = (i : Int) := IntWalk.u64_in _ (by omega)
        have hii : ((i : Int)).toNat = i := by omega
        replace hii := hide hii
        have e6 := hst2.c6
        have f6 := hst2.f6
        have hge : i ≤ choose (n - k + i) i * i := Nat.le_mul_of_pos_left i hcz
        have hq : choose (n - k + i) i * i / i = choose (n - k + i) i := Nat.mul_div_cancel _ (by omega)
        replace hge := hide hge
        replace hq := hide hq
        clear hst c6
        go_wp2_with fail
        go_region_held3 (fun W => W.cell? ⟨pb, 0, none⟩ = some (.slice ap np cpp)) (first | go_keep | (refine cell_far cp5 ?_ _; simp only []; omega)) (first
          | (go_at_call 49; refine (of_int _ _ ?_ ?_).mono ?_; (omega); (omega); rintro e w4 ⟨ui, rfl, hui, hb4⟩; have st4 := (hst2.keep (Below.refl _ _).drew).keep hb4; have hp4 : NV w4 (.slice ap np cpp) _ := Rd.below (Rd.drew hp) hb4; have cp4 := Bel.cellOf hb4 cpb)
          | (go_at_call 51; refine (divmod_small _ _ (choose (n - k + i) i * i) i _ ?_ ?_ ?_ ?_ ?_ ?_).mono ?_; (exact hp4); (rw [← hii.out]; exact hui); (exact hlim3); (omega); (omega); (exact hge.out); rintro e w5 ⟨uq, ur, rfl, huq, hur, hb5⟩; have st5 := st4.keep hb5; have e65 := st5.c6; have f65 := st5.f6; have cp5 := Bel.cellOf hb5 cp4; obtain ⟨aq, nq, cq, rfl⟩ := Rd.shape huq))
        rw [hq.out] at huq
        have st6 := st5.put huq
        go_wp2
        go_roundg (k + 1 - (i + 1))
        case measure => have := hgk.out; omega
        case rel =>
          refine ⟨i + 1, aq, nq, cq, rfl, by omega, by omega, by go_num, ?_⟩
          rw [show n - k + (i + 1) - 1 = n - k + i by omega, Nat.add_sub_cancel]
          exact st6
    · have hik2 : i = k + 1 := by omega
      have hnv := hst.nv
      rw [hik2] at hnv
      rw [show n - k + (k + 1) - 1 = n by omega, Nat.add_sub_cancel] at hnv
      replace hik2 := hide hik2
      have c4 := hst.c4
      have f4 := hst.f4
      have hl := hst.lt
      have hfin := hnv.setNe c4 (fun _ h => by cases h) (.slice ao n0 cp)
      have hbel := Bel.st hst.bel (p := ⟨w.heap.size, 0, none⟩) (Nat.le_refl _) (.slice ao n0 cp)
      go_wp2
      refine bodyPost_ret (v := .tuple #[.agg #[.slice ao n0 cp], .int .i64 0]) (by simp [results, Tryz.results31, go_sem, c4]) rfl ⟨_, rfl, hfin, hbel⟩
end Go.Proofs.YtlppomkpmnpmcaaGreat

/- nat.DivMod: the divisor greater than the dividend, or of one limb. -/
import Derived.Test.YtlppomkpmnpmcaaGreatOf
import Derived.Test.YtlppomkpmnpmcaaGreatCmp
import Derived.Test.YtlppomkpmnpmcaaGreatDivS
open Go.RowKit
set_option linter.unusedVariables false
set_option linter.unusedSimpArgs false
namespace Go.Proofs.YtlppomkpmnpmcaaGreat

/-- Quotient, remainder and OK. -/
def Nat3 (q r : Nat) (w : World) (e : Ending) (w' : World) : Prop := ∃ (u v : Value), e = .returned (.tuple #[.agg #[u], .agg #[v], .int .i64 0]) ∧ NV w' u q ∧ NV w' v r ∧ Below w.heap.size w w'

theorem limbs_one {d : Nat} (h : 0 < d) (hd : d < 4294967296) : limbs d = [d] := by
  rw [limbs_pos (by omega), show d / 4294967296 = 0 by omega, limbs_zero, show d % 4294967296 = d by omega]

/-- What stands in memory behind the two checks of DivMod. -/
structure DivPre (W w2 : World) (aa ab : Option Addr) (m n ca cb : Nat) : Prop where
  bel : Below W.heap.size W w2
  size : W.heap.size + 1 + 1 + 1 < w2.heap.size
  c0 : w2.cell? ⟨W.heap.size, 0, none⟩ = some (.slice aa (limbs m).length ca)
  c1 : w2.cell? ⟨W.heap.size + 1, 0, none⟩ = some (.slice ab (limbs n).length cb)
  c2 : w2.cell? ⟨W.heap.size + 1 + 1, 0, none⟩ = some (.slice none 0 0)
  c3 : w2.cell? ⟨W.heap.size + 1 + 1 + 1, 0, none⟩ = some (.slice none 0 0)
  f2 : w2.frozen? ⟨W.heap.size + 1 + 1, 0, none⟩ = false
  f3 : w2.frozen? ⟨W.heap.size + 1 + 1 + 1, 0, none⟩ = false

theorem DivPre.keep {W w2 w3 : World} {aa ab : Option Addr} {m n ca cb : Nat} (h : DivPre W w2 aa ab m n ca cb) (hb : Below w2.heap.size w2 w3) : DivPre W w3 aa ab m n ca cb :=
  ⟨Bel.to h.bel hb, by have := h.size; have := hb.size; omega, Bel.cellOf hb h.c0, Bel.cellOf hb h.c1, Bel.cellOf hb h.c2, Bel.cellOf hb h.c3, Bel.frozenOf hb h.c2 h.f2, Bel.frozenOf hb h.c3 h.f3⟩

set_option maxHeartbeats 1000000 in
set_option maxRecDepth 100000 in
theorem divmod_lt (va vb : Value) (m n : Nat) (w : World) (ha : NV w va m) (hb : NV w vb n) (hm : (limbs m).length ≤ 64) (hn : (limbs n).length ≤ 64) (hlt : m < n) :
    Calls Tryz.prog 51 #[.agg #[va], .agg #[vb]] w (Nat3 0 m w) := by
  have hcmp : cmpN m n = -1 := by unfold cmpN; rw [if_pos hlt]
  obtain ⟨aa, ca, rfl, hla, hca, hra⟩ := Rd.form ha
  obtain ⟨ab, cb, rfl, hlb, hcb, hrb⟩ := Rd.form hb
  have hn0 : 0 < (limbs n).length := by rw [limbs_pos (by omega)]; simp
  go_enter Tryz.func51, Tryz.ntmps51
  go_wp2_with fail
  refine (valid _ m _ (by exact (((ha.alloc _).alloc _).alloc _).alloc _) hm).mono ?_
  rintro e w1 ⟨rfl, hb1⟩
  have hp : DivPre w w1 aa ab m n ca cb := ⟨Bel.to (Bel.al (Bel.al (Bel.al (Bel.al (Below.refl _ _) _) _) _) _) hb1, by have := hb1.size; simp at this; omega, Bel.cellOf hb1 (by go_simp), Bel.cellOf hb1 (by go_simp), Bel.cellOf hb1 (by go_simp), Bel.cellOf hb1 (by go_simp), Bel.frozenOf hb1 (v := .slice none 0 0) (by go_simp) (by go_simp), Bel.frozenOf hb1 (v := .slice none 0 0) (by go_simp) (by go_simp)⟩
  clear hb1
  have d1 := hp.c1
  go_wp2_with fail
  refine (valid _ n _ (by exact hb.below hp.bel) hn).mono ?_
  rintro e w2 ⟨rfl, hb2⟩
  replace hp := hp.keep hb2
  clear hb2 d1
  have d0 := hp.c0
  have d1 := hp.c1
  go_wp2_with fail
  refine (compare_lists _ _ _ _ m n _ rfl rfl (by exact hra.below hp.bel) (by exact hrb.below hp.bel)).mono ?_
  rintro e w3 ⟨rfl, k, rfl⟩
  replace hp := hp.keep (Bel.drN (Below.refl _ _) k)
  clear d0 d1
  rw [hcmp]
  have d0 := hp.c0
  have d1 := hp.c1
  go_wp2_with fail
  refine (copied _ m _ (by exact ha.below hp.bel) hm).mono ?_
  rintro e w4 ⟨u, rfl, hu, hb4⟩
  replace hp := hp.keep hb4
  have hu2 := (hu.setNe hp.c2 (fun _ h => by cases h) (.slice none 0 0))
  have c3' : (w4.setCell ⟨w.heap.size + 1 + 1, 0, none⟩ (.slice none 0 0)).cell? ⟨w.heap.size + 1 + 1 + 1, 0, none⟩ = some (.slice none 0 0) := by
    have := hp.c3; go_simp
  have hu3 := (hu2.setNe c3' (fun _ h => by cases h) u)
  have hbel := Bel.st (Bel.st hp.bel (p := ⟨w.heap.size + 1 + 1, 0, none⟩) (by simp only []; omega) (.slice none 0 0)) (p := ⟨w.heap.size + 1 + 1 + 1, 0, none⟩) (by simp only []; omega) u
  have e2 := hp.c2
  have e3 := hp.c3
  have g2 := hp.f2
  have g3 := hp.f3
  obtain ⟨ao, n0, cp, rfl⟩ := Rd.shape hu
  go_wp2
  refine bodyPost_ret (v := .tuple #[.agg #[.slice none 0 0], .agg #[.slice ao n0 cp], .int .i64 0]) (by simp [results, Tryz.results51, go_sem, e2, e3]) rfl ⟨_, _, rfl, ?_, hu3, hbel⟩
  show Rd U32 _ _ (limbs 0)
  rw [limbs_zero]
  exact Rd.nil

set_option maxHeartbeats 1000000 in
set_option maxRecDepth 100000 in
theorem divmod_small (va vb : Value) (m n : Nat) (w : World) (ha : NV w va m) (hb : NV w vb n) (hm : (limbs m).length ≤ 64) (hn0 : 0 < n) (hn : n < 4294967296) (hge : n ≤ m) :
    Calls Tryz.prog 51 #[.agg #[va], .agg #[vb]] w (Nat3 (m / n) (m % n) w) := by
  obtain ⟨cv, hcmp, hcv⟩ : ∃ cv, cmpN m n = cv ∧ ¬ cv < 0 := by
    refine ⟨_, rfl, ?_⟩
    unfold cmpN; rw [if_neg (by omega)]; split <;> omega
  have hl1 := limbs_one hn0 hn
  obtain ⟨aa, ca, rfl, hla, hca, hra⟩ := Rd.form ha
  obtain ⟨ab, cb, rfl, hlb, hcb, hrb⟩ := Rd.form hb
  have hrb1 : Rd U32 w (.slice ab 1 cb) [n] := by rw [hl1] at hrb; exact hrb
  obtain ⟨bb, offb, rfl, hbb, hcellb⟩ := hrb1.at_ (k := 0) (by simp)
  have cb0 := hcellb 0 (by simp)
  simp only [Nat.add_zero, List.getElem_cons_zero] at cb0
  clear hcellb hrb1
  have hl1' : (limbs n).length = 1 := by rw [hl1]; rfl
  have hn64 : (limbs n).length ≤ 64 := by omega
  rw [hl1'] at hrb hb hlb ⊢
  replace hl1 := hide hl1
  replace hl1' := hide hl1'
  go_enter Tryz.func51, Tryz.ntmps51
  go_wp2_with fail
  refine (valid _ m _ (by exact (((ha.alloc _).alloc _).alloc _).alloc _) hm).mono ?_
  rintro e w1 ⟨rfl, hb1⟩
  have hp : DivPre w w1 aa (some ⟨bb, offb, none⟩) m n ca cb := ⟨Bel.to (Bel.al (Bel.al (Bel.al (Bel.al (Below.refl _ _) _) _) _) _) hb1, by have := hb1.size; simp at this; omega, Bel.cellOf hb1 (by go_simp), Bel.cellOf hb1 (by rw [hl1'.out]; go_simp), Bel.cellOf hb1 (by go_simp), Bel.cellOf hb1 (by go_simp), Bel.frozenOf hb1 (v := .slice none 0 0) (by go_simp) (by go_simp), Bel.frozenOf hb1 (v := .slice none 0 0) (by go_simp) (by go_simp)⟩
  clear hb1
  have d1 := hp.c1
  rw [hl1'.out] at d1
  go_wp2_with fail
  refine (valid _ n _ (by exact hb.below hp.bel) hn64).mono ?_
  rintro e w2 ⟨rfl, hb2⟩
  replace hp := hp.keep hb2
  clear hb2 d1
  have d0 := hp.c0
  have d1 := hp.c1
  rw [hl1'.out] at d1
  go_wp2_with fail
  refine (compare_lists _ _ _ _ m n _ rfl rfl (by exact hra.below hp.bel) (by exact hrb.below hp.bel)).mono ?_
  rintro e w3 ⟨rfl, k, rfl⟩
  replace hp := hp.keep (Bel.drN (Below.refl _ _) k)
  clear d0 d1
  rw [hcmp]
  replace hcmp := hide hcmp
  have d0 := hp.c0
  have d1 := hp.c1
  rw [hl1'.out] at d1
  obtain ⟨w4, hw4⟩ : ∃ w4, w4 = w2.drewN k := ⟨_, rfl⟩
  rw [← hw4] at hp d0 d1 ⊢
  clear hw4
  go_wp2_with (with_reducible refine wpList_append_rd _ rfl _ _ 58 rfl (V := U32) (fun _ => rfl) w.heap.size 105 (.int .u32 0) 4 Tryz.underlying58 infoU32' rfl (.slice none 0 0) [] rfl (Own.nil _ _ _) _ (limbs m) rfl ?_ ?_ ?_ ?_ ?_)
  case refine_1 => exact hra.below hp.bel
  case refine_2 => simp; omega
  case refine_3 => simp; omega
  case refine_4 => exact hp.bel.size
  intro v5 w5 hown5 hg5 hv5
  have hmpos : m ≠ 0 := by omega
  have hlm : 0 < (limbs m).length := by rw [limbs_pos hmpos]; simp
  obtain ⟨g, cap, rfl, hgb, hgl⟩ := hown5.form hlm
  have hgw : g = w4.heap.size := by
    rcases hv5 with h | h
    · simp [Value.ownBlock] at h
    · simpa [Value.ownBlock] using h
  replace hgw := hide hgw
  have hb45 : Below w4.heap.size w4 w5 := (Below.refl _ _).grown hg5 (Nat.le_refl _) (by simp [Value.ownBlock])
  have hp4 := hp
  replace hp := hp.keep hb45
  clear d0 d1 hg5 hv5
  have d1 := hp.c1
  rw [hl1'.out] at d1
  have cb5 := Bel.cellOf hp.bel cb0
  go_wp2_with fail
  refine (divideSmall g cap w.heap.size (limbs m) n _ (by exact hown5) (small_limbs m) hn0 hn (by omega)).mono ?_
  rintro e w6 ⟨rfl, ⟨q, hown6, hql, hqs, hqv⟩, hg6⟩
  rw [val_limbs] at hqv ⊢
  replace hqv := hide hqv
  replace hql := hide hql
  have hb46 : Below w4.heap.size w4 w6 := hb45.grown hg6 hb45.size (fun k hk => by injection hk with hk; have := hgw.out; omega)
  replace hp := hp4.keep hb46
  clear d1 cb5
  go_wp2_with fail
  refine (trimmed _ q _ (by exact hown6.rd) hqs).mono ?_
  rintro e w7 ⟨u, rfl, hu, hb7⟩
  rw [hqv.out] at hu
  replace hp := hp.keep hb7
  have hmod : m % n < 4294967296 := by have := Nat.mod_lt m hn0; omega
  go_wp2_with fail
  refine (of_any (m % n) _ (by omega)).mono ?_
  rintro e w8 ⟨v, rfl, hv, hb8⟩
  replace hp := hp.keep hb8
  replace hu := hu.below hb8
  have hu1 := hu.setNe hp.c2 (fun _ h => by cases h) u
  have hv1 := hv.setNe hp.c2 (fun _ h => by cases h) u
  have c3' : (w8.setCell ⟨w.heap.size + 1 + 1, 0, none⟩ u).cell? ⟨w.heap.size + 1 + 1 + 1, 0, none⟩ = some (.slice none 0 0) := by
    have := hp.c3; go_simp
  have hu2 := hu1.setNe c3' (fun _ h => by cases h) v
  have hv2 := hv1.setNe c3' (fun _ h => by cases h) v
  have hbel := Bel.st (Bel.st hp.bel (p := ⟨w.heap.size + 1 + 1, 0, none⟩) (by simp only []; omega) u) (p := ⟨w.heap.size + 1 + 1 + 1, 0, none⟩) (by simp only []; omega) v
  have e2 := hp.c2
  have e3 := hp.c3
  have g2 := hp.f2
  have g3 := hp.f3
  obtain ⟨ao, n0, cp, rfl⟩ := Rd.shape hu
  obtain ⟨ao', n0', cp', rfl⟩ := Rd.shape hv
  go_wp2
  refine bodyPost_ret (v := .tuple #[.agg #[.slice ao n0 cp], .agg #[.slice ao' n0' cp'], .int .i64 0]) (by simp [results, Tryz.results51, go_sem, e2, e3]) rfl ⟨_, _, rfl, hu2, hv2, hbel⟩
end Go.Proofs.YtlppomkpmnpmcaaGreat

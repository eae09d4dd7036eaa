/- lotteryref03: Whole, where the number fits. -/
import Derived.Test.YtompjmcbfgckiaaRefAdd
open Go.RowKit
set_option linter.unusedVariables false
set_option linter.unusedSimpArgs false
namespace Go.Proofs.Ytompjmcbfgckiaa

def WholeB (n : Nat) (w : World) (e : Ending) (w' : World) : Prop := ∃ u, e = .returned (.tuple #[.agg #[u], .bool true]) ∧ NV w' u n ∧ Below w.heap.size w w'

theorem digs_limbs_len {n k : Nat} (h : (limbs n).length ≤ k) : (digs n).length ≤ 2 * k := by
  rw [← length_digs_lt]
  have := length_limbs_lt.2 h
  rw [Nat.pow_mul]
  exact this

theorem limbs_digs_len {n k : Nat} (h : (digs n).length ≤ 2 * k) : (limbs n).length ≤ k := by
  rw [← length_limbs_lt]
  have := length_digs_lt.2 h
  rw [Nat.pow_mul] at this
  exact this

theorem digs_step {l : List Nat} {i m : Nat} (hi : i < l.length) (h : l.drop i = digs m) : m ≠ 0 ∧ l[i] = m % 65536 ∧ l.drop (i + 1) = digs (m / 65536) := by
  have hm : m ≠ 0 := by
    rintro rfl
    rw [digs_zero, List.drop_eq_nil_iff] at h; omega
  rw [List.drop_eq_getElem_cons hi, digs_pos hm] at h
  injection h with h1 h2
  exact ⟨hm, h1, h2⟩

set_option maxHeartbeats 4000000 in
set_option maxRecDepth 100000 in
theorem whole_ok (v : Value) (n : Nat) (w : World) (h : DV w v n) (hn : (digs n).length ≤ 128) :
    Calls Try.prog 40 #[v] w (WholeB n w) := by
  unfold DV at h
  have hdv := hide (dval_digs n)
  have hsm := hide (dsmall_digs n)
  have hstart := hide (show ([] : List Nat) ++ limbs n = limbs n from rfl)
  have hl0 := hide (show (digs n).drop 0 = digs n from rfl)
  have hlim := hide (limbs_digs_len (k := 64) (by omega) : (limbs n).length ≤ 64)
  obtain ⟨ao, cap, rfl, -, -, -⟩ := Rd.form h
  go_enter Try.func40, Try.ntmps40
  go_wp2_with fail
  refine (rtrim _ (digs n) _ (h.alloc _) hsm.out).mono ?_
  rintro e w1 ⟨u, rfl, hu, hb1, -⟩
  rw [hdv.out] at hu
  have e0 : w1.cell? ⟨w.heap.size, 0, none⟩ = some (.slice none 0 0) := Bel.cellOf hb1 (by go_simp)
  have g0 : w1.frozen? ⟨w.heap.size, 0, none⟩ = false := by rw [hb1.frozen (by simp)]; go_simp
  have hsz1 : w.heap.size < w1.heap.size := by have := hb1.size; simp at this; omega
  have hbw1 := Bel.one _ hb1
  clear h hb1 hdv
  unfold DV at hu
  obtain ⟨l, hl⟩ : ∃ l, l = digs n := ⟨_, rfl⟩
  rw [← hl] at hu hn hsm
  have hl0 := hide (show l.drop 0 = digs n from hl)
  clear hl
  obtain ⟨ao, cap, rfl, hlc, hcm, hr⟩ := Rd.form hu
  have hcm : cap ≤ 9223372036854775807 := by unfold maxLen at hcm; omega
  go_wp2
  have hrow0 : Row (w1.alloc (Obj.cells #[.slice none 0 0] 24)) w1.heap.size 24 [.slice none 0 0] := by
    have := Row.newOf (w := w1) (c := #[.slice none 0 0]) (cs := [.slice none 0 0]) 24 rfl
    simpa using this
  obtain ⟨W, hW⟩ : ∃ W, W = w1.alloc (Obj.cells #[.slice none 0 0] 24) := ⟨_, rfl⟩
  have hbW : Below w1.heap.size w1 W := by rw [hW]; exact Bel.al (Below.refl _ _) _
  rw [← hW] at hrow0 ⊢
  clear hW
  have hstart2 := hide (show ([] : List Nat) ++ limbs n = limbs n from rfl)
  go_loopw [5] (fun t wr => ∃ (i m : Nat) (A : List Nat) (bo : Option Addr) (cap2 : Nat), t = .int .i64 i ∧ i ≤ 130 ∧ i ≤ l.length + 1 ∧ A.length ≤ i ∧ Hid (l.drop i = digs m) ∧ Hid (A ++ limbs m = limbs n) ∧
      Row wr w1.heap.size 24 [.slice bo A.length cap2] ∧ Own U32 wr (w1.heap.size + 1) 56 (.slice bo A.length cap2) A ∧ Below w1.heap.size w1 wr) (fun t _ => l.length + 1 - (intOf t).toNat)
  case atStart => exact ⟨0, n, [], none, 0, rfl, by omega, by omega, Nat.zero_le _, hl0, hstart2, hrow0, Own.nil _ _ _, hbW⟩
  case round =>
    obtain ⟨i, m, A, bo, cap2, rfl, hi, hil, hA, hD, hE, hrow, hown, hbel⟩ := hrel
    have d1 := hrow.cell (i := 0) (by simp)
    have f1 := hrow.frozen 0
    simp only [List.getElem_cons_zero] at d1
    have hsz := hrow.lt
    by_cases hk : i < l.length
    · obtain ⟨hm, hx, hD2⟩ := digs_step hk hD.out
      have hlm := limbs_pos hm
      have hE2 := hE.out
      rw [hlm] at hE2
      obtain ⟨b, off, rfl, hb, hc⟩ := hr.at_ hk
      have c1 := Bel.cellOf hbel (hc i hk)
      by_cases hk2 : i + 1 < l.length
      · obtain ⟨hm2, hy, hD3⟩ := digs_step hk2 hD2
        have c2 := Bel.cellOf hbel (hc (i + 1) hk2)
        rw [Nat.div_div_eq_div_mul] at hD3
        have hmm : m % 4294967296 = l[i] + 65536 * l[i + 1] := by rw [hx, hy]; omega
        have p1 : l[i] < 65536 := by omega
        have q1 : l[i + 1] < 65536 := by omega
        obtain ⟨p, hp⟩ : ∃ p, p = l[i] := ⟨_, rfl⟩
        obtain ⟨q, hq⟩ : ∃ q, q = l[i + 1] := ⟨_, rfl⟩
        rw [← hp, ← hq] at hmm
        rw [← hp] at c1 p1
        rw [← hq] at c2 q1
        have hE3 := hide (show (A ++ [p + 65536 * q]) ++ limbs (m / 4294967296) = limbs n by rw [List.append_assoc, ← hmm]; exact hE2)
        have hD4 := hide (show l.drop (i + 2) = digs (m / 4294967296) from hD3)
        clear hmm hm2 hy hD3 hc hx hD2 hlm hE2 hE hD hm hp hq
        go_wp2_with (with_reducible refine wpList_append_rd _ rfl _ _ 22 rfl (V := U32) (fun _ => rfl) (w1.heap.size + 1) 56 (.int .u32 0) 4 Try.underlying22 infoU32 rfl _ A rfl (hown.alloc _) _ [p + 65536 * q] rfl ?_ ?_ ?_ ?_ ?_)
        case refine_1 => exact Rd.new _ rfl rfl (Nat.le_refl _) (by decide) (by simp)
        case refine_2 => simp; omega
        case refine_3 => simp; omega
        case refine_4 => simp; omega
        intro v4 w4 hown4 hg4 hv4
        have hne1 : some (w1.heap.size) ≠ (Value.slice bo A.length cap2).ownBlock := fun he => by
          have := (hown.lt _ he.symm).1; omega
        have hrow4 := (hrow.alloc (Obj.cells #[Value.int IntKind.u32 ((p : Int) + 65536 * (q : Int))] 56)).grown hg4 hne1
        have hb4 : Below w1.heap.size w1 w4 := (Bel.al hbel _).grown hg4 (by simp; omega) (fun g hg => by have := (hown.lt g hg).1; omega)
        obtain ⟨ao4, cap4, rfl⟩ := hown4.shape
        have hl1 : (A ++ [p + 65536 * q]).length = A.length + 1 := by simp
        rw [hl1] at hown4
        have d4 := hrow4.cell (i := 0) (by simp)
        have e4 := hrow4.frozen 0
        simp only [List.getElem_cons_zero] at d4
        have hown5 := hown4.farRow hrow4 (by decide) 0 (.slice ao4 (A.length + 1) cap4)
        have hrow5 := hrow4.set 0 (.slice ao4 (A.length + 1) cap4)
        replace hl1 := hide hl1
        have hb5 := Bel.st hb4 (p := ⟨w1.heap.size, 0, none⟩) (by simp) (.slice ao4 (A.length + 1) cap4)
        clear c1 c2 d1 f1
        go_wp2
        go_roundw
        case rel =>
          refine ⟨i + 2, m / 4294967296, A ++ [p + 65536 * q], ao4, cap4, by go_num, by omega, by omega, ?_, hD4, hE3, by rw [hl1.out]; exact hrow5, by rw [hl1.out]; exact hown5, hb5⟩
          rw [hl1.out]; omega
        case measure => simp [intOf]; omega
      · have hD3 : m / 65536 = 0 := by
          rw [List.drop_of_length_le (by omega)] at hD2
          rcases Nat.eq_zero_or_pos (m / 65536) with h | h
          · exact h
          · rw [digs_pos (by omega)] at hD2; cases hD2
        have hmm : m % 4294967296 = l[i] := by rw [hx]; omega
        have p1 : l[i] < 65536 := by omega
        obtain ⟨p, hp⟩ : ∃ p, p = l[i] := ⟨_, rfl⟩
        rw [← hp] at hmm
        rw [← hp] at c1 p1
        have hE3 := hide (show (A ++ [p]) ++ limbs (m / 4294967296) = limbs n by rw [List.append_assoc, ← hmm]; exact hE2)
        have hD4 := hide (show l.drop (i + 2) = digs (m / 4294967296) by rw [show m / 4294967296 = 0 by omega, digs_zero, List.drop_of_length_le (by omega)])
        clear hmm hD3 hc hx hD2 hlm hE2 hE hD hm hp
        go_wp2_with (with_reducible refine wpList_append_rd _ rfl _ _ 22 rfl (V := U32) (fun _ => rfl) (w1.heap.size + 1) 56 (.int .u32 0) 4 Try.underlying22 infoU32 rfl _ A rfl (hown.alloc _) _ [p] rfl ?_ ?_ ?_ ?_ ?_)
        case refine_1 => exact Rd.new _ rfl rfl (Nat.le_refl _) (by decide) (by simp)
        case refine_2 => simp; omega
        case refine_3 => simp; omega
        case refine_4 => simp; omega
        intro v4 w4 hown4 hg4 hv4
        have hne1 : some (w1.heap.size) ≠ (Value.slice bo A.length cap2).ownBlock := fun he => by
          have := (hown.lt _ he.symm).1; omega
        have hrow4 := (hrow.alloc (Obj.cells #[Value.int IntKind.u32 (p : Int)] 56)).grown hg4 hne1
        have hb4 : Below w1.heap.size w1 w4 := (Bel.al hbel _).grown hg4 (by simp; omega) (fun g hg => by have := (hown.lt g hg).1; omega)
        obtain ⟨ao4, cap4, rfl⟩ := hown4.shape
        have hl1 : (A ++ [p]).length = A.length + 1 := by simp
        rw [hl1] at hown4
        have d4 := hrow4.cell (i := 0) (by simp)
        have e4 := hrow4.frozen 0
        simp only [List.getElem_cons_zero] at d4
        have hown5 := hown4.farRow hrow4 (by decide) 0 (.slice ao4 (A.length + 1) cap4)
        have hrow5 := hrow4.set 0 (.slice ao4 (A.length + 1) cap4)
        replace hl1 := hide hl1
        have hb5 := Bel.st hb4 (p := ⟨w1.heap.size, 0, none⟩) (by simp) (.slice ao4 (A.length + 1) cap4)
        clear c1 d1 f1
        go_wp2
        go_roundw
        case rel =>
          refine ⟨i + 2, m / 4294967296, A ++ [p], ao4, cap4, by go_num, by omega, by omega, ?_, hD4, hE3, by rw [hl1.out]; exact hrow5, by rw [hl1.out]; exact hown5, hb5⟩
          rw [hl1.out]; omega
        case measure => simp [intOf]; omega
    · have hm0 : m = 0 := by
        have := hD.out
        rw [List.drop_of_length_le (by omega)] at this
        rcases Nat.eq_zero_or_pos m with h | h
        · exact h
        · rw [digs_pos (by omega)] at this; cases this
      subst hm0
      have hE2 := hE.out
      rw [limbs_zero, List.append_nil] at hE2
      have hnv : NV wr (.slice bo A.length cap2) n := by show Rd _ _ _ _; rw [← hE2]; exact hown.rd
      have c0 := Bel.cellOf hbel e0
      have f0 := Bel.frozenOf hbel e0 g0
      have hfin := hnv.setNe c0 (fun _ h => by cases h) (.slice bo A.length cap2)
      have hbel2 := Bel.st (Bel.to hbw1 hbel) (p := ⟨w.heap.size, 0, none⟩) (Nat.le_refl _) (.slice bo A.length cap2)
      clear hE2 hE hA hD hnv
      go_wp2
      refine bodyPost_ret (v := .tuple #[.agg #[.slice bo A.length cap2], .bool true]) (by simp [results, Try.results40, go_sem, c0]) rfl ⟨_, rfl, hfin, hbel2⟩
end Go.Proofs.Ytompjmcbfgckiaa

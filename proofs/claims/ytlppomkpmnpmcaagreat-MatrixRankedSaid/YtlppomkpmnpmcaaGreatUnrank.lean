/- comb.Unrank. -/
import Derived.Test.YtlppomkpmnpmcaaGreatRank
open Go.RowKit
set_option linter.unusedVariables false
set_option linter.unusedSimpArgs false
namespace Go.Proofs.YtlppomkpmnpmcaaGreat

theorem infoInt : (Tryz.prog.info? 3).map (fun i => (i.zero, i.size, i.bytes)) = some (some (.int .i64 0), 1, 8) := by kernel_rfl

/-- A list and a code. -/
def ListC (l : List Int) (c : Int) (w : World) (e : Ending) (w' : World) : Prop := ∃ u, e = .returned (.tuple #[u, .int .i64 c]) ∧ Rd I64 w' u l ∧ Below w.heap.size w w'

theorem choose_mono_step (m j : Nat) : choose m j ≤ choose (m + 1) (j + 1) ∧ choose m (j + 1) ≤ choose (m + 1) (j + 1) := by
  rw [choose_succ]; omega

set_option maxHeartbeats 2000000 in
set_option maxRecDepth 100000 in
theorem unrank_ok (r n k : Nat) (w : World) (hn : n ≤ 80) (hk : k ≤ n) (hct : choose n k ≤ 9223372036854775807) (hr : r < choose n k) :
    Calls Tryz.prog 23 #[.int .i64 (r : Int), .int .i64 (n : Int), .int .i64 (k : Int)] w (ListC (unrankL n 1 r k) 0 w) := by
  have hd : decide (0 ≤ (n : Int) ∧ (n : Int) ≤ 80) = true := decide_eq_true (by omega)
  have hci0 := chooseI_nat n k n k rfl rfl
  have hrI : (r : Int) < ((choose n k : Nat) : Int) := by omega
  have hkI : ¬ (n : Int) < (k : Int) := by omega
  go_enter Tryz.func23, Tryz.ntmps23
  go_wp2_with fail
  refine (known_any _ _).mono ?_
  rintro e w' ⟨rfl, rfl⟩
  rw [hd]
  clear hd
  replace hci0 := hide hci0
  go_wp2_with fail
  refine (count_ok _ _ _ (by omega) (by rw [hci0.out]; exact hct)).mono ?_
  rintro e w1 ⟨rfl, hb1⟩
  rw [hci0.out]
  go_wp2_with (with_reducible refine wpList_make_row _ rfl _ _ 26 rfl 3 (.int .i64 0) 8 Tryz.underlying26 infoInt rfl .i64 .i64 _ _ 0 k rfl rfl (by omega) (by omega) (Nat.zero_le _) (by omega) (by omega) ?_; intro w2 hrow hb2 hz2)
  have hown : Own I64 w2 w.heap.size 3 (.slice (some ⟨w1.heap.size, 0, none⟩) 0 k) [] := Own.ofRow hrow hb1.size (by omega)
  have hbel := Bel.to hb1 hb2
  clear hrow hb1 hb2 hz2
  have hstart := hide (show ([] : List Int) ++ unrankL n 1 r k = unrankL n 1 r k from rfl)
  obtain ⟨c0, hc0⟩ : ∃ c0, c0 = some (⟨w1.heap.size, 0, none⟩ : Addr) := ⟨_, rfl⟩
  rw [← hc0] at hown ⊢
  clear hc0 hrI
  go_loopw [0, 10, 11] (fun rr vv ww wr => ∃ (A : List Int) (ao : Option Addr) (cap rv wv : Nat), vv = .slice ao A.length cap ∧ ww = .int .i64 wv ∧ rr = .int .i64 rv ∧ 1 ≤ wv ∧ wv ≤ n + 1 ∧ A.length ≤ k ∧ Own I64 wr w.heap.size 3 (.slice ao A.length cap) A ∧
      Below w.heap.size w wr ∧ Hid (A ++ unrankL (n + 1 - wv) wv rv (k - A.length) = unrankL n 1 r k) ∧ rv < choose (n + 1 - wv) (k - A.length) ∧ choose (n + 1 - wv) (k - A.length) ≤ choose n k) (fun _ _ ww _ => n + 1 - (intOf ww).toNat)
  case atStart =>
    refine ⟨[], c0, k, r, 1, rfl, rfl, rfl, Nat.le_refl _, by omega, Nat.zero_le _, hown, hbel, ?_, ?_, ?_⟩
    · simpa using hstart
    · simpa using hr
    · simp
  case round =>
    obtain ⟨A, ao, cap, rv, wv, rfl, rfl, rfl, hw1, hw2, hAk, hown, hbel, hE, hlt, hle⟩ := hrel
    by_cases hAl : A.length < k
    · obtain ⟨j, hj⟩ : ∃ j, k - A.length = j + 1 := ⟨k - A.length - 1, by omega⟩
      have hwn : wv ≤ n := by
        rcases Nat.lt_or_ge n wv with h | h
        · rw [show n + 1 - wv = 0 by omega, hj, choose_gt (by omega)] at hlt; omega
        · exact h
      obtain ⟨m, hm⟩ : ∃ m, n + 1 - wv = m + 1 := ⟨n - wv, by omega⟩
      have hE2 := hE.out
      rw [hm, hj] at hlt hle hE2
      obtain ⟨s1, s2⟩ := choose_mono_step m j
      have hsum := choose_succ m j
      have hci := chooseI_nat m j ((n : Int) - wv) ((k : Int) - A.length - 1) (by omega) (by omega)
      rw [unrankL, if_neg (by omega), Nat.add_sub_cancel] at hE2
      obtain ⟨C, hC⟩ : ∃ C, C = choose m j := ⟨_, rfl⟩
      rw [← hC] at hE2 s1 hsum hci
      replace hci := hide hci
      have hC5 : C ≤ 9223372036854775807 := by omega
      by_cases hrc : rv < C
      · rw [if_pos hrc] at hE2
        replace hE2 := hide hE2
        have hrI : (rv : Int) < (C : Int) := by omega
        have f1 : rv < choose m j := by omega
        have f2 : choose m j ≤ choose n k := by omega
        replace hC := hide hC
        replace hm := hide hm
        replace hj := hide hj
        clear hsum s1 s2 hlt hle hE
        go_wp2_with fail
        refine (count_ok _ _ _ (by omega) (by rw [hci.out]; exact hC5)).mono ?_
        rintro e w3 ⟨rfl, hb3⟩
        rw [hci.out]
        have hown3 := hown.keep hb3
        go_wp2_with (with_reducible refine wpList_append_rd _ rfl _ _ 26 rfl (V := I64) (fun _ => rfl) w.heap.size 3 (.int .i64 0) 8 Tryz.underlying26 infoInt rfl _ A rfl (hown3.alloc _) _ [(wv : Int)] rfl ?_ ?_ ?_ ?_ ?_)
        case refine_1 => exact Rd.new _ rfl rfl (Nat.le_refl _) (by decide) rfl
        case refine_2 => simp; omega
        case refine_3 => simp; omega
        case refine_4 => have := hbel.size; have := hb3.size; simp; omega
        intro v4 w4 hown4 hg4 hv4
        have hsz := hb3.size
        have hsz2 := hbel.size
        have hb4 : Below w.heap.size w w4 := (Bel.al (Bel.to hbel hb3) _).grown hg4 (by simp; omega) (fun g hg => (hown3.lt g hg).1)
        obtain ⟨ao4, cap4, rfl⟩ := hown4.shape
        go_wp2
        go_roundw
        case rel =>
          refine ⟨A ++ [(wv : Int)], ao4, cap4, rv, wv + 1, rfl, by go_num, rfl, by omega, by omega, by simp; omega, hown4, hb4, ?_, ?_, ?_⟩
          · show _ = _
            have hj' := hj.out
            have hm' := hm.out
            rw [List.length_append, List.length_singleton, show n + 1 - (wv + 1) = m by omega, show k - (A.length + 1) = j by omega, List.append_assoc]
            exact hE2.out
          · have hj' := hj.out
            have hm' := hm.out
            rw [List.length_append, List.length_singleton, show n + 1 - (wv + 1) = m by omega, show k - (A.length + 1) = j by omega]
            exact f1
          · have hj' := hj.out
            have hm' := hm.out
            rw [List.length_append, List.length_singleton, show n + 1 - (wv + 1) = m by omega, show k - (A.length + 1) = j by omega]
            exact f2
        case measure => simp [intOf]; omega
      · rw [if_neg hrc] at hE2
        replace hE2 := hide hE2
        have hrI : ¬ (rv : Int) < (C : Int) := by omega
        have f1 : rv - C < choose m (j + 1) := by omega
        have f2 : choose m (j + 1) ≤ choose n k := by omega
        have hrB : rv ≤ 9223372036854775807 := by omega
        replace hC := hide hC
        replace hm := hide hm
        replace hj := hide hj
        clear hsum s1 s2 hlt hle hE
        go_wp2_with fail
        refine (count_ok _ _ _ (by omega) (by rw [hci.out]; exact hC5)).mono ?_
        rintro e w3 ⟨rfl, hb3⟩
        rw [hci.out]
        have hown3 := hown.keep hb3
        have hCr : C ≤ rv := by omega
        go_wp2
        go_roundw
        case rel =>
          have hj' := hj.out
          have hm' := hm.out
          refine ⟨A, ao, cap, rv - C, wv + 1, rfl, by go_num, by go_num, by omega, by omega, by omega, hown3, Bel.to hbel hb3, ?_, ?_, ?_⟩
          · show _ = _
            rw [show n + 1 - (wv + 1) = m by omega, hj']
            exact hE2.out
          · rw [show n + 1 - (wv + 1) = m by omega, hj']
            exact f1
          · rw [show n + 1 - (wv + 1) = m by omega, hj']
            exact f2
        case measure => simp [intOf]; omega
    · have hkA : k - A.length = 0 := by omega
      have hE2 := hE.out
      rw [hkA, unrankL_zero, List.append_nil] at hE2
      replace hE2 := hide hE2
      clear hE hkA hlt hle
      go_wp2
      go_ret2
      exact ⟨_, rfl, by rw [← hE2.out]; exact hown.rd, hbel⟩
end Go.Proofs.YtlppomkpmnpmcaaGreat

/- The references' Same and Of, and the statements' same. -/
import Derived.Test.YtompjmcbfgckiaaCombAny
open Go.RowKit
set_option linter.unusedVariables false
set_option linter.unusedSimpArgs false
namespace Go.Proofs.Ytompjmcbfgckiaa

def BoolB (b : Bool) (w : World) (e : Ending) (w' : World) : Prop := e = .returned (.bool b) ∧ Below w.heap.size w w'

set_option maxHeartbeats 1000000 in
set_option maxRecDepth 100000 in
theorem same_ints (va vb : Value) (la lb : List Int) (w : World) (ha : Rd I64 w va la) (hb : Rd I64 w vb lb) :
    Calls Try.prog 22 #[va, vb] w (BoolB (decide (la = lb)) w) := by
  obtain ⟨aa, ca, rfl, hla, hca, hra⟩ := Rd.form ha
  obtain ⟨ab, cb, rfl, hlb, hcb, hrb⟩ := Rd.form hb
  have hca' : ca ≤ 9223372036854775807 := by unfold maxLen at hca; omega
  have hcb' : cb ≤ 9223372036854775807 := by unfold maxLen at hcb; omega
  by_cases hl : la.length = lb.length
  · have l3 : ((la.length : Int) != lb.length) = false := by simp; omega
    have l1 : la.length ≤ lb.length := by omega
    have l2 : lb.length ≤ la.length := by omega
    replace hl := hide hl
    go_enter Try.func22, Try.ntmps22
    go_wp2
    go_loopw [13] (fun i wr => ∃ (k d : Nat), k ≤ la.length ∧ i = .int .i64 k ∧ wr = w.drewN d ∧ Hid (la.take k = lb.take k)) (fun i _ => la.length - (intOf i).toNat)
    case atStart => exact ⟨0, 0, Nat.zero_le _, rfl, rfl, rfl⟩
    case round =>
      obtain ⟨k, d, hk, rfl, rfl, htk⟩ := hrel
      by_cases hkl : k < la.length
      · have hk2 : k < lb.length := by omega
        obtain ⟨ba, offa, rfl, hba, hcella⟩ := hra.at_ hkl
        obtain ⟨bb, offb, rfl, hbb, hcellb⟩ := hrb.at_ hk2
        have c1 := hcella _ hkl
        have c2 := hcellb _ hk2
        clear hcella hcellb
        have i1 : (0 : Int) ≤ (k : Int) := by omega
        have i2 : (k : Int) < (la.length : Int) := by omega
        have i3 : (k : Int) < (lb.length : Int) := by omega
        by_cases he : la[k] = lb[k]
        · have hb1 : (la[k] != lb[k]) = false := by simpa using he
          replace he := hide he
          go_wp2
          go_quiet (fail)
          go_wp2
          go_roundw
          case rel =>
            refine ⟨k + 1, _, by omega, by go_num, rfl, ?_⟩
            show _ = _
            rw [take_snoc la k hkl, take_snoc lb k hk2, he.out, htk.out]
          case measure => simp [intOf]; omega
        · have hb1 : (la[k] != lb[k]) = true := by simpa using he
          have hne : decide (la = lb) = false := by
            apply decide_eq_false
            intro h
            subst h
            exact he rfl
          replace hne := hide hne
          go_wp2
          go_quiet (fail)
          go_wp2
          go_ret
          exact ⟨by rw [hne.out]; rfl, Bel.drN (Bel.drN (Below.refl _ _) _) _⟩
      · have hkk : k = la.length := by omega
        have heq : decide (la = lb) = true := by
          apply decide_eq_true
          have := htk.out
          rw [List.take_of_length_le (by omega), List.take_of_length_le (by omega)] at this
          exact this
        replace heq := hide heq
        replace hkk := hide hkk
        go_wp2
        go_ret
        exact ⟨by rw [heq.out]; rfl, Bel.drN (Below.refl _ _) _⟩
  · have l3 : ((la.length : Int) != lb.length) = true := by simp; omega
    have hne : decide (la = lb) = false := by
      apply decide_eq_false
      intro h
      exact hl (by rw [h])
    rw [hne]
    clear hl hne
    go_enter Try.func22, Try.ntmps22
    go_wp2
    go_ret
    exact ⟨rfl, Below.refl _ _⟩

set_option maxHeartbeats 1000000 in
set_option maxRecDepth 100000 in
theorem same_lists (va vb : Value) (la lb : List Nat) (w : World) (ha : Rd U32 w va la) (hb : Rd U32 w vb lb) :
    Calls Try.prog 14 #[.agg #[va], .agg #[vb]] w (BoolB (decide (la = lb)) w) := by
  obtain ⟨aa, ca, rfl, hla, hca, hra⟩ := Rd.form ha
  obtain ⟨ab, cb, rfl, hlb, hcb, hrb⟩ := Rd.form hb
  have hca' : ca ≤ 9223372036854775807 := by unfold maxLen at hca; omega
  have hcb' : cb ≤ 9223372036854775807 := by unfold maxLen at hcb; omega
  by_cases hl : la.length = lb.length
  · have l3 : ((la.length : Int) != lb.length) = false := by simp; omega
    have l1 : la.length ≤ lb.length := by omega
    have l2 : lb.length ≤ la.length := by omega
    replace hl := hide hl
    go_enter Try.func14, Try.ntmps14
    go_wp2
    obtain ⟨W, hW⟩ : ∃ W, W = (w.alloc (Obj.cells #[Value.slice aa la.length ca] 24)).alloc (Obj.cells #[Value.slice ab lb.length cb] 24) := ⟨_, rfl⟩
    have b1 : W.cell? ⟨w.heap.size, 0, none⟩ = some (.slice aa la.length ca) := by rw [hW]; go_simp
    have b2 : W.cell? ⟨w.heap.size + 1, 0, none⟩ = some (.slice ab lb.length cb) := by rw [hW]; go_simp
    have hbW : Below w.heap.size w W := by rw [hW]; exact Bel.al (Bel.al (Below.refl _ _) _) _
    rw [← hW]
    clear hW
    go_loopw [5] (fun i wr => ∃ (k d : Nat), k ≤ la.length ∧ i = .int .i64 k ∧ wr = W.drewN d ∧ Hid (la.take k = lb.take k)) (fun i _ => la.length - (intOf i).toNat)
    case atStart => exact ⟨0, 0, Nat.zero_le _, rfl, rfl, rfl⟩
    case round =>
      obtain ⟨k, d, hk, rfl, rfl, htk⟩ := hrel
      by_cases hkl : k < la.length
      · have hk2 : k < lb.length := by omega
        obtain ⟨ba, offa, rfl, hba, hcella⟩ := hra.at_ hkl
        obtain ⟨bb, offb, rfl, hbb, hcellb⟩ := hrb.at_ hk2
        have c1 := Bel.cellOf hbW (hcella _ hkl)
        have c2 := Bel.cellOf hbW (hcellb _ hk2)
        clear hcella hcellb
        have i1 : (0 : Int) ≤ (k : Int) := by omega
        have i2 : (k : Int) < (la.length : Int) := by omega
        have i3 : (k : Int) < (lb.length : Int) := by omega
        by_cases he : la[k] = lb[k]
        · have hb1 : (((la[k] : Nat) : Int) != ((lb[k] : Nat) : Int)) = false := by rw [he]; simp
          replace he := hide he
          go_wp2
          go_quiet (fail)
          go_wp2
          go_roundw
          case rel =>
            refine ⟨k + 1, _, by omega, by go_num, rfl, ?_⟩
            show _ = _
            rw [take_snoc la k hkl, take_snoc lb k hk2, he.out, htk.out]
          case measure => simp [intOf]; omega
        · have hb1 : (((la[k] : Nat) : Int) != ((lb[k] : Nat) : Int)) = true := by simp; omega
          have hne : decide (la = lb) = false := by
            apply decide_eq_false
            intro h
            subst h
            exact he rfl
          replace hne := hide hne
          go_wp2
          go_quiet (fail)
          go_wp2
          go_ret
          exact ⟨by rw [hne.out]; rfl, Bel.drN (Bel.drN hbW _) _⟩
      · have hkk : k = la.length := by omega
        have heq : decide (la = lb) = true := by
          apply decide_eq_true
          have := htk.out
          rw [List.take_of_length_le (by omega), List.take_of_length_le (by omega)] at this
          exact this
        replace heq := hide heq
        replace hkk := hide hkk
        go_wp2
        go_ret
        exact ⟨by rw [heq.out]; rfl, Bel.drN hbW _⟩
  · have l3 : ((la.length : Int) != lb.length) = true := by simp; omega
    have hne : decide (la = lb) = false := by
      apply decide_eq_false
      intro h
      exact hl (by rw [h])
    rw [hne]
    clear hl hne
    go_enter Try.func14, Try.ntmps14
    go_wp2
    go_ret
    exact ⟨rfl, Bel.al (Bel.al (Below.refl _ _) _) _⟩

theorem same_nats (va vb : Value) (m n : Nat) (w : World) (ha : NV w va m) (hb : NV w vb n) :
    Calls Try.prog 14 #[.agg #[va], .agg #[vb]] w (BoolB (decide (m = n)) w) := by
  have h : decide (m = n) = decide (limbs m = limbs n) := by
    rw [decide_eq_decide]
    exact ⟨fun h => by rw [h], limbs_inj⟩
  rw [h]
  exact same_lists va vb _ _ w ha hb

set_option maxHeartbeats 1000000 in
set_option maxRecDepth 100000 in
theorem ref_of (n : Nat) (w : World) (h : n < 18446744073709551616) :
    Calls Try.prog 31 #[.int .u64 (n : Int)] w (SomeNat n w) := by
  go_enter Try.func31, Try.ntmps31
  go_wp2
  obtain ⟨W, hW⟩ : ∃ W, W = (w.alloc (Obj.cells #[.slice none 0 0] 24)).alloc (Obj.cells #[.slice none 0 0] 24) := ⟨_, rfl⟩
  have b0 : W.cell? ⟨w.heap.size, 0, none⟩ = some (.slice none 0 0) := by rw [hW]; go_simp
  have b1 : Row W (w.heap.size + 1) 24 [.slice none 0 0] := by
    rw [hW]
    have := Row.newOf (w := w.alloc (Obj.cells #[.slice none 0 0] 24)) (c := #[.slice none 0 0]) (cs := [.slice none 0 0]) 24 rfl
    simpa using this
  have g0 : W.frozen? ⟨w.heap.size, 0, none⟩ = false := by rw [hW]; go_simp
  have hbW : Below w.heap.size w W := by rw [hW]; exact Bel.al (Bel.al (Below.refl _ _) _) _
  rw [← hW]
  clear hW
  have hstart := hide (show ([] : List Nat) ++ limbs n = limbs n from rfl)
  go_loopw [0] (fun t wr => ∃ (m : Nat) (A : List Nat) (ao : Option Addr) (cap : Nat), t = .int .u64 m ∧ m < 18446744073709551616 ∧ Hid (A ++ limbs m = limbs n) ∧ A.length ≤ 100 - (limbs m).length ∧ (limbs m).length ≤ 2 ∧ wr.cell? ⟨w.heap.size, 0, none⟩ = some (.slice none 0 0) ∧ wr.frozen? ⟨w.heap.size, 0, none⟩ = false ∧
      Row wr (w.heap.size + 1) 24 [.slice ao A.length cap] ∧ Own U32 wr (w.heap.size + 1 + 1) 56 (.slice ao A.length cap) A ∧ Below w.heap.size w wr ∧ w.heap.size + 1 < wr.heap.size) (fun t _ => (intOf t).toNat)
  case atStart =>
    refine ⟨n, [], none, 0, rfl, h, hstart, ?_, ?_, b0, g0, b1, Own.nil _ _ _, hbW, b1.lt⟩
    · have : (limbs n).length ≤ 2 := length_limbs_lt.1 (by have : (4294967296 : Nat) ^ 2 = 18446744073709551616 := by decide
                                                           omega)
      simp
    · exact length_limbs_lt.1 (by have : (4294967296 : Nat) ^ 2 = 18446744073709551616 := by decide
                                  omega)
  case round =>
    obtain ⟨m, A, ao, cap, rfl, hm, hE, hA, hl2, c0, f0, hrow, hown, hbel, hsz⟩ := hrel
    have d1 := hrow.cell (i := 0) (by simp)
    have e1 := hrow.frozen 0
    simp only [List.getElem_cons_zero] at d1
    by_cases hm0 : m = 0
    · subst hm0
      have hE2 := hE.out
      rw [limbs_zero, List.append_nil] at hE2
      have hnv : NV wr (.slice ao A.length cap) n := by show Rd _ _ _ _; rw [← hE2]; exact hown.rd
      have hfin := hnv.setNe c0 (fun _ h => by cases h) (.slice ao A.length cap)
      have hbel2 := Bel.st hbel (p := ⟨w.heap.size, 0, none⟩) (Nat.le_refl _) (.slice ao A.length cap)
      clear hE2 hE hA
      go_wp2
      refine bodyPost_ret (v := .agg #[.slice ao A.length cap]) (by simp [results, Try.results31, go_sem, c0]) rfl ⟨_, rfl, hfin, hbel2⟩
    · have hlp := limbs_pos hm0
      have hmpos : (0 : Int) < (m : Int) := by omega
      have hE2 := hE.out
      rw [hlp] at hE2 hA hl2
      simp only [List.length_cons] at hA hl2
      have hE3 := hide (show (A ++ [m % 4294967296]) ++ limbs (m / 4294967296) = limbs n by rw [List.append_assoc]; exact hE2)
      replace hlp := hide hlp
      clear hE2 hE hstart
      go_wp2_with (with_reducible refine wpList_append_rd _ rfl _ _ 22 rfl (V := U32) (fun _ => rfl) (w.heap.size + 1 + 1) 56 (.int .u32 0) 4 Try.underlying22 infoU32 rfl _ A rfl (hown.alloc _) _ [m % 4294967296] rfl ?_ ?_ ?_ ?_ ?_)
      case refine_1 => exact Rd.new _ rfl rfl (Nat.le_refl _) (by decide) (by simp)
      case refine_2 => simp; omega
      case refine_3 => simp; omega
      case refine_4 => simp; omega
      intro v4 w4 hown4 hg4 hv4
      have hne1 : some (w.heap.size + 1) ≠ (Value.slice ao A.length cap).ownBlock := fun he => by
        have := (hown.lt _ he.symm).1; omega
      have hne0 : some (w.heap.size) ≠ (Value.slice ao A.length cap).ownBlock := fun he => by
        have := (hown.lt _ he.symm).1; omega
      have hrow4 := (hrow.alloc (Obj.cells #[Value.int IntKind.u32 ((m : Int) % 4294967296)] 56)).grown hg4 hne1
      have c4 : w4.cell? ⟨w.heap.size, 0, none⟩ = some (.slice none 0 0) := hg4.cell (cell_alloc c0 _) hne0
      have f4 : w4.frozen? ⟨w.heap.size, 0, none⟩ = false := by
        rw [World.frozen?_of_block (hg4.block w.heap.size (by simp; omega) hne0)]
        exact frozen_alloc c0 f0 _
      have hb4 : Below w.heap.size w w4 := (Bel.al hbel _).grown hg4 (by simp; omega) (fun g hg => by have := (hown.lt g hg).1; omega)
      have hsz4 : w.heap.size + 1 < w4.heap.size := by have := hg4.size; simp at this; omega
      obtain ⟨ao4, cap4, rfl⟩ := hown4.shape
      have hl1 : (A ++ [m % 4294967296]).length = A.length + 1 := by simp
      rw [hl1] at hown4
      have d4 := hrow4.cell (i := 0) (by simp)
      have e4 := hrow4.frozen 0
      simp only [List.getElem_cons_zero] at d4
      have hown5 := hown4.farRow hrow4 (by decide) 0 (.slice ao4 (A.length + 1) cap4)
      have hrow5 := hrow4.set 0 (.slice ao4 (A.length + 1) cap4)
      have c5 := cell_far (p := ⟨w.heap.size + 1, 0, none⟩) c4 (by simp) (.slice ao4 (A.length + 1) cap4)
      replace hl1 := hide hl1
      have hb5 := Bel.st hb4 (p := ⟨w.heap.size + 1, 0, none⟩) (by simp) (.slice ao4 (A.length + 1) cap4)
      go_wp2
      go_roundw
      case rel =>
        refine ⟨m / 4294967296, A ++ [m % 4294967296], ao4, cap4, by go_num, by omega, hE3, ?_, ?_, c5, ?_, by rw [hl1.out]; exact hrow5, by rw [hl1.out]; exact hown5, hb5, ?_⟩
        · rw [List.length_append, List.length_singleton]; omega
        · omega
        · rw [World.frozen?_of_block (w := w4) (Below.heap_setCell _ _ _ _ (by simp))]; exact f4
        · simpa [World.setCell] using hsz4
      case measure => simp [intOf]; omega
end Go.Proofs.Ytompjmcbfgckiaa

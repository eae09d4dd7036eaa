/- nat.trimmed, nat.Of, nat.Valid, nat.bounded: contracts. Conditions: as stated in each. -/
import Derived.Test.YtlppomkpmnpmcaaGreatMem
import Derived.Test.YtlppomkpmnpmcaaGreatNat
import Derived.Test.YtlppomkpmnpmcaaGreatProg
import Derived.Outline
set_option linter.unusedVariables false
set_option linter.unusedSimpArgs false
namespace Go.Proofs.YtlppomkpmnpmcaaGreat
open Go.RowKit

/-- A number: the slice value reads as its limbs. -/
def NV (w : World) (v : Value) (n : Nat) : Prop := Rd U32 w v (limbs n)

def SomeNat (n : Nat) (w : World) (e : Ending) (w' : World) : Prop := ∃ v, e = .returned (.agg #[v]) ∧ NV w' v n ∧ Below w.heap.size w w'

/-- A number r and OK; where it has more than 64 limbs, 0 and ErrOverflow. -/
def Nat2 (r : Nat) (w : World) (e : Ending) (w' : World) : Prop := ∃ (u : Value) (c : Int), e = .returned (.tuple #[.agg #[u], .int .i64 c]) ∧ Hid (c = if (limbs r).length ≤ 64 then 0 else 9) ∧ NV w' u (if (limbs r).length ≤ 64 then r else 0) ∧ Below w.heap.size w w'

theorem trimmed (v : Value) (l : List Nat) (w : World) (h : Rd U32 w v l) (hs : Small l) :
    Calls Tryz.prog 79 #[v] w (SomeNat (val l) w) := by
  obtain ⟨ao, cap, rfl, hlc, hcm, hr⟩ := h.form
  have hcm : cap ≤ 9223372036854775807 := by unfold maxLen at hcm; omega
  go_enter Tryz.func79, Tryz.ntmps79
  go_wp2
  go_loop [3] (fun t => ∃ n : Nat, n ≤ l.length ∧ t = .int .i64 n ∧ Hid (val (l.take n) = val l)) (fun t => (intOf t).toNat)
  case atStart => exact ⟨l.length, Nat.le_refl _, rfl, by show val (l.take l.length) = val l; rw [List.take_length]⟩
  case round =>
    obtain ⟨n, hn, rfl, hv⟩ := hrel
    by_cases h0 : n = 0
    · subst h0
      have HZ := hide (show val l = 0 by rw [← hv.out]; simp [val])
      clear hv
      go_wp2
      refine bodyPost_ret (v := .agg #[.slice none 0 0]) (by simp [results, Tryz.results79, go_sem]) rfl ⟨_, rfl, ?_, (Below.refl _ _).alloc (Nat.le_refl _) _⟩
      show Rd U32 _ _ (limbs (val l))
      rw [HZ.out, limbs_zero]
      exact Rd.nil
    · have hk : n - 1 < l.length := by omega
      obtain ⟨b, off, rfl, hb, hc⟩ := hr.at_ hk
      have hc1 := hc (n - 1) hk
      clear hc
      by_cases h1 : l[n - 1] = 0
      · have hn1 : Hid (val (l.take (n - 1)) = val l) := by
          show _ = _
          rw [← hv.out]
          have := val_take_succ l (n - 1) hk
          rw [h1, Nat.sub_add_cancel (by omega)] at this
          rw [this]; simp
        have h1' : ((l[n - 1] : Nat) : Int) = 0 := by omega
        go_wp2
        go_round
        case rel => exact ⟨n - 1, by omega, by go_num, hn1⟩
        case measure => simp [intOf]; omega
      · have h1' : (((l[n - 1] : Nat) : Int) == 0) = false := by simpa using h1
        have hl := limbs_take hs (by omega : 0 < n) hn h1
        rw [hv.out] at hl
        have HL := hide hl
        have hcut := hr.take (n := n) (c := n) rfl hn (Nat.le_refl _) (by unfold maxLen; omega)
        clear h1 hl hv
        go_wp2
        refine bodyPost_ret (v := .agg #[.slice (some ⟨b, off, none⟩) n n]) (by simp [results, Tryz.results79, go_sem]) rfl ⟨_, rfl, ?_, (Below.refl _ _).alloc (Nat.le_refl _) _⟩
        show Rd U32 _ _ (limbs (val l))
        rw [HL.out]
        exact hcut.alloc _

/-- nat.Valid at a number in form. -/
theorem valid (v : Value) (n : Nat) (w : World) (h : NV w v n) (hn : (limbs n).length ≤ 64) :
    Calls Tryz.prog 80 #[.agg #[v]] w fun e w' => e = .returned (.bool true) ∧ Below w.heap.size w w' := by
  obtain ⟨ao, cap, rfl, hlc, hcm, hr⟩ := Rd.form h
  have hcm : cap ≤ 9223372036854775807 := by unfold maxLen at hcm; omega
  by_cases h0 : (limbs n).length = 0
  · go_enter Tryz.func80, Tryz.ntmps80
    go_wp2
    go_ret
    exact ⟨rfl, (Below.refl _ _).alloc (Nat.le_refl _) _⟩
  · have hl := limbs_last (n := n) (by omega)
    have hk : (limbs n).length - 1 < (limbs n).length := by omega
    obtain ⟨b, off, rfl, hb, hc⟩ := hr.at_ hk
    have hc1 := hc _ hk
    clear hc
    have hx : ((((limbs n)[(limbs n).length - 1] : Nat) : Int) != 0) = true := by simpa using hl
    clear hl
    go_enter Tryz.func80, Tryz.ntmps80
    go_wp2
    go_ret
    exact ⟨rfl, (Below.refl _ _).alloc (Nat.le_refl _) _⟩

/-- nat.bounded of limbs. -/
theorem bounded (v : Value) (l : List Nat) (w : World) (h : Rd U32 w v l) (hs : Small l) :
    Calls Tryz.prog 81 #[v] w (Nat2 (val l) w) := by
  go_enter Tryz.func81, Tryz.ntmps81
  go_wp2_with fail
  refine (trimmed _ l _ (h.alloc _) hs).mono ?_
  rintro e w1 ⟨u, rfl, hu, hb⟩
  obtain ⟨hc, hf⟩ := bcell hb
  have hz : w.heap.size < w1.heap.size := by have := hb.size; simp at this; omega
  obtain ⟨ao, cap, rfl, hlc, hcm, hr⟩ := Rd.form hu
  have hc0 : w1.cell? ⟨w.heap.size, 0, none⟩ = some (.slice none 0 0) := by rw [hc _ _ (by simp)]; simp
  have hb0 := Bel.one _ hb
  by_cases h64 : (limbs (val l)).length ≤ 64
  · have hu' := (hu.setNe hc0 (fun _ h => by cases h) (Value.slice ao (limbs (val l)).length cap)).alloc (Obj.cells #[Value.slice ao (limbs (val l)).length cap] 60)
    go_wp2
    refine bodyPost_ret (v := .tuple #[.agg #[.slice ao (limbs (val l)).length cap], .int .i64 0]) (by simp [results, Tryz.results81, go_sem, hc0, hz]) rfl ⟨_, _, rfl, by show _ = _; rw [if_pos h64], by rw [if_pos h64]; exact hu', Bel.al (Bel.st hb0 (Nat.le_refl _) _) _⟩
  · go_wp2
    refine bodyPost_ret (v := .tuple #[.agg #[.slice none 0 0], .int .i64 9]) (by simp [results, Tryz.results81, go_sem, hc0, hz]) rfl ⟨_, _, rfl, by show _ = _; rw [if_neg h64], ?_, Bel.al (Bel.st hb0 (Nat.le_refl _) _) _⟩
    rw [if_neg h64]
    show Rd U32 _ _ (limbs 0)
    rw [limbs_zero]
    exact Rd.nil
end Go.Proofs.YtlppomkpmnpmcaaGreat

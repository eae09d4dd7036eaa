/- nat.Uint and comb.narrow. -/
import Derived.Test.YtlppomkpmnpmcaaGreatChoose
import Derived.Test.YtlppomkpmnpmcaaGreatBits
open Go.RowKit
set_option linter.unusedVariables false
set_option linter.unusedSimpArgs false
namespace Go.Proofs.YtlppomkpmnpmcaaGreat

def UintR (x : Nat) (b : Bool) (w : World) (e : Ending) (w' : World) : Prop := e = .returned (.tuple #[.int .u64 x, .bool b]) ∧ Below w.heap.size w w'

set_option maxHeartbeats 1000000 in
theorem uint_no (v : Value) (n : Nat) (w : World) (h : NV w v n) (hn : (limbs n).length ≤ 64) (h2 : 2 < (limbs n).length) :
    Calls Tryz.prog 52 #[.agg #[v]] w (UintR 0 false w) := by
  obtain ⟨ao, cap, rfl, hlc, hcm, hr⟩ := Rd.form h
  go_enter Tryz.func52, Tryz.ntmps52
  go_wp2_with fail
  refine (valid _ n _ (by exact h.alloc _) hn).mono ?_
  rintro e w1 ⟨rfl, hb1⟩
  have c1 : w1.cell? ⟨w.heap.size, 0, none⟩ = some (.slice ao (limbs n).length cap) := Bel.cellOf hb1 (by go_simp)
  go_wp2
  go_ret2
  exact ⟨rfl, Bel.one _ hb1⟩

set_option maxHeartbeats 1000000 in
theorem uint_yes (v : Value) (n : Nat) (w : World) (h : NV w v n) (h2 : (limbs n).length ≤ 2) :
    Calls Tryz.prog 52 #[.agg #[v]] w (UintR n true w) := by
  have hv := hide (val_limbs n)
  obtain ⟨ao, cap, rfl, hlc, hcm, hr⟩ := Rd.form h
  have hs := small_limbs n
  go_enter Tryz.func52, Tryz.ntmps52
  go_wp2_with fail
  refine (valid _ n _ (by exact h.alloc _) (by omega)).mono ?_
  rintro e w1 ⟨rfl, hb1⟩
  have c1 : w1.cell? ⟨w.heap.size, 0, none⟩ = some (.slice ao (limbs n).length cap) := Bel.cellOf hb1 (by go_simp)
  have hbw := Bel.one _ hb1
  clear hb1 h
  obtain ⟨l, hl⟩ : ∃ l, l = limbs n := ⟨_, rfl⟩
  rw [← hl] at hr hs h2 hlc c1 hv ⊢
  clear hl
  go_wp2
  go_loop [4, 19] (fun t i => ∃ k : Nat, k ≤ l.length ∧ i = .int .i64 k ∧ t = .int .u64 (val (l.take k))) (fun _ i => l.length - (intOf i).toNat)
  case atStart => exact ⟨0, Nat.zero_le _, rfl, rfl⟩
  case round =>
    obtain ⟨k, hk, rfl, rfl⟩ := hrel
    by_cases hkl : k < l.length
    · obtain ⟨b, off, rfl, hb, hc⟩ := hr.at_ hkl
      have d1 := Bel.cellOf hbw (hc k hkl)
      have hx := small_get hs hkl
      have hts := val_take_succ l k hkl
      clear hc
      by_cases hk0 : k = 0
      · subst hk0
        have e1 : val (l.take (0 + 1)) = l[0] := by rw [hts]; simp [val]
        have e0 : val (l.take 0) = 0 := by simp [val]
        replace e1 := hide e1
        rw [e0]
        have ho := or_zero hx
        simp only [Nat.add_zero] at d1
        clear hts e0
        go_wp2
        go_round
        case rel => exact ⟨0 + 1, by omega, by go_num, by rw [e1.out]⟩
        case measure => simp [intOf]; omega
      · obtain rfl : k = 1 := by omega
        have e0 : val (l.take 1) = l[0] := by rw [val_take_succ l 0 (by omega)]; simp [val]
        have hx0 := small_get hs (i := 0) (by omega)
        have ho := or_high hx0 hx
        have e1 : val (l.take (1 + 1)) = l[0] + 4294967296 * l[1] := by rw [hts, e0]
        replace e1 := hide e1
        rw [e0]
        clear hts e0
        go_wp2
        go_round
        case rel => exact ⟨1 + 1, by omega, by go_num, by rw [e1.out]; simp⟩
        case measure => simp [intOf]; omega
    · have ek : k = l.length := by omega
      subst ek
      rw [List.take_length, hv.out]
      go_wp2
      go_ret2
      exact ⟨rfl, hbw⟩

/-- An int and an error code; old memory is as it was. -/
def IntC (x c : Int) (w : World) (e : Ending) (w' : World) : Prop := e = .returned (.tuple #[.int .i64 x, .int .i64 c]) ∧ Below w.heap.size w w'

theorem narrow_ok (v : Value) (n : Nat) (w : World) (h : NV w v n) (hn : n ≤ 9223372036854775807) :
    Calls Tryz.prog 32 #[.agg #[v]] w (IntC n 0 w) := by
  obtain ⟨ao, n0, cap, rfl⟩ := Rd.shape h
  have hl : (limbs n).length ≤ 2 := length_limbs_lt.1 (by have : (4294967296 : Nat) ^ 2 = 18446744073709551616 := by decide
                                                          omega)
  go_enter Tryz.func32, Tryz.ntmps32
  go_wp2_with fail
  refine (uint_yes _ n _ (by exact h.alloc _) hl).mono ?_
  rintro e w1 ⟨rfl, hb1⟩
  go_wp2
  go_ret2
  exact ⟨rfl, Bel.one _ hb1⟩

theorem narrow_over (v : Value) (n : Nat) (w : World) (h : NV w v n) (hl : (limbs n).length ≤ 64) (hn : 9223372036854775807 < n) :
    Calls Tryz.prog 32 #[.agg #[v]] w (IntC 0 9 w) := by
  obtain ⟨ao, n0, cap, rfl⟩ := Rd.shape h
  by_cases hl2 : (limbs n).length ≤ 2
  · have hlt := length_limbs_lt.2 hl2
    have : (4294967296 : Nat) ^ 2 = 18446744073709551616 := by decide
    rw [this] at hlt
    clear this
    go_enter Tryz.func32, Tryz.ntmps32
    go_wp2_with fail
    refine (uint_yes _ n _ (by exact h.alloc _) hl2).mono ?_
    rintro e w1 ⟨rfl, hb1⟩
    go_wp2
    go_ret2
    exact ⟨rfl, Bel.one _ hb1⟩
  · go_enter Tryz.func32, Tryz.ntmps32
    go_wp2_with fail
    refine (uint_no _ n _ (by exact h.alloc _) hl (by omega)).mono ?_
    rintro e w1 ⟨rfl, hb1⟩
    go_wp2
    go_ret2
    exact ⟨rfl, Bel.one _ hb1⟩
end Go.Proofs.YtlppomkpmnpmcaaGreat

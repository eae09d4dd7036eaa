/- The walk of the statement CombSums. -/
import Derived.Test.YtompjmcbfgckiaaAwake
import Derived.Test.YtompjmcbfgckiaaVand
open Go.RowKit
set_option linter.unusedVariables false
set_option linter.unusedSimpArgs false
namespace Go.Proofs.Ytompjmcbfgckiaa

set_option maxHeartbeats 1000000 in
theorem sums_bad (n k d : Int) (w : World) (hb : ((countV n k).2 != 0) = true ∨ ((countV n k).2 != 0) = false ∧ (d < 0 ∨ n < d)) :
    Calls Try.prog 9 #[.int .i64 n, .int .i64 k, .int .i64 d] w (BoolB true w) := by
  have hc := count_any n k w
  obtain ⟨x, c, hxc⟩ : ∃ x c, countV n k = (x, c) := ⟨_, _, rfl⟩
  rw [hxc] at hc hb
  simp only at hc hb
  have HC := hide hc
  clear hc hxc
  rcases hb with hb | ⟨hb, hd⟩
  · go_enter Try.func9, Try.ntmps9
    go_wp2_with fail
    refine (HC.out).mono ?_
    rintro e w1 ⟨rfl, hb1⟩
    go_wp2_with fail
    refine (awake_any _).mono ?_
    rintro e w2 ⟨rfl, hb2⟩
    go_wp2
    go_ret
    exact ⟨rfl, Bel.to hb1 hb2⟩
  · by_cases hd0 : d < 0
    all_goals
      first | (have hd1 : n < d := by omega) | skip
      clear hd
      go_enter Try.func9, Try.ntmps9
      go_wp2_with fail
      refine (HC.out).mono ?_
      rintro e w1 ⟨rfl, hb1⟩
      go_wp2_with fail
      refine (awake_any _).mono ?_
      rintro e w2 ⟨rfl, hb2⟩
      go_wp2
      go_ret
      exact ⟨rfl, Bel.to hb1 hb2⟩

/-- The terms f h for h from 0 to d add up to C. -/
def partSum (f : Nat → Nat) : Nat → Nat
  | 0 => 0
  | t + 1 => partSum f t + f t

theorem partSummono (f : Nat → Nat) {s t : Nat} (h : s ≤ t) : partSum f s ≤ partSum f t := by
  induction t with
  | zero => obtain rfl : s = 0 := by omega
            exact Nat.le_refl _
  | succ t ih =>
    rcases Nat.lt_or_ge t s with h1 | h1
    · obtain rfl : s = t + 1 := by omega
      exact Nat.le_refl _
    · have := ih h1
      simp only [partSum]
      omega

set_option maxHeartbeats 2000000 in
set_option maxRecDepth 100000 in
theorem sums_good (n k : Int) (d C : Nat) (f : Nat → Nat) (w : World) (hc : countV n k = ((C : Int), 0)) (hC : C ≤ 9223372036854775807) (hd : (d : Int) ≤ n) (hn : n ≤ 80)
    (hf : ∀ h : Nat, h ≤ d → hitsV n k d h = ((f h : Int), 0)) (hs : partSum f (d + 1) = C) :
    Calls Try.prog 9 #[.int .i64 n, .int .i64 k, .int .i64 (d : Int)] w (BoolB true w) := by
  have hct := count_any n k w
  rw [hc] at hct
  have HC := hide hct
  have HF := hide hf
  have HS := hide hs
  clear hct hc hf hs
  go_enter Try.func9, Try.ntmps9
  go_wp2_with fail
  refine (HC.out).mono ?_
  rintro e w1 ⟨rfl, hb1⟩
  go_wp2
  go_loopw [9, 10] (fun l h wr => ∃ (t L : Nat), t ≤ d + 1 ∧ h = .int .i64 t ∧ l = .int .i64 L ∧ L ≤ C ∧ Hid (L + partSum f t = C) ∧ Below w.heap.size w wr) (fun _ h _ => d + 1 - (intOf h).toNat)
  case atStart => exact ⟨0, C, Nat.zero_le _, rfl, rfl, Nat.le_refl _, by show _ = _; simp [partSum], hb1⟩
  case round =>
    obtain ⟨t, L, ht, rfl, rfl, hL, hP, hbel⟩ := hrel
    by_cases htd : t ≤ d
    · have hff := HF.out t htd
      have hm := partSummono f (show t + 1 ≤ d + 1 by omega)
      have hPo := hP.out
      have hso := HS.out
      simp only [partSum] at hm hso
      obtain ⟨x, hx⟩ : ∃ x, x = f t := ⟨_, rfl⟩
      rw [← hx] at hff hm
      have hxL : x ≤ L := by omega
      have hnew := hide (show (L - x) + partSum f (t + 1) = C by simp only [partSum]; rw [← hx]; omega)
      replace hff := hide hff
      clear hm hPo hso hx
      go_wp2_with fail
      refine (hits_any _ _ _ _ _).mono ?_
      rintro e w2 ⟨rfl, hb2⟩
      rw [hff.out]
      go_wp2
      go_roundw
      case rel => exact ⟨t + 1, L - x, by omega, by go_num, by go_num, by omega, hnew, Bel.to hbel hb2⟩
      case measure => simp [intOf]; omega
    · have htt : t = d + 1 := by omega
      subst htt
      have hL0 : L = 0 := by have := hP.out; have := HS.out; omega
      subst hL0
      go_wp2_with fail
      refine (awake_any _).mono ?_
      rintro e w2 ⟨rfl, hb2⟩
      go_wp2
      go_ret
      exact ⟨rfl, Bel.to hbel hb2⟩

theorem partSumsumV (n k d t : Nat) : partSum (termV n k d) t = sumV d (n - d) k t := by
  induction t with
  | zero => rfl
  | succ t ih => simp only [partSum, sumV_succ, ih]; rfl

theorem sums_any (n k d : Int) (w : World) : Calls Try.prog 9 #[.int .i64 n, .int .i64 k, .int .i64 d] w (BoolB true w) := by
  by_cases hn : 0 ≤ n ∧ n ≤ 80
  · by_cases hx : chooseI n k ≤ 9223372036854775807
    · have hc : countV n k = ((chooseI n k : Int), 0) := by unfold countV; rw [if_pos hn, if_pos hx]
      by_cases hd : d < 0 ∨ n < d
      · exact sums_bad n k d w (.inr ⟨by rw [hc]; rfl, hd⟩)
      · obtain ⟨d, rfl⟩ := Int.eq_ofNat_of_zero_le (show 0 ≤ d by omega)
        by_cases hk : k < 0 ∨ n < k
        · have h0 : chooseI n k = 0 := by
            unfold chooseI
            by_cases h : k < 0
            · rw [if_pos h]
            · rw [if_neg h, choose_gt (by omega)]
          refine sums_good n k d 0 (fun _ => 0) w (by rw [hc, h0]) (by omega) (by omega) hn.2 (fun h hh => ?_) ?_
          · have : hitsN n k d h = 0 := by unfold hitsN; rw [if_pos (by omega)]
            unfold hitsV
            rw [if_pos (by omega), this, if_pos (by omega)]
          · have : ∀ t, partSum (fun _ => 0) t = 0 := by
              intro t
              induction t with
              | zero => rfl
              | succ t ih => simp only [partSum, ih]
            exact this _
        · obtain ⟨n, rfl⟩ := Int.eq_ofNat_of_zero_le hn.1
          obtain ⟨k, rfl⟩ := Int.eq_ofNat_of_zero_le (show 0 ≤ k by omega)
          rw [chooseI_nat n k n k rfl rfl] at hx hc
          have hv := vand d (n - d) k
          rw [show d + (n - d) = n by omega] at hv
          refine sums_good n k d (choose n k) (termV n k d) w hc hx (by omega) hn.2 (fun h hh => ?_) (by rw [partSumsumV, hv])
          have h1 := hitsN_nat n k d h (by omega) (by omega) hh
          have h2 := sumV_mono d (n - d) k (show h + 1 ≤ d + 1 by omega)
          rw [hv, sumV_succ] at h2
          have h3 : termV n k d h ≤ choose n k := by unfold termV; omega
          unfold hitsV
          rw [if_pos (by omega), h1, if_pos (by omega)]
    · refine sums_bad n k d w (.inl ?_)
      have : countV n k = (0, 9) := by unfold countV; rw [if_pos hn, if_neg hx]
      rw [this]; rfl
  · refine sums_bad n k d w (.inl ?_)
    have : countV n k = (0, 2) := by unfold countV; rw [if_neg hn]
    rw [this]; rfl
end Go.Proofs.Ytompjmcbfgckiaa

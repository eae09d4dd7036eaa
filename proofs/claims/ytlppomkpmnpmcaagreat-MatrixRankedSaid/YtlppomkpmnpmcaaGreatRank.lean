/- comb.check, comb.Rank. -/
import Derived.Test.YtlppomkpmnpmcaaGreatCount
import Derived.Test.YtlppomkpmnpmcaaGreatCombLaw
open Go.RowKit
set_option linter.unusedVariables false
set_option linter.unusedSimpArgs false
namespace Go.Proofs.YtlppomkpmnpmcaaGreat

theorem drop_len {α : Type} {l : List α} {k : Nat} (h : ¬ k < l.length) : l.drop k = [] := List.drop_of_length_le (by omega)

set_option maxHeartbeats 1000000 in
theorem check_any (v : Value) (l : List Int) (n : Int) (w : World) (h : Rd I64 w v l) : Calls Tryz.prog 30 #[v, .int .i64 n] w (Pure (.int .i64 (checkL n 0 l)) w) := by
  obtain ⟨ao, cap, rfl, hlc, hcm, hr⟩ := Rd.form h
  have hcm' : cap ≤ 9223372036854775807 := by unfold maxLen at hcm; omega
  go_enter Tryz.func30, Tryz.ntmps30
  go_wp2
  go_loop [5, 10] (fun t i => ∃ (k : Nat) (last : Int), k ≤ l.length ∧ i = .int .i64 k ∧ t = .int .i64 last ∧ Hid (checkL n last (l.drop k) = checkL n 0 l)) (fun _ i => l.length - (intOf i).toNat)
  case atStart => exact ⟨0, 0, Nat.zero_le _, rfl, rfl, rfl⟩
  case round =>
    obtain ⟨k, last, hk, rfl, rfl, hv⟩ := hrel
    by_cases hkl : k < l.length
    · obtain ⟨b, off, rfl, hb, hc⟩ := hr.at_ hkl
      have d1 := hc k hkl
      have hv1 := hv.out
      rw [List.drop_eq_getElem_cons hkl, checkL] at hv1
      clear hc hv
      by_cases h1 : l[k] < 1
      · rw [if_pos (.inl h1)] at hv1
        have hv2 := hide hv1
        clear hv1
        go_wp2
        go_ret
        exact ⟨by rw [← hv2.out]; rfl, rfl⟩
      · by_cases h2 : n < l[k]
        · rw [if_pos (.inr h2)] at hv1
          have hv2 := hide hv1
          clear hv1
          go_wp2
          go_ret
          exact ⟨by rw [← hv2.out]; rfl, rfl⟩
        · rw [if_neg (by omega)] at hv1
          by_cases h3 : l[k] ≤ last
          · rw [if_pos h3] at hv1
            have hv2 := hide hv1
            clear hv1
            go_wp2
            go_ret
            exact ⟨by rw [← hv2.out]; rfl, rfl⟩
          · rw [if_neg h3] at hv1
            have hv2 := hide hv1
            clear hv1
            go_wp2
            go_round
            case rel => exact ⟨k + 1, l[k], by omega, by go_num, rfl, hv2⟩
            case measure => simp [intOf]; omega
    · have hv1 := hv.out
      rw [drop_len hkl, checkL] at hv1
      have hv2 := hide hv1
      clear hv1 hv
      go_wp2
      go_ret
      exact ⟨by rw [← hv2.out]; rfl, rfl⟩

theorem chooseI_nat (a b : Nat) (x y : Int) (hx : x = a) (hy : y = b) : chooseI x y = choose a b := by
  subst hx hy
  unfold chooseI
  rw [if_neg (by omega), Int.toNat_natCast, Int.toNat_natCast]

theorem sumC_succ (n j a d : Nat) : sumC n j a (d + 1) = sumC n j a d + choose (n - (a + d + 1)) j := rfl

theorem choose_tail {n w j : Nat} (h : w < n) : choose (n - (w + 1)) j ≤ choose (n - w) (j + 1) ∧ choose (n - w) (j + 1) = choose (n - (w + 1)) j + choose (n - (w + 1)) (j + 1) := by
  obtain ⟨m, hm⟩ : ∃ m, n - w = m + 1 := ⟨n - w - 1, by omega⟩
  rw [hm, choose_succ, show n - (w + 1) = m by omega]
  omega

set_option maxHeartbeats 2000000 in
set_option maxRecDepth 100000 in
theorem rank_ok (v : Value) (l : List Int) (n : Nat) (w : World) (h : Rd I64 w v l) (hn : n ≤ 80) (hchk : checkL n 0 l = 0) (hct : choose n l.length ≤ 9223372036854775807) :
    Calls Tryz.prog 14 #[v, .int .i64 (n : Int)] w (IntC (rankL n 0 l) 0 w) := by
  have hd : decide (0 ≤ (n : Int) ∧ (n : Int) ≤ 80) = true := decide_eq_true (by omega)
  obtain ⟨ao, cap, rfl, hlc, hcm, hr⟩ := Rd.form h
  have hcm' : cap ≤ 9223372036854775807 := by unfold maxLen at hcm; omega
  go_enter Tryz.func14, Tryz.ntmps14
  go_wp2_with fail
  refine (known_any _ _).mono ?_
  rintro e w' ⟨rfl, rfl⟩
  rw [hd]
  clear hd
  go_wp2_with fail
  refine (check_any _ l _ _ (by exact hr)).mono ?_
  rintro e w' ⟨rfl, rfl⟩
  rw [hchk]
  replace hchk := hide hchk
  go_wp2_with fail
  refine (count_ok _ _ _ (by omega) (by rw [chooseI_nat n l.length _ _ rfl rfl]; exact hct)).mono ?_
  rintro e w1 ⟨rfl, hb1⟩
  go_wp2
  go_loopw [10, 11, 39] (fun r last i wr => ∃ (k R la : Nat), k ≤ l.length ∧ i = .int .i64 k ∧ r = .int .i64 R ∧ last = .int .i64 la ∧ la ≤ n ∧ Hid (checkL n la (l.drop k) = 0) ∧ Hid (R + rankL n la (l.drop k) = rankL n 0 l) ∧
      R + choose (n - la) (l.length - k) ≤ choose n l.length ∧ Below w.heap.size w wr) (fun _ _ i _ => l.length - (intOf i).toNat)
  case atStart => exact ⟨0, 0, 0, Nat.zero_le _, rfl, rfl, rfl, Nat.zero_le _, hchk, by show _ = _; rw [List.drop_zero]; omega, by simp, hb1⟩
  case round =>
    obtain ⟨k, R, la, hk, rfl, rfl, rfl, hla, hc1, hR, hB, hbel⟩ := hrel
    by_cases hkl : k < l.length
    · have hc2 := hc1.out
      have hR2 := hR.out
      rw [List.drop_eq_getElem_cons hkl] at hc2 hR2
      obtain ⟨q1, q2, q3, q4⟩ := checkL_cons hc2
      have hr2 := hr.below hbel
      obtain ⟨b, off, rfl, hb, hc⟩ := hr2.at_ hkl
      have d1 := hc k hkl
      obtain ⟨x, hx⟩ := Int.eq_ofNat_of_zero_le (show 0 ≤ l[k] by omega)
      rw [hx] at d1 q1 q2 q3 q4
      rw [rankL, hx, Int.toNat_natCast, List.length_drop] at hR2
      obtain ⟨j, hj⟩ : ∃ j, l.length - k = j + 1 := ⟨l.length - k - 1, by omega⟩
      rw [hj] at hB
      rw [show l.length - (k + 1) = j by omega] at hR2
      replace q4 := hide q4
      replace hR2 := hide hR2
      replace hj := hide hj
      clear hc hx hc2 hr2 hc1 hR
      go_wp2
      obtain ⟨wo, rfl⟩ : ∃ wo : World, wo = wr := ⟨_, rfl⟩
      go_loopw [10, 14] (fun r i wr => ∃ (d wv rv : Nat), la + d + 1 ≤ x ∧ wv ≤ la + d + 1 ∧ la + d + 1 ≤ wv ∧ i = .int .i64 wv ∧ r = .int .i64 rv ∧ Hid (rv = R + sumC n j la d) ∧ Below w.heap.size w wr) (fun _ i _ => x - (intOf i).toNat)
      case atStart => exact ⟨0, la + 1, R, by omega, by omega, by omega, by go_num, rfl, by show _ = _; simp [sumC], hbel⟩
      case round =>
        obtain ⟨d, wv, rv, hdx, hw1, hw2, rfl, rfl, hrv, hbel2⟩ := hrel
        have ht := sumC_tele (n := n) (j := j) (a := la) (d := d) (by omega)
        by_cases hlt : wv < x
        · obtain ⟨t1, t2⟩ := choose_tail (n := n) (w := la + d) (j := j) (by omega)
          have hss := sumC_succ n j la d
          have hci := chooseI_nat (n - (la + d + 1)) j ((n : Int) - (wv : Int)) ((l.length : Int) - k - 1) (by omega) (by have := hj.out; omega)
          have hrvo := hrv.out
          obtain ⟨C, hC⟩ : ∃ C, C = choose (n - (la + d + 1)) j := ⟨_, rfl⟩
          rw [← hC] at t1 t2 hss hci
          replace hC := hide hC
          have hb5 : rv + C ≤ 9223372036854775807 := by omega
          have hC5 : C ≤ 9223372036854775807 := by omega
          have hnew := hide (show rv + C = R + sumC n j la (d + 1) by omega)
          replace hci := hide hci
          clear ht t1 t2 hB hss hrvo
          go_wp2_with fail
          refine (count_ok _ _ _ (by omega) (by rw [hci.out]; exact hC5)).mono ?_
          rintro e w2 ⟨rfl, hb2⟩
          rw [hci.out]
          go_wp2
          go_roundw
          case rel => exact ⟨d + 1, wv + 1, rv + C, by omega, by omega, by omega, by go_num, by go_num, hnew, Bel.to hbel2 hb2⟩
          case measure => simp [intOf]; omega
        · have hex : x = la + d + 1 := by omega
          have h5 : x - 1 - la = d := by omega
          have hrvo := hrv.out
          obtain ⟨t1, t2⟩ := choose_tail (n := n) (w := la + d) (j := j) (by omega)
          have hR3 := hR2.out
          rw [h5] at hR3
          have hB2 : rv + choose (n - x) (l.length - (k + 1)) ≤ choose n l.length := by
            have := hj.out
            rw [show l.length - (k + 1) = j by omega, hex]
            omega
          have hnew := hide (show rv + rankL n x (l.drop (k + 1)) = rankL n 0 l by omega)
          clear t1 t2 hR3 hrvo ht hex h5
          go_wp2
          go_roundw
          case rel => exact ⟨k + 1, rv, x, by omega, by go_num, rfl, rfl, by omega, q4, hnew, hB2, hbel2⟩
          case measure => simp [intOf]; omega
    · have hR2 := hR.out
      rw [drop_len hkl, rankL] at hR2
      have hR3 := hide (show R = rankL n 0 l by omega)
      clear hR2 hR
      go_wp2
      go_ret2
      exact ⟨by rw [hR3.out]; rfl, hbel⟩

def rankV (n : Int) (l : List Int) : Int × Int :=
  if 0 ≤ n ∧ n ≤ 80 then (if checkL n 0 l ≠ 0 then (0, checkL n 0 l) else if choose n.toNat l.length ≤ 9223372036854775807 then (rankL n.toNat 0 l, 0) else (0, 9)) else (0, 2)

set_option maxHeartbeats 1000000 in
theorem rank_any (v : Value) (l : List Int) (n : Int) (w : World) (h : Rd I64 w v l) :
    Calls Tryz.prog 14 #[v, .int .i64 n] w (IntC (rankV n l).1 (rankV n l).2 w) := by
  unfold rankV
  by_cases hn : 0 ≤ n ∧ n ≤ 80
  · rw [if_pos hn]
    by_cases hc : checkL n 0 l = 0
    · rw [if_neg (by omega)]
      obtain ⟨n, rfl⟩ := Int.eq_ofNat_of_zero_le hn.1
      rw [Int.toNat_natCast]
      by_cases hx : choose n l.length ≤ 9223372036854775807
      · rw [if_pos hx]
        exact rank_ok v l n w h (by omega) hc hx
      · rw [if_neg hx]
        have hd : decide (0 ≤ (n : Int) ∧ (n : Int) ≤ 80) = true := decide_eq_true (by omega)
        obtain ⟨ao, cap, rfl, hlc, hcm, hr⟩ := Rd.form h
        go_enter Tryz.func14, Tryz.ntmps14
        go_wp2_with fail
        refine (known_any _ _).mono ?_
        rintro e w' ⟨rfl, rfl⟩
        rw [hd]
        clear hd
        go_wp2_with fail
        refine (check_any _ l _ _ (by exact hr)).mono ?_
        rintro e w' ⟨rfl, rfl⟩
        rw [hc]
        replace hc := hide hc
        go_wp2_with fail
        refine (count_over _ _ _ (by omega) (by rw [chooseI_nat n l.length _ _ rfl rfl]; omega)).mono ?_
        rintro e w1 ⟨rfl, hb1⟩
        clear hx
        go_wp2
        go_ret2
        exact ⟨rfl, hb1⟩
    · rw [if_pos hc]
      have hd : decide (0 ≤ n ∧ n ≤ 80) = true := decide_eq_true hn
      obtain ⟨ao, cap, rfl, hlc, hcm, hr⟩ := Rd.form h
      obtain ⟨c, hcc⟩ : ∃ c, c = checkL n 0 l := ⟨_, rfl⟩
      rw [← hcc] at hc ⊢
      replace hcc := hide hcc
      have hb : (c != 0) = true := by simpa using hc
      go_enter Tryz.func14, Tryz.ntmps14
      go_wp2_with fail
      refine (known_any _ _).mono ?_
      rintro e w' ⟨rfl, rfl⟩
      rw [hd]
      clear hd
      go_wp2_with fail
      refine (check_any _ l _ _ (by exact hr)).mono ?_
      rintro e w' ⟨rfl, rfl⟩
      rw [← hcc.out]
      go_wp2
      go_ret2
      exact ⟨rfl, Below.refl _ _⟩
  · rw [if_neg hn]
    have hd : decide (0 ≤ n ∧ n ≤ 80) = false := decide_eq_false hn
    obtain ⟨ao, cap, rfl, hlc, hcm, hr⟩ := Rd.form h
    clear hn
    go_enter Tryz.func14, Tryz.ntmps14
    go_wp2_with fail
    refine (known_any _ _).mono ?_
    rintro e w' ⟨rfl, rfl⟩
    rw [hd]
    go_wp2
    go_ret2
    exact ⟨rfl, Below.refl _ _⟩
end Go.Proofs.YtlppomkpmnpmcaaGreat

/- lotteryref05: Check, Rank. -/
import Derived.Test.YtompjmcbfgckiaaRefCount
import Derived.Deep.LoopGhost
open Go.RowKit
set_option linter.unusedVariables false
set_option linter.unusedSimpArgs false
namespace Go.Proofs.Ytompjmcbfgckiaa

def DrewB (v : Value) (w : World) (e : Ending) (w' : World) : Prop := e = .returned v ∧ Below w.heap.size w w'

/-- Elements before place k fit: the check goes on with the last of them. -/
theorem checkL_step (l : List Int) (n : Int) (k : Nat) (hk : k < l.length) (last : Int) (hlast : last = if k = 0 then 0 else l.getD (k - 1) 0) (hpos : k = 0 → 1 ≤ l[k] → last < l[k]) :
    (k = 0 → (l[k] < 1 ∨ n < l[k]) ∨ ¬ l[k] ≤ last) := by
  intro h
  by_cases h1 : l[k] < 1
  · exact .inl (.inl h1)
  · exact .inr (by have := hpos h (by omega); omega)

set_option maxHeartbeats 2000000 in
set_option maxRecDepth 100000 in
theorem rcheck_in (v : Value) (l : List Int) (n : Int) (w : World) (h : Rd I64 w v l) (hn : 0 ≤ n ∧ n ≤ 80) :
    Calls Try.prog 38 #[v, .int .i64 n] w (DrewB (.int .i64 (checkL n 0 l)) w) := by
  obtain ⟨ao, cap, rfl, hlc, hcm, hr⟩ := Rd.form h
  have hcm' : cap ≤ 9223372036854775807 := by unfold maxLen at hcm; omega
  go_enter Try.func38, Try.ntmps38
  go_wp2_with fail
  refine (in_yes _ _ _ hn.1 hn.2).mono ?_
  rintro e w' ⟨rfl, rfl⟩
  go_wp2
  go_loopw [5] (fun i wr => ∃ (k d : Nat) (last : Int), k ≤ l.length ∧ i = .int .i64 k ∧ wr = w.drewN d ∧ Hid (checkL n last (l.drop k) = checkL n 0 l) ∧ Hid (k = 0 → last = 0) ∧ Hid (0 < k → last = l.getD (k - 1) 0)) (fun i _ => l.length - (intOf i).toNat)
  case atStart => exact ⟨0, 0, 0, Nat.zero_le _, rfl, rfl, rfl, fun _ => rfl, fun h => absurd h (by omega)⟩
  case round =>
    obtain ⟨k, d, last, hk, rfl, rfl, hv, hl0, hl1⟩ := hrel
    by_cases hkl : k < l.length
    · obtain ⟨b, off, rfl, hb, hc⟩ := hr.at_ hkl
      have d1 := hc k hkl
      have hv1 := hv.out
      rw [List.drop_eq_getElem_cons hkl, checkL] at hv1
      have hnewl : 0 < k + 1 → l[k] = l.getD (k + 1 - 1) 0 := by
        intro _
        rw [Nat.add_sub_cancel, List.getD_eq_getElem?_getD, List.getElem?_eq_getElem hkl]; rfl
      have i1 : (0 : Int) ≤ (k : Int) := by omega
      have i2 : (k : Int) < (l.length : Int) := by omega
      by_cases h1 : l[k] < 1
      · rw [if_pos (.inl h1)] at hv1
        have hv2 := hide hv1
        clear hv1 hv hnewl hc
        go_wp2
        go_ret
        exact ⟨by rw [← hv2.out]; rfl, Bel.drN (Below.refl _ _) _⟩
      · by_cases h2 : n < l[k]
        · rw [if_pos (.inr h2)] at hv1
          have hv2 := hide hv1
          clear hv1 hv hnewl hc
          go_wp2
          go_ret
          exact ⟨by rw [← hv2.out]; rfl, Bel.drN (Below.refl _ _) _⟩
        · rw [if_neg (by omega)] at hv1
          by_cases hk0 : k = 0
          · have hlz := hl0.out hk0
            rw [if_neg (by omega)] at hv1
            have hv2 := hide hv1
            replace hnewl := hide hnewl
            have t1 : decide (0 < k) = false := decide_eq_false (by omega)
            replace hk0 := hide hk0
            clear hv1 hv hlz hc
            go_wp2
            go_quiet (fail)
            go_wp2
            go_roundw
            case rel => exact ⟨k + 1, _, l[k], by omega, by go_num, rfl, hv2, fun h => absurd h (by omega), hnewl⟩
            case measure => simp [intOf]; omega
          · have hlz := hl1.out (by omega)
            have hk1 : k - 1 < l.length := by omega
            have d2 := hc (k - 1) hk1
            have hg : l.getD (k - 1) 0 = l[k - 1] := by rw [List.getD_eq_getElem?_getD, List.getElem?_eq_getElem hk1]; rfl
            rw [hg] at hlz
            subst hlz
            have t0 : (0 : Int) < (k : Int) := by omega
            have t1 : decide (0 < k) = true := decide_eq_true (by omega)
            have a1 : IntKind.i64.wrap ((k : Int) - 1) = (k : Int) - 1 := IntWalk.i64_in _ (by omega)
            have a2 : (0 : Int) ≤ (k : Int) - 1 := by omega
            have a3 : (k : Int) - 1 < (l.length : Int) := by omega
            have a4 : ((k : Int) - 1).toNat = k - 1 := by omega
            by_cases h3 : l[k] ≤ l[k - 1]
            · rw [if_pos h3] at hv1
              have hv2 := hide hv1
              clear hv1 hv hnewl hc hg hl1
              go_wp2
              go_quiet (fail)
              go_wp2
              go_ret
              exact ⟨by rw [← hv2.out]; rfl, Bel.drN (Bel.drN (Below.refl _ _) _) _⟩
            · rw [if_neg h3] at hv1
              have hv2 := hide hv1
              replace hnewl := hide hnewl
              clear hv1 hv hc hg hl1
              go_wp2
              go_quiet (fail)
              go_wp2
              go_roundw
              case rel => exact ⟨k + 1, _, l[k], by omega, by go_num, rfl, hv2, fun h => absurd h (by omega), hnewl⟩
              case measure => simp [intOf]; omega
    · have hv1 := hv.out
      rw [drop_len hkl, checkL] at hv1
      have hv2 := hide hv1
      clear hv1 hv
      go_wp2
      go_ret
      exact ⟨by rw [← hv2.out]; rfl, Bel.drN (Below.refl _ _) _⟩
theorem rcheck_out (v : Value) (l : List Int) (n : Int) (w : World) (hn : ¬ (0 ≤ n ∧ n ≤ 80)) :
    Calls Try.prog 38 #[v, .int .i64 n] w (DrewB (.int .i64 2) w) := by
  go_enter Try.func38, Try.ntmps38
  go_wp2_with fail
  refine (in_no _ _ _ hn).mono ?_
  rintro e w' ⟨rfl, rfl⟩
  clear hn
  go_wp2
  go_ret
  exact ⟨rfl, Below.refl _ _⟩

set_option maxHeartbeats 2000000 in
set_option maxRecDepth 100000 in
theorem rrank_ok (v : Value) (l : List Int) (n : Nat) (w : World) (h : Rd I64 w v l) (hn : n ≤ 80) (hchk : checkL n 0 l = 0) (hct : choose n l.length ≤ 9223372036854775807) :
    Calls Try.prog 19 #[v, .int .i64 (n : Int)] w (IntC (rankL n 0 l) 0 w) := by
  obtain ⟨ao, cap, rfl, hlc, hcm, hr⟩ := Rd.form h
  have hcm' : cap ≤ 9223372036854775807 := by unfold maxLen at hcm; omega
  have hcv := hide (countV_ok n l.length hn hct n l.length rfl rfl)
  go_enter Try.func19, Try.ntmps19
  go_wp2_with fail
  refine (rcheck_in _ l _ _ (by exact hr) (by omega)).mono ?_
  rintro e w1 ⟨rfl, hb1⟩
  rw [hchk]
  replace hchk := hide hchk
  go_wp2_with fail
  refine (rcount_any _ _ _).mono ?_
  rintro e w' ⟨rfl, rfl⟩
  rw [hcv.out]
  go_wp2
  go_loopw [9, 10, 11] (fun r last i wr => ∃ (k R la : Nat), k ≤ l.length ∧ i = .int .i64 k ∧ r = .int .i64 R ∧ last = .int .i64 la ∧ la ≤ n ∧ Hid (checkL n la (l.drop k) = 0) ∧ Hid (R + rankL n la (l.drop k) = rankL n 0 l) ∧
      R + choose (n - la) (l.length - k) ≤ choose n l.length ∧ Below w.heap.size w wr) (fun _ _ i _ => l.length - (intOf i).toNat)
  case atStart => exact ⟨0, 0, 0, Nat.zero_le _, rfl, rfl, rfl, Nat.zero_le _, hchk, by show _ = _; rw [List.drop_zero]; omega, by simp, hb1⟩
  case round =>
    obtain ⟨k, R, la, hk, rfl, rfl, rfl, hla, hc1, hR, hB, hbel⟩ := hrel
    by_cases hkl : k < l.length
    · have hc2 := hc1.out
      have hR2 := hR.out
      rw [List.drop_eq_getElem_cons hkl] at hc2 hR2
      obtain ⟨q1, q2, q3, q4⟩ := checkL_cons hc2
      have hr2 := hr.below hbel
      obtain ⟨b, off, rfl, hb, hc⟩ := hr2.at_ hkl
      obtain ⟨x, hx⟩ := Int.eq_ofNat_of_zero_le (show 0 ≤ l[k] by omega)
      rw [hx] at q1 q2 q3 q4
      rw [rankL, hx, Int.toNat_natCast, List.length_drop] at hR2
      obtain ⟨j, hj⟩ : ∃ j, l.length - k = j + 1 := ⟨l.length - k - 1, by omega⟩
      rw [hj] at hB
      rw [show l.length - (k + 1) = j by omega] at hR2
      replace q4 := hide q4
      replace hR2 := hide hR2
      replace hj := hide hj
      replace hx := hide hx
      clear hc hc2 hr2 hc1 hR
      go_wp2
      obtain ⟨wo, rfl⟩ : ∃ wo : World, wo = wr := ⟨_, rfl⟩
      go_loopw [9, 12] (fun r i wr => ∃ (d wv rv : Nat), la + d + 1 ≤ x ∧ wv ≤ la + d + 1 ∧ la + d + 1 ≤ wv ∧ i = .int .i64 wv ∧ r = .int .i64 rv ∧ Hid (rv = R + sumC n j la d) ∧ Below w.heap.size w wr) (fun _ i _ => x - (intOf i).toNat)
      case atStart => exact ⟨0, la + 1, R, by omega, by omega, by omega, by go_num, rfl, by show _ = _; simp [sumC], hbel⟩
      case round =>
        obtain ⟨d, wv, rv, hdx, hw1, hw2, rfl, rfl, hrv, hbel2⟩ := hrel
        have ht := sumC_tele (n := n) (j := j) (a := la) (d := d) (by omega)
        have hr3 := hr.below hbel2
        obtain ⟨b', off', eb, hb', hc'⟩ := hr3.at_ hkl
        injection eb with eb
        injection eb with eb1 eb2
        subst eb1 eb2
        have d1 := hc' k hkl
        rw [hx.out] at d1
        clear hc' hr3
        by_cases hlt : wv < x
        · obtain ⟨t1, t2⟩ := choose_tail (n := n) (w := la + d) (j := j) (by omega)
          have hss := sumC_succ n j la d
          have hrvo := hrv.out
          obtain ⟨C, hC⟩ : ∃ C, C = choose (n - (la + d + 1)) j := ⟨_, rfl⟩
          rw [← hC] at t1 t2 hss
          have hb5 : rv + C ≤ 9223372036854775807 := by omega
          have hC5 : C ≤ 9223372036854775807 := by omega
          have hci := countV_ok (n - (la + d + 1)) j (by omega) (by rw [← hC]; exact hC5) ((n : Int) - (wv : Int)) ((l.length : Int) - 1 - k) (by omega) (by have := hj.out; omega)
          rw [← hC] at hci
          replace hC := hide hC
          have hnew := hide (show rv + C = R + sumC n j la (d + 1) by omega)
          replace hci := hide hci
          clear ht t1 t2 hB hss hrvo
          go_wp2_with fail
          refine (rcount_any _ _ _).mono ?_
          rintro e w2 ⟨rfl, rfl⟩
          rw [hci.out]
          go_wp2
          go_roundw
          case rel => exact ⟨d + 1, wv + 1, rv + C, by omega, by omega, by omega, by go_num, by go_num, hnew, hbel2⟩
          case measure => simp [intOf]; omega
        · have hex : x = la + d + 1 := by omega
          have h5 : x - 1 - la = d := by omega
          have hrvo := hrv.out
          obtain ⟨t1, t2⟩ := choose_tail (n := n) (w := la + d) (j := j) (by omega)
          have hR3 := hR2.out
          rw [h5] at hR3
          have hB2 : rv + choose (n - x) (l.length - (k + 1)) ≤ choose n l.length := by
            have := hj.out
            rw [show l.length - (k + 1) = j by omega, hex]
            omega
          have hnew := hide (show rv + rankL n x (l.drop (k + 1)) = rankL n 0 l by omega)
          clear t1 t2 hR3 hrvo ht hex h5
          go_wp2
          go_roundw
          case rel => exact ⟨k + 1, rv, x, by omega, by go_num, rfl, rfl, by omega, q4, hnew, hB2, hbel2⟩
          case measure => simp [intOf]; omega
    · have hR2 := hR.out
      rw [drop_len hkl, rankL] at hR2
      have hR3 := hide (show R = rankL n 0 l by omega)
      clear hR2 hR
      go_wp2
      go_ret2
      exact ⟨by rw [hR3.out]; rfl, hbel⟩

set_option maxHeartbeats 1000000 in
theorem rrank_any (v : Value) (l : List Int) (n : Int) (w : World) (h : Rd I64 w v l) :
    Calls Try.prog 19 #[v, .int .i64 n] w (IntC (rankV n l).1 (rankV n l).2 w) := by
  unfold rankV
  by_cases hn : 0 ≤ n ∧ n ≤ 80
  · rw [if_pos hn]
    by_cases hc : checkL n 0 l = 0
    · rw [if_neg (by omega)]
      obtain ⟨n, rfl⟩ := Int.eq_ofNat_of_zero_le hn.1
      rw [Int.toNat_natCast]
      by_cases hx : choose n l.length ≤ 9223372036854775807
      · rw [if_pos hx]
        exact rrank_ok v l n w h (by omega) hc hx
      · rw [if_neg hx]
        have hcv : countV n l.length = (0, 9) := by
          unfold countV
          rw [chooseI_nat n l.length _ _ rfl rfl, if_pos hn, if_neg hx]
        obtain ⟨ao, cap, rfl, hlc, hcm, hr⟩ := Rd.form h
        replace hcv := hide hcv
        go_enter Try.func19, Try.ntmps19
        go_wp2_with fail
        refine (rcheck_in _ l _ _ (by exact hr) hn).mono ?_
        rintro e w1 ⟨rfl, hb1⟩
        rw [hc]
        replace hc := hide hc
        go_wp2_with fail
        refine (rcount_any _ _ _).mono ?_
        rintro e w' ⟨rfl, rfl⟩
        rw [hcv.out]
        clear hx hn
        go_wp2
        go_ret2
        exact ⟨rfl, hb1⟩
    · rw [if_pos hc]
      obtain ⟨ao, cap, rfl, hlc, hcm, hr⟩ := Rd.form h
      obtain ⟨c, hcc⟩ : ∃ c, c = checkL n 0 l := ⟨_, rfl⟩
      rw [← hcc] at hc ⊢
      replace hcc := hide hcc
      have hb : (c != 0) = true := by simpa using hc
      go_enter Try.func19, Try.ntmps19
      go_wp2_with fail
      refine (rcheck_in _ l _ _ (by exact hr) hn).mono ?_
      rintro e w1 ⟨rfl, hb1⟩
      rw [← hcc.out]
      clear hn hc
      go_wp2
      go_ret2
      exact ⟨rfl, hb1⟩
  · rw [if_neg hn]
    go_enter Try.func19, Try.ntmps19
    go_wp2_with fail
    refine (rcheck_out _ l _ _ hn).mono ?_
    rintro e w1 ⟨rfl, hb1⟩
    clear hn
    go_wp2
    go_ret2
    exact ⟨rfl, hb1⟩
end Go.Proofs.Ytompjmcbfgckiaa

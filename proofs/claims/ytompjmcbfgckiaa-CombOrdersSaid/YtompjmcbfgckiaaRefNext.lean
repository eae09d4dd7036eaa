/- lotteryref05: Next. -/
import Derived.Test.YtompjmcbfgckiaaRefRank
import Derived.Test.YtompjmcbfgckiaaNextLaw2
open Go.RowKit
set_option linter.unusedVariables false
set_option linter.unusedSimpArgs false
namespace Go.Proofs.Ytompjmcbfgckiaa

theorem bump_snoc (x : Int) (d : Nat) : bump x (d + 1) = bump x d ++ [x + (d : Int)] := by
  unfold bump
  rw [List.range_succ, List.map_append]; rfl

theorem rnext_bad (v : Value) (l : List Int) (n : Int) (w : World) (h : Rd I64 w v l) (hb : ¬ (0 ≤ n ∧ n ≤ 80 ∧ checkL n 0 l = 0)) :
    Calls Try.prog 21 #[v, .int .i64 n] w (ListB [] false w) := by
  obtain ⟨ao, cap, rfl, hlc, hcm, hr⟩ := Rd.form h
  by_cases hn : 0 ≤ n ∧ n ≤ 80
  · obtain ⟨c, hcc⟩ : ∃ c, c = checkL n 0 l := ⟨_, rfl⟩
    have hc0 : c ≠ 0 := by rw [hcc]; intro h0; exact hb ⟨hn.1, hn.2, h0⟩
    have hcb : (c != 0) = true := by simpa using hc0
    replace hcc := hide hcc
    clear hb hc0
    go_enter Try.func21, Try.ntmps21
    go_wp2_with fail
    refine (rcheck_in _ l _ _ (by exact hr) hn).mono ?_
    rintro e w1 ⟨rfl, hb1⟩
    rw [← hcc.out]
    clear hn
    go_wp2
    go_ret2
    exact ⟨_, rfl, Rd.nil, hb1⟩
  · clear hb
    go_enter Try.func21, Try.ntmps21
    go_wp2_with fail
    refine (rcheck_out _ l _ _ hn).mono ?_
    rintro e w1 ⟨rfl, hb1⟩
    clear hn
    go_wp2
    go_ret2
    exact ⟨_, rfl, Rd.nil, hb1⟩

set_option maxHeartbeats 4000000 in
set_option maxRecDepth 100000 in
theorem rnext_good (v : Value) (l : List Int) (n : Nat) (w : World) (h : Rd I64 w v l) (hn : n ≤ 80) (hc : checkL n 0 l = 0) :
    Calls Try.prog 21 #[v, .int .i64 (n : Int)] w (ListB (nextV l n).1 (nextV l n).2 w) := by
  obtain ⟨ao, cap, rfl, hlc, hcm, hr⟩ := Rd.form h
  have hcm' : cap ≤ 9223372036854775807 := by unfold maxLen at hcm; omega
  have hlen := checkL_len hc (by omega)
  have hget := hide (checkL_get hc)
  have hnv := hide (show nextV l n = nextOf l (nextI l n l.length l.length) by unfold nextV; rw [if_pos ⟨by omega, by omega, hc⟩])
  go_enter Try.func21, Try.ntmps21
  go_wp2_with fail
  refine (rcheck_in _ l _ _ (by exact hr) (by omega)).mono ?_
  rintro e w1 ⟨rfl, hb1⟩
  rw [hc]
  replace hc := hide hc
  have hr1 := hr.below hb1
  have hsz1 := hb1.size
  go_wp2
  go_loop [6] (fun t => ∃ m : Nat, m ≤ l.length ∧ t = .int .i64 ((m : Int) - 1) ∧ Hid (nextI l n l.length m = nextI l n l.length l.length)) (fun t => (intOf t + 1).toNat)
  case atStart => exact ⟨l.length, Nat.le_refl _, rfl, rfl⟩
  case round =>
    obtain ⟨m, hm, rfl, hI⟩ := hrel
    by_cases hm0 : m = 0
    · subst hm0
      have hI2 := hI.out
      rw [nextI] at hI2
      replace hI2 := hide hI2
      clear hI
      go_wp2
      go_ret2
      rw [hnv.out, ← hI2.out]
      exact ⟨_, rfl, Rd.nil, hb1⟩
    · have hk1 : m - 1 < l.length := by omega
      obtain ⟨b, off, rfl, hb, hcell⟩ := hr1.at_ hk1
      have c1 := hcell (m - 1) hk1
      have hI2 := hI.out
      obtain ⟨i, hi⟩ : ∃ i, m = i + 1 := ⟨m - 1, by omega⟩
      subst hi
      rw [nextI] at hI2
      simp only [Nat.add_sub_cancel] at hk1 c1
      have hgd : l.getD i 0 = l[i] := by rw [List.getD_eq_getElem?_getD, List.getElem?_eq_getElem hk1]; rfl
      rw [hgd] at hI2
      clear hI
      by_cases he : l[i] = (n : Int) - l.length + 1 + i
      · rw [if_pos he] at hI2
        have he2 : (l[i] == (n : Int) - ((l.length : Int) - 1 - i)) = true := by simp; omega
        replace hI2 := hide hI2
        replace he := hide he
        clear hcell
        go_wp2
        go_round
        case rel => exact ⟨i, by omega, by go_num, hI2⟩
        case measure => first | (simp [intOf]; done) | (simp [intOf]; omega)
      · rw [if_neg he] at hI2
        have he2 : (l[i] == (n : Int) - ((l.length : Int) - 1 - i)) = false := by simp; omega
        replace hI2 := hide hI2
        obtain ⟨g1, g2, g3⟩ := hget.out i hk1
        replace he := hide he
        replace hgd := hide hgd
        have hkl : l.length ≤ 80 := by omega
        have hfin := hide (show nextV l n = (l.take i ++ bump (l.getD i 0 + 1) (l.length - i), true) by rw [hnv.out, ← hI2.out]; rfl)
        obtain ⟨x, hx⟩ : ∃ x, x = l[i] := ⟨_, rfl⟩
        rw [← hx] at c1 he2 g1 g2 g3 hgd
        have hx2 := hide hx
        clear hx hnv
        have hcell2 := hide hcell
        clear hcell
        go_wp2
        clear he2
        have hown : Own I64 w1 w1.heap.size 3 (.slice none 0 0) [] := Own.nil _ _ _
        go_loopw [7, 8] (fun vv jj wr => ∃ (j : Nat) (A : List Int) (ao : Option Addr) (cap : Nat), vv = .slice ao A.length cap ∧ jj = .int .i64 j ∧ j ≤ i ∧ A.length ≤ 80 ∧ Hid (A = l.take j) ∧ Own I64 wr w1.heap.size 3 (.slice ao A.length cap) A ∧ Below w1.heap.size w1 wr) (fun _ j _ => i - (intOf j).toNat)
        case atStart => exact ⟨0, [], none, 0, rfl, rfl, Nat.zero_le _, Nat.zero_le _, rfl, hown, Below.refl _ _⟩
        case round =>
          obtain ⟨j, A, ao, cap2, rfl, rfl, hji, hA80, hA, hown, hbel1⟩ := hrel
          by_cases hjl : j < i
          · have hj3 : j < l.length := by omega
            have c2 := Bel.cellOf hbel1 (hcell2.out j hj3)
            have hA2 := hide (show A ++ [l[j]] = l.take (j + 1) by rw [take_snoc l j hj3, hA.out])
            have hAl : A.length = j := by rw [hA.out, List.length_take]; omega
            have hAl2 : A.length + 1 ≤ 80 := by omega
            replace hAl := hide hAl
            obtain ⟨y, hy⟩ : ∃ y, y = l[j] := ⟨_, rfl⟩
            rw [← hy] at c2 hA2
            replace hy := hide hy
            go_wp2_with (with_reducible refine wpList_append_rd _ rfl _ _ 37 rfl (V := I64) (fun _ => rfl) w1.heap.size 3 (.int .i64 0) 8 Try.underlying37 infoInt rfl _ A rfl (hown.alloc _) _ [y] rfl ?_ ?_ ?_ ?_ ?_)
            case refine_1 => exact Rd.new _ rfl rfl (Nat.le_refl _) (by decide) rfl
            case refine_2 => simp; omega
            case refine_3 => simp; omega
            case refine_4 => have := hbel1.size; simp; omega
            intro v4 w4 hown4 hg4 hv4
            have hsz3 := hbel1.size
            have hb4 : Below w1.heap.size w1 w4 := (Bel.al hbel1 _).grown hg4 (by simp; omega) (fun g hg => (hown.lt g hg).1)
            obtain ⟨ao4, cap4, rfl⟩ := hown4.shape
            clear c2
            go_wp2
            go_roundw
            case rel => exact ⟨j + 1, A ++ [y], ao4, cap4, rfl, by go_num, by omega, by simp; omega, hA2, hown4, hb4⟩
            case measure => simp [intOf]; omega
          · obtain rfl : j = i := by omega
            have hstart := hide (show A = l.take j ++ bump (x + 1) (j - j) by rw [Nat.sub_self, hA.out]; simp [bump])
            clear hA
            have hjl' : j < l.length := hk1
            go_wp2
            go_loopw [7, 9] (fun vv jj wr => ∃ (t : Nat) (A : List Int) (ao : Option Addr) (cap : Nat), vv = .slice ao A.length cap ∧ jj = .int .i64 t ∧ j ≤ t ∧ t ≤ l.length ∧ A.length ≤ 80 ∧ Hid (A = l.take j ++ bump (x + 1) (t - j)) ∧ Own I64 wr w1.heap.size 3 (.slice ao A.length cap) A ∧ Below w1.heap.size w1 wr) (fun _ j _ => l.length - (intOf j).toNat)
            case atStart => exact ⟨j, A, ao, cap2, rfl, rfl, Nat.le_refl _, by omega, hA80, hstart, hown, hbel1⟩
            case round =>
              clear hown hbel1 hA80 hstart
              obtain ⟨t, B, bo, cap3, rfl, rfl, htj, htl, hB80, hB, hown, hbel1⟩ := hrel
              by_cases htll : t < l.length
              · have c2 := Bel.cellOf hbel1 c1
                have hB2 := hide (show B ++ [x + 1 + t - j] = l.take j ++ bump (x + 1) (t + 1 - j) by rw [show t + 1 - j = (t - j) + 1 by omega, bump_snoc, hB.out, List.append_assoc, show x + 1 + (t : Int) - j = x + 1 + ((t - j : Nat) : Int) by omega])
                have hBl : B.length = t := by rw [hB.out, List.length_append, List.length_take, length_bump]; omega
                have hBl2 : B.length + 1 ≤ 80 := by omega
                replace hBl := hide hBl
                go_wp2_with (with_reducible refine wpList_append_rd _ rfl _ _ 37 rfl (V := I64) (fun _ => rfl) w1.heap.size 3 (.int .i64 0) 8 Try.underlying37 infoInt rfl _ B rfl (hown.alloc _) _ [x + 1 + (t : Int) - j] rfl ?_ ?_ ?_ ?_ ?_)
                case refine_1 => exact Rd.new _ rfl rfl (Nat.le_refl _) (by decide) rfl
                case refine_2 => simp; omega
                case refine_3 => simp; omega
                case refine_4 => have := hbel1.size; simp; omega
                intro v4 w4 hown4 hg4 hv4
                have hsz3 := hbel1.size
                have hb4 : Below w1.heap.size w1 w4 := (Bel.al hbel1 _).grown hg4 (by simp; omega) (fun g hg => (hown.lt g hg).1)
                obtain ⟨ao4, cap4, rfl⟩ := hown4.shape
                clear c2
                go_wp2
                go_roundw
                case rel => exact ⟨t + 1, B ++ [x + 1 + (t : Int) - j], ao4, cap4, rfl, by go_num, by omega, by omega, by simp; omega, hB2, hown4, hb4⟩
                case measure => simp [intOf]; omega
              · obtain rfl : t = l.length := by omega
                have hend := hide (show nextV l n = (B, true) by rw [hfin.out, hgd.out, hB.out])
                have hrd := hown.rd
                have hbw := Bel.to hb1 hbel1
                clear hB
                go_wp2
                go_ret2
                rw [hend.out]
                exact ⟨_, rfl, hrd, hbw⟩

theorem rnext_any (v : Value) (l : List Int) (n : Int) (w : World) (h : Rd I64 w v l) :
    Calls Try.prog 21 #[v, .int .i64 n] w (ListB (nextV l n).1 (nextV l n).2 w) := by
  by_cases hb : 0 ≤ n ∧ n ≤ 80 ∧ checkL n 0 l = 0
  · obtain ⟨n, rfl⟩ := Int.eq_ofNat_of_zero_le hb.1
    exact rnext_good v l n w h (by omega) hb.2.2
  · have : nextV l n = ([], false) := by unfold nextV; rw [if_neg hb]
    rw [this]
    exact rnext_bad v l n w h hb
end Go.Proofs.Ytompjmcbfgckiaa

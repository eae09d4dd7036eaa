/- comb.Next. -/
import Derived.Test.YtompjmcbfgckiaaUnrank
import Derived.Test.YtompjmcbfgckiaaNextLaw
import Derived.Test.YtompjmcbfgckiaaCopy
open Go.RowKit
set_option linter.unusedVariables false
set_option linter.unusedSimpArgs false
namespace Go.Proofs.Ytompjmcbfgckiaa

theorem sizeInt : (Try.prog.info? 3).map (·.size) = some 1 := by kernel_rfl

/-- A list and a truth value. -/
def ListB (l : List Int) (b : Bool) (w : World) (e : Ending) (w' : World) : Prop := ∃ u, e = .returned (.tuple #[u, .bool b]) ∧ Rd I64 w' u l ∧ Below w.heap.size w w'

theorem next_bad (v : Value) (l : List Int) (n : Int) (w : World) (h : Rd I64 w v l) (hb : ¬ (0 ≤ n ∧ n ≤ 80 ∧ checkL n 0 l = 0)) :
    Calls Try.prog 20 #[v, .int .i64 n] w (ListB [] false w) := by
  obtain ⟨ao, cap, rfl, hlc, hcm, hr⟩ := Rd.form h
  by_cases hn : 0 ≤ n ∧ n ≤ 80
  · have hd : decide (0 ≤ n ∧ n ≤ 80) = true := decide_eq_true hn
    obtain ⟨c, hcc⟩ : ∃ c, c = checkL n 0 l := ⟨_, rfl⟩
    have hc0 : c ≠ 0 := by rw [hcc]; intro h0; exact hb ⟨hn.1, hn.2, h0⟩
    have hcb : (c != 0) = true := by simpa using hc0
    replace hcc := hide hcc
    clear hb hn hc0
    go_enter Try.func20, Try.ntmps20
    go_wp2_with fail
    refine (known_any _ _).mono ?_
    rintro e w' ⟨rfl, rfl⟩
    rw [hd]
    clear hd
    go_wp2_with fail
    refine (check_any _ l _ _ (by exact hr)).mono ?_
    rintro e w' ⟨rfl, rfl⟩
    rw [← hcc.out]
    go_wp2
    go_ret2
    exact ⟨_, rfl, Rd.nil, Below.refl _ _⟩
  · have hd : decide (0 ≤ n ∧ n ≤ 80) = false := decide_eq_false hn
    clear hb hn
    go_enter Try.func20, Try.ntmps20
    go_wp2_with fail
    refine (known_any _ _).mono ?_
    rintro e w' ⟨rfl, rfl⟩
    rw [hd]
    clear hd
    go_wp2
    go_ret2
    exact ⟨_, rfl, Rd.nil, Below.refl _ _⟩

set_option maxHeartbeats 2000000 in
set_option maxRecDepth 100000 in
theorem next_good (v : Value) (l : List Int) (n : Nat) (w : World) (h : Rd I64 w v l) (hn : n ≤ 80) (hc : checkL n 0 l = 0) :
    Calls Try.prog 20 #[v, .int .i64 (n : Int)] w (ListB (nextV l n).1 (nextV l n).2 w) := by
  have hd : decide (0 ≤ (n : Int) ∧ (n : Int) ≤ 80) = true := decide_eq_true (by omega)
  obtain ⟨ao, cap, rfl, hlc, hcm, hr⟩ := Rd.form h
  have hcm' : cap ≤ 9223372036854775807 := by unfold maxLen at hcm; omega
  have hlen := checkL_len hc (by omega)
  have hget := hide (checkL_get hc)
  have hnv := hide (show nextV l n = nextOf l (nextI l n l.length l.length) by unfold nextV; rw [if_pos ⟨by omega, by omega, hc⟩])
  go_enter Try.func20, Try.ntmps20
  go_wp2_with fail
  refine (known_any _ _).mono ?_
  rintro e w' ⟨rfl, rfl⟩
  rw [hd]
  clear hd
  go_wp2_with fail
  refine (check_any _ l _ _ (by exact hr)).mono ?_
  rintro e w' ⟨rfl, rfl⟩
  rw [hc]
  replace hc := hide hc
  go_wp2
  go_loop [7] (fun t => ∃ m : Nat, m ≤ l.length ∧ t = .int .i64 ((m : Int) - 1) ∧ Hid (nextI l n l.length m = nextI l n l.length l.length)) (fun t => (intOf t + 1).toNat)
  case atStart => exact ⟨l.length, Nat.le_refl _, rfl, rfl⟩
  case round =>
    obtain ⟨m, hm, rfl, hI⟩ := hrel
    by_cases hm0 : m = 0
    · subst hm0
      have hI2 := hI.out
      rw [nextI] at hI2
      replace hI2 := hide hI2
      clear hI
      go_wp2
      go_ret2
      rw [hnv.out, ← hI2.out]
      exact ⟨_, rfl, Rd.nil, Below.refl _ _⟩
    · have hk1 : m - 1 < l.length := by omega
      obtain ⟨b, off, rfl, hb, hcell⟩ := hr.at_ hk1
      have c1 := hcell (m - 1) hk1
      have hI2 := hI.out
      obtain ⟨i, hi⟩ : ∃ i, m = i + 1 := ⟨m - 1, by omega⟩
      subst hi
      rw [nextI] at hI2
      simp only [Nat.add_sub_cancel] at hk1 c1
      have hgd : l.getD i 0 = l[i] := by rw [List.getD_eq_getElem?_getD, List.getElem?_eq_getElem hk1]; rfl
      rw [hgd] at hI2
      clear hcell hI
      by_cases he : l[i] = (n : Int) - l.length + 1 + i
      · rw [if_pos he] at hI2
        have he2 : (l[i] == (n : Int) - l.length + 1 + i) = true := by simpa using he
        replace hI2 := hide hI2
        replace he := hide he
        go_wp2
        go_round
        case rel => exact ⟨i, by omega, by go_num, hI2⟩
        case measure => first | (simp [intOf]; done) | (simp [intOf]; omega)
      · rw [if_neg he] at hI2
        have he2 : (l[i] == (n : Int) - l.length + 1 + i) = false := by simpa using he
        replace hI2 := hide hI2
        obtain ⟨g1, g2, g3⟩ := hget.out i hk1
        replace he := hide he
        replace hgd := hide hgd
        have hkl : l.length ≤ 80 := by omega
        have hfin := hide (show nextV l n = (l.take i ++ bump (l.getD i 0 + 1) (l.length - i), true) by rw [hnv.out, ← hI2.out]; rfl)
        obtain ⟨x, hx⟩ : ∃ x, x = l[i] := ⟨_, rfl⟩
        rw [← hx] at c1 he2 g1 g2 g3 hgd
        have hx2 := hide hx
        clear hx hnv
        go_wp2_with (first
          | (with_reducible refine wpList_make_row _ rfl _ _ 37 rfl 3 (.int .i64 0) 8 Try.underlying37 infoInt rfl .i64 .i64 _ _ l.length l.length rfl rfl (by omega) (by omega) (Nat.le_refl _) (by omega) (by omega) ?_; intro w2 hrow hb2 hz2; have hrd2 := hr.below hb2)
          | (with_reducible refine wpList_copy_all rfl _ _ 37 37 rfl 3 Try.underlying37 sizeInt (V := I64) (fun _ => rfl) w.heap.size l.length l.length rfl _ rfl l ?_ rfl _ 3 hrow ?_ w ?_ ?_ ?_))
        intro w3 hrow3 hb3
        obtain ⟨g, hg⟩ : ∃ g, g = w.heap.size := ⟨_, rfl⟩
        rw [← hg] at hrow3
        have d1 := hrow3.cellV hk1
        rw [← hx2.out] at d1
        have d2 := hrow3.frozen i
        have hm0 : midP l i (i + 1) (l.set i (x + 1)) := by
          have h0 : midP l i i l := ⟨rfl, fun t _ _ => by rw [if_neg (by omega)]⟩
          have := midP_set h0 (Nat.le_refl i) hk1
          rw [hgd.out, Int.sub_self, Int.add_zero] at this
          exact this
        have hgs : w.heap.size ≤ g := by omega
        have hbs := Bel.st hb3 (p := ⟨g, i, none⟩) hgs (.int .i64 (x + 1))
        have hrow4 := hrow3.setV (V := I64) i (x + 1)
        rw [← hg]
        clear hg hrow hb2 hz2 hrd2
        go_wp2
        replace hm0 := hide hm0
        clear d1 d2 c1
        go_loopw [9] (fun t wr => ∃ (j : Nat) (P : List Int), i + 1 ≤ j ∧ j ≤ l.length ∧ t = .int .i64 j ∧ Row wr g 3 (P.map I64) ∧ Hid (midP l i j P) ∧ Below w.heap.size w wr) (fun t _ => l.length - (intOf t).toNat)
        case atStart => exact ⟨i + 1, _, Nat.le_refl _, by omega, by go_num, hrow4, hm0, hbs⟩
        case round =>
          obtain ⟨j, P, hj1, hj2, rfl, hP, hmid, hbel⟩ := hrel
          have hPl := hmid.out.1
          by_cases hjl : j < l.length
          · have hj3 : j - 1 < P.length := by omega
            have hj4 : j < P.length := by omega
            have e1 := hP.cellV hj3
            have e2 := hP.cellV hj4
            have e3 := hP.frozen j
            have hval := hmid.out.2 (j - 1) hj3 (by omega)
            rw [if_pos (by omega), hgd.out] at hval
            obtain ⟨y, hy⟩ : ∃ y, y = P[j - 1] := ⟨_, rfl⟩
            rw [← hy] at e1 hval
            have hy1 : y ≤ 200 := by omega
            have hy2 : 0 ≤ y := by omega
            have hset := midP_set hmid.out (by omega : i ≤ j) hjl
            rw [hgd.out, show x + 1 + ((j : Int) - i) = y + 1 by omega] at hset
            have hrow5 := hP.setV (V := I64) j (y + 1)
            replace hset := hide hset
            clear hy hval hPl
            go_wp2
            go_roundw
            case rel => exact ⟨j + 1, _, by omega, by omega, by go_num, hrow5, hset, Bel.st hbel hgs _⟩
            case measure => simp [intOf]; omega
          · have hjj : j = l.length := by omega
            subst hjj
            have hend := hide (midP_end hmid.out hk1)
            have hrd := hP.rdAll (n := l.length) (c := l.length) hPl.symm (Nat.le_refl _) (by omega)
            clear hPl
            go_wp2
            go_ret2
            rw [hfin.out]
            exact ⟨_, rfl, by rw [← hend.out]; exact hrd, hbel⟩
end Go.Proofs.Ytompjmcbfgckiaa

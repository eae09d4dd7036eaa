/- lotteryref03: divide of digits. -/
import Derived.Test.YtompjmcbfgckiaaRefDivLaw
open Go.RowKit
set_option linter.unusedVariables false
set_option linter.unusedSimpArgs false
namespace Go.Proofs.Ytompjmcbfgckiaa

def DivB (q r : Nat) (w : World) (e : Ending) (w' : World) : Prop := ∃ u v, e = .returned (.tuple #[u, v]) ∧ DV w' u q ∧ DV w' v r ∧ Below w.heap.size w w'

theorem digs_len_le {m n : Nat} (h : m ≤ n) : (digs m).length ≤ (digs n).length := by
  rcases Nat.lt_or_ge (digs n).length (digs m).length with h1 | h1
  · have := digs_len_lt h1; omega
  · exact h1

theorem digs_len_two {m n : Nat} (h : m ≤ 65536 * n) : (digs m).length ≤ (digs n).length + 1 := by
  by_cases hm : m = 0
  · subst hm; rw [digs_zero]; simp
  · rw [digs_pos hm, List.length_cons]
    have := digs_len_le (m := m / 65536) (n := n) (by omega)
    omega

theorem w64_div (p bt z : Nat) (hz : z = p / bt) (hp : p < 65536) : wrap64 ((p : Int) / (bt : Int)) = (z : Int) := by
  have h : z ≤ p := by rw [hz]; exact Nat.div_le_self _ _
  rw [← Int.natCast_ediv, ← hz]
  exact IntWalk.wrap64_in (z : Int) (by omega)

theorem tmod_two (z : Nat) : ((z : Int).tmod 2 == 1) = decide (z % 2 = 1) := by
  have ht : (z : Int).tmod 2 = ((z % 2 : Nat) : Int) := by
    rw [Int.tmod_eq_emod_of_nonneg (Int.natCast_nonneg z)]; exact (Int.natCast_emod z 2).symm
  rw [ht]
  rcases Nat.mod_two_eq_zero_or_one z with h | h <;> rw [h] <;> decide

set_option maxHeartbeats 4000000 in
set_option maxRecDepth 100000 in
theorem rdivide (va vb : Value) (m n : Nat) (w : World) (ha : DV w va m) (hb : DV w vb n) (hn : 0 < n) (lm : (digs m).length ≤ 900) (ln : (digs n).length ≤ 900) :
    Calls Try.prog 51 #[va, vb] w (DivB (m / n) (m % n) w) := by
  unfold DV at ha hb
  have SA := hide (dsmall_digs m)
  have em := hide (dval_digs m)
  have hl2 := hide (fun x (h : x ≤ 65536 * n) => digs_len_two (m := x) h)
  obtain ⟨a, hae⟩ : ∃ a, a = digs m := ⟨_, rfl⟩
  rw [← hae] at ha SA em lm
  clear hae
  obtain ⟨aa, ca, rfl, hla, hca, hra⟩ := Rd.form ha
  obtain ⟨ab, nb, cb, rfl⟩ := Rd.shape hb
  have hca' : ca ≤ 9223372036854775807 := by unfold maxLen at hca; omega
  clear ha
  have hbD : DV w (.slice ab nb cb) n := hb
  clear hb
  have hst0 := hide (div_start hn a)
  go_enter Try.func51, Try.ntmps51
  go_wp2_with (with_reducible refine wpList_make_row _ rfl _ _ 37 rfl 3 (.int .i64 0) 8 Try.underlying37 infoInt rfl .i64 .i64 _ _ a.length a.length rfl rfl (by omega) (by omega) (Nat.le_refl _) (by omega) (by omega) ?_; intro w2 hrow hb2 hz2)
  obtain ⟨g, hg⟩ : ∃ g, g = w.heap.size := ⟨_, rfl⟩
  have hgs : w.heap.size ≤ g := by omega
  have hgl := hrow.lt
  rw [← hg] at hrow hgl ⊢
  clear hz2 hg
  go_wp2
  go_loopw [7, 8] (fun rr t wr => ∃ (j R : Nat) (Q : List Nat) (bo : Option Addr) (bn bc : Nat), rr = .slice bo bn bc ∧ t = .int .i64 ((j : Int) - 1) ∧ j ≤ a.length ∧ Row wr g 3 (Q.map D64) ∧ Hid (Q.length = a.length) ∧ Hid (DivO n a j Q R) ∧ DV wr (.slice bo bn bc) R ∧ Hid ((Value.slice bo bn bc).ownBlock ≠ some g) ∧ Below w.heap.size w wr) (fun _ t _ => (intOf t + 1).toNat)
  case atStart =>
    refine ⟨a.length, 0, List.replicate a.length 0, none, 0, 0, rfl, rfl, Nat.le_refl _, by rw [List.map_replicate]; exact hrow, by show _ = _; simp, hst0, ?_, ?_, hb2⟩
    · show Rd _ _ _ _; rw [digs_zero]; exact Rd.nil
    · show _ ≠ _; intro h; cases h
  case round =>
    clear hrow hb2
    obtain ⟨j, R, Q, bo, bn, bc, rfl, rfl, hj, hrow, hQl, hO, hR, hne, hbel⟩ := hrel
    by_cases hj0 : j = 0
    · subst hj0
      have hO2 := hO.out
      have hds := hide hO2.2.1
      obtain ⟨q1, q2⟩ := div_end hn hO2
      rw [em.out] at q1 q2
      have hrd := hrow.rdAll (n := a.length) (c := a.length) hQl.out.symm (Nat.le_refl _) (by omega)
      rw [q2] at hR
      replace q1 := hide q1
      clear hO hO2 q2
      go_wp2_with fail
      refine (rtrim _ Q _ hrd hds.out).mono ?_
      rintro e w5 ⟨u, rfl, hu, hb5, ho5⟩
      obtain ⟨uo, ucap, rfl, -, -, -⟩ := Rd.form hu
      rw [q1.out] at hu ⊢
      have hR5 := Rd.below hR hb5
      go_wp2
      go_ret2
      exact ⟨_, _, rfl, hu, hR5, Bel.to hbel hb5⟩
    · obtain ⟨i, rfl⟩ : ∃ i, j = i + 1 := ⟨j - 1, by omega⟩
      have hil : i < a.length := by omega
      rw [show (((i + 1 : Nat)) : Int) - 1 = (i : Int) by omega]
      go_wp2
      obtain ⟨p, hp⟩ : ∃ p, p = a[i] := ⟨_, rfl⟩
      have hp2 := SA.out _ (List.getElem_mem hil)
      rw [← hp] at hp2
      have hpd : p = a.getD i 0 := by rw [hp, List.getD_eq_getElem?_getD, List.getElem?_eq_getElem hil]; rfl
      replace hp := hide hp
      replace hpd := hide hpd
      have hst := hide (div_begin hO.out p hp2)
      go_loopw [7, 9] (fun rr t wr => ∃ (bt R : Nat) (Q : List Nat) (bo : Option Addr) (bn bc : Nat), rr = .slice bo bn bc ∧ t = .int .i64 bt ∧ bt ≤ 32768 ∧ Row wr g 3 (Q.map D64) ∧ Hid (Q.length = a.length) ∧ Hid (DivS n (dval (a.drop (i + 1))) p i Q bt R) ∧ DV wr (.slice bo bn bc) R ∧ Hid ((Value.slice bo bn bc).ownBlock ≠ some g) ∧ Below w.heap.size w wr) (fun _ t _ => (intOf t).toNat)
      case atStart => exact ⟨32768, R, Q, bo, bn, bc, rfl, rfl, Nat.le_refl _, hrow, hQl, hst, hR, hne, hbel⟩
      case round =>
        clear hrow hbel hR hne hst hQl hO
        obtain ⟨bt, R, Q, bo, bn, bc, rfl, rfl, hbt, hrow, hQl, hS, hR, hne, hbel⟩ := hrel
        by_cases hb0 : bt = 0
        · subst hb0
          have hO := hide (div_over (a := a) (by have := hS.out; rw [hpd.out] at this; exact this))
          clear hS
          go_wp2
          go_roundw
          case rel => exact ⟨i, R, Q, bo, bn, bc, rfl, by go_num, by omega, hrow, hQl, hO, hR, hne, hbel⟩
          case measure => simp [intOf]
        · have hiQ : i < Q.length := by rw [hQl.out]; exact hil
          obtain ⟨b1, b2, b3, b4, b5⟩ := div_round hiQ hp2 hS.out hb0
          have hRn : R < n := hS.out.1
          have lR : (digs R).length ≤ 1000 := by have := hl2.out R (by omega); omega
          obtain ⟨z, hz⟩ : ∃ z, z = p / bt := ⟨_, rfl⟩
          rw [← hz] at b4 b5
          replace b4 := hide b4
          replace b5 := hide b5
          have hra2 := hra.below hbel
          clear hS
          go_wp2_with fail
          refine (radd _ _ R R _ hR hR lR lR).mono ?_
          rintro e w3 ⟨u3, rfl, hu3, hb3, ho3⟩
          obtain ⟨uo3, un3, uc3, rfl⟩ := Rd.shape hu3
          obtain ⟨ba, offa, rfl, hba, hcella⟩ := hra2.at_ hil
          have d1 := Bel.cellOf hb3 (hcella _ hil)
          rw [← hp.out] at d1
          have hzb : z ≤ p := by rw [hz]; exact Nat.div_le_self _ _
          replace hz := hide hz
          clear hcella
          go_upto_region 10 with (fail)
          go_cut [34] (fun bb X => bb = .bool (decide (z % 2 = 1)) ∧ X = w3)
          case first =>
            go_wp2
            go_meet
            refine ⟨?_, rfl⟩
            rw [w64_div p bt z hz.out hp2, tmod_two]
          case rest =>
            obtain ⟨rfl, hX⟩ := hcut
            rw [hX]
            clear hX
            have l1 : digs 1 = [1] := by rw [digs_pos (by omega), show 1 / 65536 = 0 from rfl, digs_zero]
            have l2R : (digs (R + R)).length ≤ 1000 := by have := hl2.out (R + R) (by omega); omega
            replace l1 := hide l1
            by_cases hbeta : z % 2 = 1
            · have hd : decide (z % 2 = 1) = true := decide_eq_true hbeta
              rw [hd]
              go_wp2_with fail
              refine (radd _ _ (R + R) 1 _ (Rd.alloc hu3 _) (by show Rd _ _ _ _; rw [l1.out]; exact Rd.new _ rfl rfl (Nat.le_refl _) (by decide) rfl) l2R (by rw [l1.out]; decide)).mono ?_
              rintro e w4 ⟨u4, rfl, hu4, hb4, ho4⟩
              obtain ⟨uo4, un4, uc4, rfl⟩ := Rd.shape hu4
              have bw4 : Below w.heap.size w w4 := Bel.to (Bel.al (Bel.to hbel hb3) _) hb4
              have hbn4 : DV w4 (.slice ab nb cb) n := Rd.below hbD bw4
              go_wp2_with fail
              refine (rcmp _ _ (R + R + 1) n _ hu4 hbn4).mono ?_
              rintro e w5 ⟨rfl, hb5⟩
              by_cases hge : n ≤ R + R + 1
              · have hcv : ¬ cmpV (R + R + 1) n < 0 := by unfold cmpV; split <;> (try split) <;> omega
                have hcv2 : 0 ≤ cmpV (R + R + 1) n := by omega
                have hS2 := b5.out (by omega)
                rw [show 2 * R + z % 2 - n = R + R + 1 - n by omega] at hS2
                have lV : (digs (R + R + 1)).length ≤ 1000 := by have := hl2.out (R + R + 1) (by omega); omega
                have hu5 : DV w5 _ (R + R + 1) := Rd.below hu4 hb5
                have hbn5 : DV w5 _ n := Rd.below hbn4 hb5
                have hrow5 : Row w5 g 3 (Q.map D64) := (Row.keep hrow (Bel.to (Bel.al hb3 _) hb4)).keep hb5
                have hbel5 := Bel.to bw4 hb5
                obtain ⟨y, hy⟩ : ∃ y, y = Q[i] := ⟨_, rfl⟩
                rw [← hy] at hS2 b3
                replace hS2 := hide hS2
                replace hy := hide hy
                go_wp2_with fail
                refine (rsub _ _ (R + R + 1) n _ hu5 hbn5 hge lV).mono ?_
                rintro e w6 ⟨u6, rfl, hu6, hb6, ho6⟩
                obtain ⟨uo6, un6, uc6, rfl⟩ := Rd.shape hu6
                have hrow6 := hrow5.keep hb6
                have hg5 := hrow5.lt
                have hne6 : (Value.slice uo6 un6 uc6).ownBlock ≠ some g := fun h => by have h1 := ho6 g h; omega
                have c6 := hrow6.cellV hiQ
                rw [← hy.out] at c6
                have f6 := hrow6.frozen i
                have hrow7 := hrow6.setV (V := D64) i (y + bt)
                rw [show D64 (y + bt) = .int .i64 ((y : Int) + (bt : Int)) by rw [← Int.natCast_add]] at hrow7
                have hR7 : DV _ _ (R + R + 1 - n) := Rd.setCell hu6 (p := ⟨g, i, none⟩) hne6 (.int .i64 ((y : Int) + (bt : Int)))
                have hbel7 := Bel.st (Bel.to hbel5 hb6) (p := ⟨g, i, none⟩) hgs (.int .i64 ((y : Int) + (bt : Int)))
                have hQ7 := hide (show (Q.set i (y + bt)).length = a.length by rw [List.length_set]; exact hQl.out)
                replace hne6 := hide hne6
                go_wp2
                go_roundw
                case rel => exact ⟨bt / 2, R + R + 1 - n, Q.set i (y + bt), uo6, un6, uc6, rfl, by go_num, by omega, hrow7, hQ7, hS2, hR7, hne6, hbel7⟩
                case measure => simp [intOf]; omega
              · have hcv : cmpV (R + R + 1) n < 0 := by unfold cmpV; rw [if_pos (by omega)]; decide
                have hS2 := b4.out (by omega)
                rw [show 2 * R + z % 2 = R + R + 1 by omega] at hS2
                replace hS2 := hide hS2
                have hR5 := Rd.below hu4 hb5
                have hrow5 : Row w5 g 3 (Q.map D64) := (Row.keep hrow (Bel.to (Bel.al hb3 _) hb4)).keep hb5
                have hne5 : Hid ((Value.slice uo4 un4 uc4).ownBlock ≠ some g) := by
                  show _ ≠ _
                  intro h
                  have h1 := ho4 g h
                  have h2 := hrow.lt
                  have h3 := hb3.size; simp at h1; omega
                have hbel5 := Bel.to bw4 hb5
                go_wp2
                go_roundw
                case rel => exact ⟨bt / 2, R + R + 1, Q, uo4, un4, uc4, rfl, by go_num, by omega, hrow5, hQl, hS2, hR5, hne5, hbel5⟩
                case measure => simp [intOf]; omega
            · have hd : decide (z % 2 = 1) = false := decide_eq_false hbeta
              rw [hd]
              have bw3 : Below w.heap.size w w3 := Bel.to hbel hb3
              have hbn3 : DV w3 (.slice ab nb cb) n := Rd.below hbD bw3
              go_wp2_with fail
              refine (rcmp _ _ (R + R) n _ hu3 hbn3).mono ?_
              rintro e w5 ⟨rfl, hb5⟩
              by_cases hge : n ≤ R + R
              · have hcv : ¬ cmpV (R + R) n < 0 := by unfold cmpV; split <;> (try split) <;> omega
                have hcv2 : 0 ≤ cmpV (R + R) n := by omega
                have hS2 := b5.out (by omega)
                rw [show 2 * R + z % 2 - n = R + R - n by omega] at hS2
                have lV : (digs (R + R)).length ≤ 1000 := by have := hl2.out (R + R) (by omega); omega
                have hu5 : DV w5 _ (R + R) := Rd.below hu3 hb5
                have hbn5 : DV w5 _ n := Rd.below hbn3 hb5
                have hrow5 : Row w5 g 3 (Q.map D64) := (Row.keep hrow hb3).keep hb5
                have hbel5 := Bel.to bw3 hb5
                obtain ⟨y, hy⟩ : ∃ y, y = Q[i] := ⟨_, rfl⟩
                rw [← hy] at hS2 b3
                replace hS2 := hide hS2
                replace hy := hide hy
                go_wp2_with fail
                refine (rsub _ _ (R + R) n _ hu5 hbn5 hge lV).mono ?_
                rintro e w6 ⟨u6, rfl, hu6, hb6, ho6⟩
                obtain ⟨uo6, un6, uc6, rfl⟩ := Rd.shape hu6
                have hrow6 := hrow5.keep hb6
                have hg5 := hrow5.lt
                have hne6 : (Value.slice uo6 un6 uc6).ownBlock ≠ some g := fun h => by have h1 := ho6 g h; omega
                have c6 := hrow6.cellV hiQ
                rw [← hy.out] at c6
                have f6 := hrow6.frozen i
                have hrow7 := hrow6.setV (V := D64) i (y + bt)
                rw [show D64 (y + bt) = .int .i64 ((y : Int) + (bt : Int)) by rw [← Int.natCast_add]] at hrow7
                have hR7 : DV _ _ (R + R - n) := Rd.setCell hu6 (p := ⟨g, i, none⟩) hne6 (.int .i64 ((y : Int) + (bt : Int)))
                have hbel7 := Bel.st (Bel.to hbel5 hb6) (p := ⟨g, i, none⟩) hgs (.int .i64 ((y : Int) + (bt : Int)))
                have hQ7 := hide (show (Q.set i (y + bt)).length = a.length by rw [List.length_set]; exact hQl.out)
                replace hne6 := hide hne6
                go_wp2
                go_roundw
                case rel => exact ⟨bt / 2, R + R - n, Q.set i (y + bt), uo6, un6, uc6, rfl, by go_num, by omega, hrow7, hQ7, hS2, hR7, hne6, hbel7⟩
                case measure => simp [intOf]; omega
              · have hcv : cmpV (R + R) n < 0 := by unfold cmpV; rw [if_pos (by omega)]; decide
                have hS2 := b4.out (by omega)
                rw [show 2 * R + z % 2 = R + R by omega] at hS2
                replace hS2 := hide hS2
                have hR5 := Rd.below hu3 hb5
                have hrow5 : Row w5 g 3 (Q.map D64) := (Row.keep hrow hb3).keep hb5
                have hne5 : Hid ((Value.slice uo3 un3 uc3).ownBlock ≠ some g) := by
                  show _ ≠ _
                  intro h
                  have h1 := ho3 g h
                  have h2 := hrow.lt
                  omega
                have hbel5 := Bel.to bw3 hb5
                go_wp2
                go_roundw
                case rel => exact ⟨bt / 2, R + R, Q, uo3, un3, uc3, rfl, by go_num, by omega, hrow5, hQl, hS2, hR5, hne5, hbel5⟩
                case measure => simp [intOf]; omega
end Go.Proofs.Ytompjmcbfgckiaa

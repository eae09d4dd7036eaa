/- lotteryref03: trim, Valid, digit, Halves. -/
import Derived.Test.YtompjmcbfgckiaaDig
import Derived.Test.YtompjmcbfgckiaaAwake
open Go.RowKit
set_option linter.unusedVariables false
set_option linter.unusedSimpArgs false
namespace Go.Proofs.Ytompjmcbfgckiaa

abbrev D64 (n : Nat) : Value := .int .i64 (n : Int)

theorem own_len {ao : Option Addr} {n n' c c' : Nat} : (Value.slice ao n c).ownBlock = (Value.slice ao n' c').ownBlock := by cases ao <;> rfl

/-- A number by its digits. -/
def DV (w : World) (v : Value) (n : Nat) : Prop := Rd D64 w v (digs n)

/-- A number's digits in a row of the call's own. -/
def SomeDig (n : Nat) (w : World) (e : Ending) (w' : World) : Prop := ∃ v, e = .returned v ∧ DV w' v n ∧ Below w.heap.size w w' ∧ ∀ k, v.ownBlock = some k → w.heap.size ≤ k

/-- A number's digits in the row of v. -/
def CutDig (u : Value) (n : Nat) (w : World) (e : Ending) (w' : World) : Prop := ∃ v, e = .returned v ∧ DV w' v n ∧ Below w.heap.size w w' ∧ ∀ k, v.ownBlock = some k → u.ownBlock = some k

theorem rtrim (v : Value) (l : List Nat) (w : World) (h : Rd D64 w v l) (hs : DSmall l) :
    Calls Try.prog 57 #[v] w (CutDig v (dval l) w) := by
  obtain ⟨ao, cap, rfl, hlc, hcm, hr⟩ := h.form
  have hcm : cap ≤ 9223372036854775807 := by unfold maxLen at hcm; omega
  go_enter Try.func57, Try.ntmps57
  go_wp2
  go_loop [3] (fun t => ∃ n : Nat, n ≤ l.length ∧ t = .int .i64 n ∧ Hid (dval (l.take n) = dval l)) (fun t => (intOf t).toNat)
  case atStart => exact ⟨l.length, Nat.le_refl _, rfl, by show dval (l.take l.length) = dval l; rw [List.take_length]⟩
  case round =>
    obtain ⟨n, hn, rfl, hv⟩ := hrel
    by_cases h0 : n = 0
    · subst h0
      have HZ := hide (show dval l = 0 by rw [← hv.out]; simp [dval])
      have hcut := hr.take (n := 0) (c := cap) rfl hn (Nat.zero_le _) (by unfold maxLen; omega)
      clear hv
      go_wp2
      go_ret
      refine ⟨.slice _ _ cap, rfl, ?_, Below.refl _ _, fun k hk => own_len.trans hk⟩
      show Rd _ _ _ _
      rw [HZ.out, digs_zero]
      rw [List.take_zero] at hcut
      exact hcut
    · have hk : n - 1 < l.length := by omega
      obtain ⟨b, off, rfl, hb, hc⟩ := hr.at_ hk
      have hc1 := hc (n - 1) hk
      clear hc
      by_cases h1 : l[n - 1] = 0
      · have hn1 : Hid (dval (l.take (n - 1)) = dval l) := by
          show _ = _
          rw [← hv.out]
          have := dval_take_succ l (n - 1) hk
          rw [h1, Nat.sub_add_cancel (by omega)] at this
          rw [this]; simp
        have h1' : ((l[n - 1] : Nat) : Int) = 0 := by omega
        go_wp2
        go_round
        case rel => exact ⟨n - 1, by omega, by go_num, hn1⟩
        case measure => simp [intOf]; omega
      · have h1' : (((l[n - 1] : Nat) : Int) == 0) = false := by simpa using h1
        have hl := digs_take hs (by omega : 0 < n) hn h1
        rw [hv.out] at hl
        have HL := hide hl
        have hcut := hr.take (n := n) (c := cap) rfl hn (by omega) (by unfold maxLen; omega)
        clear h1 hl hv
        go_wp2
        go_ret
        refine ⟨.slice _ _ cap, rfl, ?_, Below.refl _ _, fun k hk => own_len.trans hk⟩
        show Rd _ _ _ _
        rw [HL.out]
        exact hcut

theorem rvalid (v : Value) (n : Nat) (w : World) (h : NV w v n) (hn : (limbs n).length ≤ 64) :
    Calls Try.prog 39 #[.agg #[v]] w (BoolB true w) := by
  obtain ⟨ao, cap, rfl, hlc, hcm, hr⟩ := Rd.form h
  have hcm : cap ≤ 9223372036854775807 := by unfold maxLen at hcm; omega
  by_cases h0 : (limbs n).length = 0
  · go_enter Try.func39, Try.ntmps39
    go_wp2
    go_ret
    exact ⟨rfl, (Below.refl _ _).alloc (Nat.le_refl _) _⟩
  · have hl := limbs_last (n := n) (by omega)
    have hk : (limbs n).length - 1 < (limbs n).length := by omega
    obtain ⟨b, off, rfl, hb, hc⟩ := hr.at_ hk
    have hc1 := hc _ hk
    clear hc
    have hx : ((((limbs n)[(limbs n).length - 1] : Nat) : Int) != 0) = true := by simpa using hl
    clear hl
    go_enter Try.func39, Try.ntmps39
    go_wp2
    go_ret
    exact ⟨rfl, (Below.refl _ _).alloc (Nat.le_refl _) _⟩

theorem digit_any (v : Value) (l : List Nat) (i : Nat) (w : World) (h : Rd D64 w v l) :
    Calls Try.prog 58 #[v, .int .i64 (i : Int)] w (Pure (.int .i64 ((l.getD i 0 : Nat) : Int)) w) := by
  obtain ⟨ao, cap, rfl, hlc, hcm, hr⟩ := Rd.form h
  have hcm : cap ≤ 9223372036854775807 := by unfold maxLen at hcm; omega
  by_cases hi : i < l.length
  · obtain ⟨b, off, rfl, hb, hc⟩ := hr.at_ hi
    have hc1 := hc _ hi
    clear hc
    have hgd : l.getD i 0 = l[i] := by rw [List.getD_eq_getElem?_getD, List.getElem?_eq_getElem hi]; rfl
    rw [hgd]
    clear hgd
    go_enter Try.func58, Try.ntmps58
    go_wp2
    go_ret
    exact ⟨rfl, rfl⟩
  · have hgd : l.getD i 0 = 0 := by rw [List.getD_eq_getElem?_getD, List.getElem?_eq_none (by omega)]; rfl
    rw [hgd]
    clear hgd
    go_enter Try.func58, Try.ntmps58
    go_wp2
    go_ret
    exact ⟨rfl, rfl⟩

def halvesL : List Nat → List Nat
  | [] => []
  | x :: t => x % 65536 :: x / 65536 :: halvesL t

theorem halvesL_append (a b : List Nat) : halvesL (a ++ b) = halvesL a ++ halvesL b := by
  induction a with
  | nil => rfl
  | cons x t ih => simp only [List.cons_append, halvesL, ih]
theorem halvesL_length (a : List Nat) : (halvesL a).length = 2 * a.length := by
  induction a with
  | nil => rfl
  | cons x t ih => simp only [halvesL, List.length_cons, ih]; omega
theorem halvesL_val (a : List Nat) : dval (halvesL a) = val a := by
  induction a with
  | nil => rfl
  | cons x t ih => simp only [halvesL, dval, val, ih]; omega
theorem halvesL_small {a : List Nat} (h : Small a) : DSmall (halvesL a) := by
  induction a with
  | nil => intro x hx; cases hx
  | cons x t ih =>
    obtain ⟨h1, h2⟩ := small_cons h
    intro y hy
    simp only [halvesL, List.mem_cons] at hy
    rcases hy with rfl | rfl | hy
    · omega
    · omega
    · exact ih h2 y hy

set_option maxHeartbeats 2000000 in
set_option maxRecDepth 100000 in
theorem halves (v : Value) (n : Nat) (w : World) (h : NV w v n) (hn : (limbs n).length ≤ 1000) :
    Calls Try.prog 42 #[.agg #[v]] w (SomeDig n w) := by
  have hsm := hide (small_limbs n)
  have hvl := hide (val_limbs n)
  unfold NV at h
  obtain ⟨l, hl⟩ : ∃ l, l = limbs n := ⟨_, rfl⟩
  rw [← hl] at h hn hsm hvl
  clear hl
  obtain ⟨ao, cap, rfl, hlc, hcm, hr⟩ := Rd.form h
  have hcm : cap ≤ 9223372036854775807 := by unfold maxLen at hcm; omega
  go_enter Try.func42, Try.ntmps42
  go_wp2
  obtain ⟨W, hW⟩ : ∃ W, W = w.alloc (Obj.cells #[.slice ao l.length cap] 24) := ⟨_, rfl⟩
  have b0 : W.cell? ⟨w.heap.size, 0, none⟩ = some (.slice ao l.length cap) := by rw [hW]; go_simp
  have hbW : Below w.heap.size w W := by rw [hW]; exact Bel.al (Below.refl _ _) _
  have hsW : w.heap.size < W.heap.size := by rw [hW]; simp
  rw [← hW]
  clear hW
  have hrW := hr.below hbW
  go_loopw [3, 4] (fun vv jj wr => ∃ (j : Nat) (A : List Nat) (bo : Option Addr) (cap2 : Nat), vv = .slice bo A.length cap2 ∧ jj = .int .i64 j ∧ j ≤ l.length ∧ A.length ≤ 2000 ∧ Hid (A = halvesL (l.take j)) ∧ Own D64 wr W.heap.size 3 (.slice bo A.length cap2) A ∧ Below W.heap.size W wr) (fun _ j _ => l.length - (intOf j).toNat)
  case atStart => exact ⟨0, [], none, 0, rfl, rfl, Nat.zero_le _, Nat.zero_le _, rfl, Own.nil _ _ _, Below.refl _ _⟩
  case round =>
    obtain ⟨j, A, bo, cap2, rfl, rfl, hj, hA2, hA, hown, hbel⟩ := hrel
    have c0 := Bel.cellOf hbel b0
    by_cases hjl : j < l.length
    · obtain ⟨b, off, rfl, hb, hc⟩ := hrW.at_ hjl
      have c1 := Bel.cellOf hbel (hc j hjl)
      have hc1 := hide (show ∀ i (hi : i < l.length), ∀ x, x = l[i] → W.cell? ⟨b, off + i, none⟩ = some (U32 x) by intro i hi x hx; rw [hx]; exact hc i hi)
      clear hc
      have hA3 := hide (show A ++ [l[j] % 65536, l[j] / 65536] = halvesL (l.take (j + 1)) by rw [take_snoc l j hjl, halvesL_append, ← hA.out]; rfl)
      have hAl : A.length = 2 * j := by rw [hA.out, halvesL_length, List.length_take]; omega
      have hAl2 : A.length + 2 ≤ 2000 := by omega
      replace hAl := hide hAl
      have hx : l[j] < 4294967296 := small_get hsm.out hjl
      obtain ⟨x, hxe⟩ : ∃ x, x = l[j] := ⟨_, rfl⟩
      rw [← hxe] at c1 hA3 hx
      replace hxe := hide hxe
      go_wp2_with (with_reducible refine wpList_append_rd _ rfl _ _ 37 rfl (V := D64) (fun _ => rfl) W.heap.size 3 (.int .i64 0) 8 Try.underlying37 infoInt rfl _ A rfl (hown.alloc _) _ [x % 65536] rfl ?_ ?_ ?_ ?_ ?_)
      case refine_1 => exact Rd.new _ rfl rfl (Nat.le_refl _) (by decide) (by simp)
      case refine_2 => simp; omega
      case refine_3 => simp; omega
      case refine_4 => have := hbel.size; simp; omega
      intro v4 w4 hown4 hg4 hv4
      have hsz3 := hbel.size
      have hb4 : Below W.heap.size W w4 := (Bel.al hbel _).grown hg4 (by simp; omega) (fun g hg => (hown.lt g hg).1)
      obtain ⟨bo4, cap4, rfl⟩ := hown4.shape
      have hl1 : (A ++ [x % 65536]).length = A.length + 1 := by simp
      have c04 := Bel.cellOf hb4 b0
      have c14 : w4.cell? ⟨b, off + j, none⟩ = some (U32 x) := Bel.cellOf hb4 (hc1.out j hjl x hxe.out)
      have hs4 := hb4.size
      have hl2 : (A ++ [x % 65536]).length + 1 ≤ 2000 := by rw [hl1]; omega
      clear c0 c1
      go_wp2_with (with_reducible refine wpList_append_rd _ rfl _ _ 37 rfl (V := D64) (fun _ => rfl) W.heap.size 3 (.int .i64 0) 8 Try.underlying37 infoInt rfl _ (A ++ [x % 65536]) rfl (hown4.alloc _) _ [x / 65536] rfl ?_ ?_ ?_ ?_ ?_)
      case refine_1 => exact Rd.new _ rfl rfl (Nat.le_refl _) (by decide) (by simp)
      case refine_2 => simp; omega
      case refine_3 => simp; omega
      case refine_4 => simp; omega
      intro v5 w5 hown5 hg5 hv5
      have hb5 : Below W.heap.size W w5 := (Bel.al hb4 _).grown hg5 (by simp; omega) (fun g hg => (hown4.lt g (by simpa using hg)).1)
      obtain ⟨bo5, cap5, rfl⟩ := hown5.shape
      clear c04 c14 hl1
      go_wp2
      go_roundw
      case rel => exact ⟨j + 1, A ++ [x % 65536, x / 65536], bo5, cap5, by simp, by go_num, by omega, by simp at hl2 ⊢; omega, hA3, by simpa using hown5, hb5⟩
      case measure => simp [intOf]; omega
    · have hA3 := hide (show A = halvesL l by rw [hA.out, List.take_of_length_le (by omega)])
      have hrd := hown.rd
      have hds := hide (show DSmall A by rw [hA3.out]; exact halvesL_small hsm.out)
      have hdv := hide (show dval A = n by rw [hA3.out, halvesL_val, hvl.out])
      clear hA
      go_wp2_with fail
      refine (rtrim _ A _ hrd hds.out).mono ?_
      rintro e w5 ⟨u, rfl, hu, hb5, ho5⟩
      obtain ⟨uo, ucap, rfl, -, -, -⟩ := Rd.form hu
      rw [hdv.out] at hu ⊢
      go_wp2
      go_ret
      exact ⟨.slice uo _ ucap, rfl, hu, Bel.to (Bel.to hbW hbel) hb5, fun k hk => by have := (hown.lt k (ho5 k (own_len.trans hk))).1; omega⟩
end Go.Proofs.Ytompjmcbfgckiaa

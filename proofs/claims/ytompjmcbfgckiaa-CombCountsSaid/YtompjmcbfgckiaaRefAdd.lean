/- lotteryref03: add of digits. -/
import Derived.Test.YtompjmcbfgckiaaRefDig
open Go.RowKit
set_option linter.unusedVariables false
set_option linter.unusedSimpArgs false
namespace Go.Proofs.Ytompjmcbfgckiaa

theorem dval_drop (a : List Nat) (i : Nat) : dval (a.drop i) = a.getD i 0 + 65536 * dval (a.drop (i + 1)) := by
  by_cases h : i < a.length
  · rw [List.drop_eq_getElem_cons h, dval, List.getD_eq_getElem?_getD, List.getElem?_eq_getElem h]; rfl
  · rw [List.drop_of_length_le (by omega), List.drop_of_length_le (by omega), List.getD_eq_getElem?_getD, List.getElem?_eq_none (by omega)]; rfl

theorem dgetD {a : List Nat} (h : DSmall a) (i : Nat) : a.getD i 0 < 65536 := by
  by_cases hi : i < a.length
  · rw [List.getD_eq_getElem?_getD, List.getElem?_eq_getElem hi]; exact h _ (List.getElem_mem hi)
  · rw [List.getD_eq_getElem?_getD, List.getElem?_eq_none (by omega)]; decide

theorem dgetD0 {a : List Nat} {i : Nat} (hi : a.length ≤ i) : a.getD i 0 = 0 := by
  rw [List.getD_eq_getElem?_getD, List.getElem?_eq_none hi]; rfl

theorem dsmall_snoc {a : List Nat} (h : DSmall a) {x : Nat} (hx : x < 65536) : DSmall (a ++ [x]) := by
  intro y hy
  rcases List.mem_append.1 hy with hy | hy
  · exact h y hy
  · rw [List.mem_singleton.1 hy]; exact hx

theorem dval_snoc (a : List Nat) (x : Nat) : dval (a ++ [x]) = dval a + 65536 ^ a.length * x := by
  rw [dval_append, dval, dval]; simp

/-- A round of the sum. -/
theorem add_step {A a b : List Nat} {i c S : Nat} (hl : A.length = i) (h : dval A + 65536 ^ i * (c + dval (a.drop i) + dval (b.drop i)) = S) :
    dval (A ++ [(a.getD i 0 + b.getD i 0 + c) % 65536]) + 65536 ^ (i + 1) * ((a.getD i 0 + b.getD i 0 + c) / 65536 + dval (a.drop (i + 1)) + dval (b.drop (i + 1))) = S := by
  rw [dval_drop a i, dval_drop b i] at h
  rw [dval_snoc, hl, Nat.pow_succ]
  obtain ⟨x, hx⟩ : ∃ x, x = a.getD i 0 + b.getD i 0 + c := ⟨_, rfl⟩
  rw [← hx]
  have := Nat.div_add_mod x 65536
  obtain ⟨q, hq⟩ : ∃ q, q = x / 65536 := ⟨_, rfl⟩
  obtain ⟨r, hr⟩ : ∃ r, r = x % 65536 := ⟨_, rfl⟩
  rw [← hq, ← hr] at this ⊢
  clear hq hr
  grind

set_option maxHeartbeats 4000000 in
set_option maxRecDepth 100000 in
theorem radd_lists (va vb : Value) (a b : List Nat) (w : World) (ha : Rd D64 w va a) (hb : Rd D64 w vb b) (sa : DSmall a) (sb : DSmall b) (la : a.length ≤ 1000) (lb : b.length ≤ 1000) :
    Calls Try.prog 41 #[va, vb] w (SomeDig (dval a + dval b) w) := by
  obtain ⟨aa, ca, rfl, hla, hca, hra⟩ := Rd.form ha
  obtain ⟨ab, cb, rfl, hlb, hcb, hrb⟩ := Rd.form hb
  have hca' : ca ≤ 9223372036854775807 := by unfold maxLen at hca; omega
  have hcb' : cb ≤ 9223372036854775807 := by unfold maxLen at hcb; omega
  have SA := hide sa
  have SB := hide sb
  clear sa sb ha hb
  by_cases hab : a.length < b.length
  · have hK1 : a.length ≤ b.length := by omega
    have hK2 : b.length ≤ b.length := by omega
    go_enter Try.func41, Try.ntmps41
    go_wp2
    go_loopw [6, 7, 8] (fun vv cc jj wr => ∃ (j c : Nat) (A : List Nat) (bo : Option Addr) (cap2 : Nat), vv = .slice bo A.length cap2 ∧ jj = .int .i64 j ∧ cc = .int .i64 c ∧ c ≤ 1 ∧ j ≤ b.length + 1 ∧ Hid (A.length = j) ∧ A.length ≤ 1001 ∧ Hid (j = b.length + 1 → c = 0) ∧ Hid (DSmall A) ∧ Hid (dval A + 65536 ^ j * (c + dval (a.drop j) + dval (b.drop j)) = dval a + dval b) ∧ Own D64 wr w.heap.size 3 (.slice bo A.length cap2) A ∧ Below w.heap.size w wr) (fun _ _ j _ => b.length + 1 - (intOf j).toNat)
    case atStart => exact ⟨0, 0, [], none, 0, rfl, rfl, rfl, by omega, by omega, rfl, Nat.zero_le _, fun _ => rfl, (fun x hx => by cases hx), by show _ = _; simp [dval], Own.nil _ _ _, Below.refl _ _⟩
    case round =>
      obtain ⟨j, c, A, bo, cap2, rfl, rfl, rfl, hc1, hj, hAl, hA1, hc0, hsm, hE, hown, hbel⟩ := hrel
      by_cases hjl : j ≤ b.length
      · have hra2 := hra.below hbel
        have hrb2 := hrb.below hbel
        have x1 := dgetD SA.out j
        have x2 := dgetD SB.out j
        have hE2 := hide (add_step hAl.out hE.out)
        have hz : j = b.length → (a.getD j 0 + b.getD j 0 + c) / 65536 = 0 := by
          intro h
          rw [dgetD0 (by omega), dgetD0 (by omega)]; omega
        obtain ⟨p, hp⟩ : ∃ p, p = a.getD j 0 := ⟨_, rfl⟩
        obtain ⟨q, hq⟩ : ∃ q, q = b.getD j 0 := ⟨_, rfl⟩
        rw [← hp, ← hq] at hE2 hz
        rw [← hp] at x1
        rw [← hq] at x2
        replace hp := hide hp
        replace hq := hide hq
        have hz2 := hide (show j + 1 = b.length + 1 → (p + q + c) / 65536 = 0 by intro h; exact hz (by omega))
        have hs2 := hide (dsmall_snoc hsm.out (show (p + q + c) % 65536 < 65536 by omega))
        have hAl3 : A.length = j := hAl.out
        have hAl2 : A.length + 1 ≤ 1001 := by omega
        have hAl4 := hide (show (A ++ [(p + q + c) % 65536]).length = j + 1 by rw [List.length_append, List.length_singleton, hAl3])
        clear hAl3 hz hE hAl
        go_wp2_with fail
        refine (digit_any _ a j _ hra2).mono ?_
        rintro e w2 ⟨rfl, rfl⟩
        rw [← hp.out]
        go_wp2_with fail
        refine (digit_any _ b j _ hrb2).mono ?_
        rintro e w2 ⟨rfl, rfl⟩
        rw [← hq.out]
        go_wp2_with (with_reducible refine wpList_append_rd _ rfl _ _ 37 rfl (V := D64) (fun _ => rfl) w.heap.size 3 (.int .i64 0) 8 Try.underlying37 infoInt rfl _ A rfl (hown.alloc _) _ [(p + q + c) % 65536] rfl ?_ ?_ ?_ ?_ ?_)
        case refine_1 => exact Rd.new _ rfl rfl (Nat.le_refl _) (by decide) (by simp)
        case refine_2 => simp; omega
        case refine_3 => simp; omega
        case refine_4 => have := hbel.size; simp; omega
        intro v4 w4 hown4 hg4 hv4
        have hsz3 := hbel.size
        have hb4 : Below w.heap.size w w4 := (Bel.al hbel _).grown hg4 (by simp; omega) (fun g hg => (hown.lt g hg).1)
        obtain ⟨bo4, cap4, rfl⟩ := hown4.shape
        have hq1 := hide (show (p + q + c) / 65536 ≤ 1 by omega)
        go_wp2
        go_roundw
        case rel => exact ⟨j + 1, (p + q + c) / 65536, _, bo4, cap4, rfl, by go_num, by go_num, hq1.out, by omega, hAl4, by simp; omega, hz2, hs2, hE2, hown4, hb4⟩
        case measure => simp [intOf]; omega
      · have hjj : j = b.length + 1 := by omega
        have hcz := hc0.out hjj
        have hE2 := hE.out
        rw [hcz, List.drop_of_length_le (by omega), List.drop_of_length_le (by omega)] at hE2
        have hE3 := hide (show dval A = dval a + dval b by simpa [dval] using hE2)
        have hrd := hown.rd
        clear hE hE2 hc0 hjj hcz
        go_wp2_with fail
        refine (rtrim _ A _ hrd hsm.out).mono ?_
        rintro e w5 ⟨u, rfl, hu, hb5, ho5⟩
        obtain ⟨uo, ucap, rfl, -, -, -⟩ := Rd.form hu
        rw [hE3.out] at hu ⊢
        go_wp2
        go_ret
        exact ⟨.slice uo _ ucap, rfl, hu, Bel.to hbel hb5, fun k hk => (hown.lt k (ho5 k (own_len.trans hk))).1⟩
  · have hK1 : a.length ≤ a.length := by omega
    have hK2 : b.length ≤ a.length := by omega
    go_enter Try.func41, Try.ntmps41
    go_wp2
    go_loopw [6, 7, 8] (fun vv cc jj wr => ∃ (j c : Nat) (A : List Nat) (bo : Option Addr) (cap2 : Nat), vv = .slice bo A.length cap2 ∧ jj = .int .i64 j ∧ cc = .int .i64 c ∧ c ≤ 1 ∧ j ≤ a.length + 1 ∧ Hid (A.length = j) ∧ A.length ≤ 1001 ∧ Hid (j = a.length + 1 → c = 0) ∧ Hid (DSmall A) ∧ Hid (dval A + 65536 ^ j * (c + dval (a.drop j) + dval (b.drop j)) = dval a + dval b) ∧ Own D64 wr w.heap.size 3 (.slice bo A.length cap2) A ∧ Below w.heap.size w wr) (fun _ _ j _ => a.length + 1 - (intOf j).toNat)
    case atStart => exact ⟨0, 0, [], none, 0, rfl, rfl, rfl, by omega, by omega, rfl, Nat.zero_le _, fun _ => rfl, (fun x hx => by cases hx), by show _ = _; simp [dval], Own.nil _ _ _, Below.refl _ _⟩
    case round =>
      obtain ⟨j, c, A, bo, cap2, rfl, rfl, rfl, hc1, hj, hAl, hA1, hc0, hsm, hE, hown, hbel⟩ := hrel
      by_cases hjl : j ≤ a.length
      · have hra2 := hra.below hbel
        have hrb2 := hrb.below hbel
        have x1 := dgetD SA.out j
        have x2 := dgetD SB.out j
        have hE2 := hide (add_step hAl.out hE.out)
        have hz : j = a.length → (a.getD j 0 + b.getD j 0 + c) / 65536 = 0 := by
          intro h
          rw [dgetD0 (by omega), dgetD0 (by omega)]; omega
        obtain ⟨p, hp⟩ : ∃ p, p = a.getD j 0 := ⟨_, rfl⟩
        obtain ⟨q, hq⟩ : ∃ q, q = b.getD j 0 := ⟨_, rfl⟩
        rw [← hp, ← hq] at hE2 hz
        rw [← hp] at x1
        rw [← hq] at x2
        replace hp := hide hp
        replace hq := hide hq
        have hz2 := hide (show j + 1 = a.length + 1 → (p + q + c) / 65536 = 0 by intro h; exact hz (by omega))
        have hs2 := hide (dsmall_snoc hsm.out (show (p + q + c) % 65536 < 65536 by omega))
        have hAl3 : A.length = j := hAl.out
        have hAl2 : A.length + 1 ≤ 1001 := by omega
        have hAl4 := hide (show (A ++ [(p + q + c) % 65536]).length = j + 1 by rw [List.length_append, List.length_singleton, hAl3])
        clear hAl3 hz hE hAl
        go_wp2_with fail
        refine (digit_any _ a j _ hra2).mono ?_
        rintro e w2 ⟨rfl, rfl⟩
        rw [← hp.out]
        go_wp2_with fail
        refine (digit_any _ b j _ hrb2).mono ?_
        rintro e w2 ⟨rfl, rfl⟩
        rw [← hq.out]
        go_wp2_with (with_reducible refine wpList_append_rd _ rfl _ _ 37 rfl (V := D64) (fun _ => rfl) w.heap.size 3 (.int .i64 0) 8 Try.underlying37 infoInt rfl _ A rfl (hown.alloc _) _ [(p + q + c) % 65536] rfl ?_ ?_ ?_ ?_ ?_)
        case refine_1 => exact Rd.new _ rfl rfl (Nat.le_refl _) (by decide) (by simp)
        case refine_2 => simp; omega
        case refine_3 => simp; omega
        case refine_4 => have := hbel.size; simp; omega
        intro v4 w4 hown4 hg4 hv4
        have hsz3 := hbel.size
        have hb4 : Below w.heap.size w w4 := (Bel.al hbel _).grown hg4 (by simp; omega) (fun g hg => (hown.lt g hg).1)
        obtain ⟨bo4, cap4, rfl⟩ := hown4.shape
        have hq1 := hide (show (p + q + c) / 65536 ≤ 1 by omega)
        go_wp2
        go_roundw
        case rel => exact ⟨j + 1, (p + q + c) / 65536, _, bo4, cap4, rfl, by go_num, by go_num, hq1.out, by omega, hAl4, by simp; omega, hz2, hs2, hE2, hown4, hb4⟩
        case measure => simp [intOf]; omega
      · have hjj : j = a.length + 1 := by omega
        have hcz := hc0.out hjj
        have hE2 := hE.out
        rw [hcz, List.drop_of_length_le (by omega), List.drop_of_length_le (by omega)] at hE2
        have hE3 := hide (show dval A = dval a + dval b by simpa [dval] using hE2)
        have hrd := hown.rd
        clear hE hE2 hc0 hjj hcz
        go_wp2_with fail
        refine (rtrim _ A _ hrd hsm.out).mono ?_
        rintro e w5 ⟨u, rfl, hu, hb5, ho5⟩
        obtain ⟨uo, ucap, rfl, -, -, -⟩ := Rd.form hu
        rw [hE3.out] at hu ⊢
        go_wp2
        go_ret
        exact ⟨.slice uo _ ucap, rfl, hu, Bel.to hbel hb5, fun k hk => (hown.lt k (ho5 k (own_len.trans hk))).1⟩

theorem radd (va vb : Value) (m n : Nat) (w : World) (ha : DV w va m) (hb : DV w vb n) (la : (digs m).length ≤ 1000) (lb : (digs n).length ≤ 1000) :
    Calls Try.prog 41 #[va, vb] w (SomeDig (m + n) w) := by
  have := radd_lists va vb _ _ w ha hb (dsmall_digs m) (dsmall_digs n) la lb
  rw [dval_digs, dval_digs] at this
  exact this
end Go.Proofs.Ytompjmcbfgckiaa

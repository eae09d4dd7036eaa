/- lotteryref05.Hits; the walk of the statement CombHits. -/
import Derived.Test.YtompjmcbfgckiaaRefCount
import Derived.Test.YtompjmcbfgckiaaAwake
open Go.RowKit
set_option linter.unusedVariables false
set_option linter.unusedSimpArgs false
namespace Go.Proofs.Ytompjmcbfgckiaa

theorem rhits_range (n k d h : Int) (w : World) (hr : ¬ (0 ≤ n ∧ n ≤ 80 ∧ 0 ≤ d ∧ d ≤ n)) : Calls Try.prog 17 #[.int .i64 n, .int .i64 k, .int .i64 d, .int .i64 h] w (IntP 0 2 w) := by
  by_cases hn : 0 ≤ n ∧ n ≤ 80
  · have hd : ¬ (0 ≤ d ∧ d ≤ n) := by omega
    clear hr
    go_enter Try.func17, Try.ntmps17
    go_wp2_with fail
    refine (in_yes _ _ _ hn.1 hn.2).mono ?_
    rintro e w' ⟨rfl, rfl⟩
    clear hn
    go_wp2_with fail
    refine (in_no _ _ _ hd).mono ?_
    rintro e w' ⟨rfl, rfl⟩
    clear hd
    go_wp2
    go_ret2
    exact ⟨rfl, rfl⟩
  · clear hr
    go_enter Try.func17, Try.ntmps17
    go_wp2_with fail
    refine (in_no _ _ _ hn).mono ?_
    rintro e w' ⟨rfl, rfl⟩
    clear hn
    go_wp2
    go_ret2
    exact ⟨rfl, rfl⟩

set_option maxHeartbeats 1000000 in
theorem rhits_out (n k d h : Int) (w : World) (hn1 : 0 ≤ n) (hn2 : n ≤ 80) (hd1 : 0 ≤ d) (hd2 : d ≤ n) (ho : ¬ (0 ≤ k ∧ k ≤ n) ∨ ((0 ≤ k ∧ k ≤ n) ∧ ¬ (0 ≤ h ∧ h ≤ d)) ∨ ((0 ≤ k ∧ k ≤ n) ∧ (0 ≤ h ∧ h ≤ d) ∧ ¬ (0 ≤ k - h ∧ k - h ≤ n - d))) :
    Calls Try.prog 17 #[.int .i64 n, .int .i64 k, .int .i64 d, .int .i64 h] w (IntP 0 0 w) := by
  rcases ho with h1 | ⟨h1, h2⟩ | ⟨h1, h2, h3⟩
  · go_enter Try.func17, Try.ntmps17
    go_wp2_with fail
    refine (in_yes _ _ _ hn1 hn2).mono ?_
    rintro e w' ⟨rfl, rfl⟩
    go_wp2_with fail
    refine (in_yes _ _ _ hd1 hd2).mono ?_
    rintro e w' ⟨rfl, rfl⟩
    go_wp2_with fail
    refine (in_no _ _ _ h1).mono ?_
    rintro e w' ⟨rfl, rfl⟩
    clear h1
    go_wp2
    go_ret2
    exact ⟨rfl, rfl⟩
  · go_enter Try.func17, Try.ntmps17
    go_wp2_with fail
    refine (in_yes _ _ _ hn1 hn2).mono ?_
    rintro e w' ⟨rfl, rfl⟩
    go_wp2_with fail
    refine (in_yes _ _ _ hd1 hd2).mono ?_
    rintro e w' ⟨rfl, rfl⟩
    go_wp2_with fail
    refine (in_yes _ _ _ h1.1 h1.2).mono ?_
    rintro e w' ⟨rfl, rfl⟩
    go_wp2_with fail
    refine (in_no _ _ _ h2).mono ?_
    rintro e w' ⟨rfl, rfl⟩
    clear h1 h2
    go_wp2
    go_ret2
    exact ⟨rfl, rfl⟩
  · obtain ⟨h1a, h1b⟩ := h1
    obtain ⟨h2a, h2b⟩ := h2
    go_enter Try.func17, Try.ntmps17
    go_wp2_with fail
    refine (in_yes _ _ _ hn1 hn2).mono ?_
    rintro e w' ⟨rfl, rfl⟩
    go_wp2_with fail
    refine (in_yes _ _ _ hd1 hd2).mono ?_
    rintro e w' ⟨rfl, rfl⟩
    go_wp2_with fail
    refine (in_yes _ _ _ h1a h1b).mono ?_
    rintro e w' ⟨rfl, rfl⟩
    go_wp2_with fail
    refine (in_yes _ _ _ h2a h2b).mono ?_
    rintro e w' ⟨rfl, rfl⟩
    go_wp2_with fail
    refine (in_no _ _ _ h3).mono ?_
    rintro e w' ⟨rfl, rfl⟩
    clear h3
    go_wp2
    go_ret2
    exact ⟨rfl, rfl⟩

set_option maxHeartbeats 2000000 in
theorem rhits_in (n k d h : Int) (x c : Int) (w : World) (hn1 : 0 ≤ n) (hn2 : n ≤ 80) (hd1 : 0 ≤ d) (hd2 : d ≤ n) (hk1 : 0 ≤ k) (hk2 : k ≤ n) (hh1 : 0 ≤ h) (hh2 : h ≤ d) (hkh1 : 0 ≤ k - h) (hkh2 : k - h ≤ n - d) (a b : Nat) (ha : Hid (a = chooseI d h)) (hb : Hid (b = chooseI (n - d) (k - h)))
    (ha0 : 0 < a) (hb0 : 0 < b) (hx : Hid ((x, c) = mulV (a * b))) :
    Calls Try.prog 17 #[.int .i64 n, .int .i64 k, .int .i64 d, .int .i64 h] w (IntP x c w) := by
  have hca : countV d h = if a ≤ 9223372036854775807 then ((a : Int), 0) else (0, 9) := by unfold countV; rw [if_pos (by omega), ← ha.out]
  have hcb : countV (n - d) (k - h) = if b ≤ 9223372036854775807 then ((b : Int), 0) else (0, 9) := by unfold countV; rw [if_pos (by omega), ← hb.out]
  by_cases hal : a ≤ 9223372036854775807
  · rw [if_pos hal] at hca
    by_cases hbl : b ≤ 9223372036854775807
    · rw [if_pos hbl] at hcb
      replace hca := hide hca
      replace hcb := hide hcb
      go_enter Try.func17, Try.ntmps17
      go_wp2_with fail
      refine (in_yes _ _ _ hn1 hn2).mono ?_
      rintro e w' ⟨rfl, rfl⟩
      go_wp2_with fail
      refine (in_yes _ _ _ hd1 hd2).mono ?_
      rintro e w' ⟨rfl, rfl⟩
      go_wp2_with fail
      refine (in_yes _ _ _ hk1 hk2).mono ?_
      rintro e w' ⟨rfl, rfl⟩
      go_wp2_with fail
      refine (in_yes _ _ _ hh1 hh2).mono ?_
      rintro e w' ⟨rfl, rfl⟩
      go_wp2_with fail
      refine (in_yes _ _ _ hkh1 hkh2).mono ?_
      rintro e w' ⟨rfl, rfl⟩
      go_wp2_with fail
      refine (rcount_any _ _ _).mono ?_
      rintro e w' ⟨rfl, rfl⟩
      rw [hca.out]
      go_wp2_with fail
      refine (rcount_any _ _ _).mono ?_
      rintro e w' ⟨rfl, rfl⟩
      rw [hcb.out]
      go_wp2_with fail
      refine (rmul_pos a b _ hal hbl).mono ?_
      rintro e w' ⟨rfl, rfl⟩
      rw [← hx.out]
      go_wp2
      go_ret2
      exact ⟨rfl, rfl⟩
    · rw [if_neg hbl] at hcb
      have hge : ¬ a * b ≤ 9223372036854775807 := by
        have := Nat.le_mul_of_pos_left b ha0
        omega
      have hxx := hx.out
      unfold mulV at hxx
      rw [if_neg hge] at hxx
      injection hxx with e1 e2
      subst e1 e2
      replace hca := hide hca
      replace hcb := hide hcb
      clear hge hbl hx
      go_enter Try.func17, Try.ntmps17
      go_wp2_with fail
      refine (in_yes _ _ _ hn1 hn2).mono ?_
      rintro e w' ⟨rfl, rfl⟩
      go_wp2_with fail
      refine (in_yes _ _ _ hd1 hd2).mono ?_
      rintro e w' ⟨rfl, rfl⟩
      go_wp2_with fail
      refine (in_yes _ _ _ hk1 hk2).mono ?_
      rintro e w' ⟨rfl, rfl⟩
      go_wp2_with fail
      refine (in_yes _ _ _ hh1 hh2).mono ?_
      rintro e w' ⟨rfl, rfl⟩
      go_wp2_with fail
      refine (in_yes _ _ _ hkh1 hkh2).mono ?_
      rintro e w' ⟨rfl, rfl⟩
      go_wp2_with fail
      refine (rcount_any _ _ _).mono ?_
      rintro e w' ⟨rfl, rfl⟩
      rw [hca.out]
      go_wp2_with fail
      refine (rcount_any _ _ _).mono ?_
      rintro e w' ⟨rfl, rfl⟩
      rw [hcb.out]
      go_wp2
      go_ret2
      exact ⟨rfl, rfl⟩
  · rw [if_neg hal] at hca
    have hge : ¬ a * b ≤ 9223372036854775807 := by
      have := Nat.le_mul_of_pos_right a hb0
      omega
    have hxx := hx.out
    unfold mulV at hxx
    rw [if_neg hge] at hxx
    injection hxx with e1 e2
    subst e1 e2
    replace hca := hide hca
    clear hge hal hx hcb
    go_enter Try.func17, Try.ntmps17
    go_wp2_with fail
    refine (in_yes _ _ _ hn1 hn2).mono ?_
    rintro e w' ⟨rfl, rfl⟩
    go_wp2_with fail
    refine (in_yes _ _ _ hd1 hd2).mono ?_
    rintro e w' ⟨rfl, rfl⟩
    go_wp2_with fail
    refine (in_yes _ _ _ hk1 hk2).mono ?_
    rintro e w' ⟨rfl, rfl⟩
    go_wp2_with fail
    refine (in_yes _ _ _ hh1 hh2).mono ?_
    rintro e w' ⟨rfl, rfl⟩
    go_wp2_with fail
    refine (in_yes _ _ _ hkh1 hkh2).mono ?_
    rintro e w' ⟨rfl, rfl⟩
    go_wp2_with fail
    refine (rcount_any _ _ _).mono ?_
    rintro e w' ⟨rfl, rfl⟩
    rw [hca.out]
    go_wp2
    go_ret2
    exact ⟨rfl, rfl⟩

theorem chooseI_pos {n k : Int} (h0 : 0 ≤ k) (h1 : k ≤ n) : 0 < chooseI n k := by
  unfold chooseI
  rw [if_neg (by omega)]
  exact choose_pos (by omega)

theorem rhits_any (n k d h : Int) (w : World) : Calls Try.prog 17 #[.int .i64 n, .int .i64 k, .int .i64 d, .int .i64 h] w (IntP (hitsV n k d h).1 (hitsV n k d h).2 w) := by
  unfold hitsV
  by_cases hr : 0 ≤ n ∧ n ≤ 80 ∧ 0 ≤ d ∧ d ≤ n
  · rw [if_pos hr]
    obtain ⟨r1, r2, r3, r4⟩ := hr
    by_cases ho : (0 ≤ k ∧ k ≤ n) ∧ (0 ≤ h ∧ h ≤ d) ∧ (0 ≤ k - h ∧ k - h ≤ n - d)
    · obtain ⟨o1, o2, o3⟩ := ho
      have hh : hitsN n k d h = chooseI d h * chooseI (n - d) (k - h) := by unfold hitsN; rw [if_neg (by omega)]
      rw [hh]
      exact rhits_in n k d h _ _ w r1 r2 r3 r4 o1.1 o1.2 o2.1 o2.2 o3.1 o3.2 _ _ rfl rfl (chooseI_pos o2.1 o2.2) (chooseI_pos o3.1 o3.2) rfl
    · have hh : hitsN n k d h = 0 := by
        unfold hitsN
        by_cases hc : k < 0 ∨ n < k ∨ h < 0 ∨ d < h
        · rw [if_pos hc]
        · rw [if_neg hc]
          have : chooseI (n - d) (k - h) = 0 := by
            unfold chooseI
            by_cases h1 : k - h < 0
            · rw [if_pos h1]
            · rw [if_neg h1, choose_gt (by omega)]
          rw [this, Nat.mul_zero]
      rw [hh, if_pos (by omega)]
      exact rhits_out n k d h w r1 r2 r3 r4 (by omega)
  · rw [if_neg hr]
    exact rhits_range n k d h w hr

set_option maxHeartbeats 1000000 in
theorem hits_law (n k d h : Int) (w : World) : Calls Try.prog 4 #[.agg #[.int .i64 n, .int .i64 k, .int .i64 d, .int .i64 h]] w (BoolB true w) := by
  obtain ⟨x, c, hxc⟩ : ∃ x c, hitsV n k d h = (x, c) := ⟨_, _, rfl⟩
  have h1 := fun w => hits_any n k d h w
  have h2 := fun w => rhits_any n k d h w
  rw [hxc] at h1 h2
  have H1 := hide h1
  have H2 := hide h2
  clear h1 h2 hxc
  have e1 : (x == x) = true := by simp
  have e2 : (c == c) = true := by simp
  go_enter Try.func4, Try.ntmps4
  go_wp2_with fail
  refine (H1.out _).mono ?_
  rintro e w1 ⟨rfl, hb1⟩
  have c0 : w1.cell? ⟨w.heap.size, 0, none⟩ = some (.int .i64 n) := Bel.cellOf hb1 (by go_simp)
  have c1 : w1.cell? ⟨w.heap.size, 1, none⟩ = some (.int .i64 k) := Bel.cellOf hb1 (by go_simp)
  have c2 : w1.cell? ⟨w.heap.size, 2, none⟩ = some (.int .i64 d) := Bel.cellOf hb1 (by go_simp)
  have c3 : w1.cell? ⟨w.heap.size, 3, none⟩ = some (.int .i64 h) := Bel.cellOf hb1 (by go_simp)
  go_wp2_with fail
  refine (H2.out _).mono ?_
  rintro e w2 ⟨rfl, rfl⟩
  go_wp2_with fail
  refine (awake_any _).mono ?_
  rintro e w3 ⟨rfl, hb3⟩
  go_wp2
  go_ret
  exact ⟨rfl, Bel.to (Bel.one _ hb1) hb3⟩
end Go.Proofs.Ytompjmcbfgckiaa

/- lotteryref03: cmp and sub of digits. -/
import Derived.Test.YtompjmcbfgckiaaRefAdd
import Derived.Test.YtompjmcbfgckiaaRefRank
open Go.RowKit
set_option linter.unusedVariables false
set_option linter.unusedSimpArgs false
namespace Go.Proofs.Ytompjmcbfgckiaa

theorem dval_split (a : List Nat) (i : Nat) (h : i ≤ a.length) : dval a = dval (a.take i) + 65536 ^ i * dval (a.drop i) := by
  have := dval_append (a.take i) (a.drop i)
  rw [List.take_append_drop, List.length_take, Nat.min_eq_left h] at this
  exact this

theorem dval_ltd {a b : List Nat} (sa : DSmall a) {i : Nat} (ha : i < a.length) (hb : i < b.length) (he : dval (a.drop (i + 1)) = dval (b.drop (i + 1))) (hlt : a[i] < b[i]) : dval a < dval b := by
  have e1 := dval_split a i (by omega)
  have e2 := dval_split b i (by omega)
  rw [List.drop_eq_getElem_cons ha, dval] at e1
  rw [List.drop_eq_getElem_cons hb, dval, ← he] at e2
  have h1 := dval_lt (dsmall_take sa i)
  rw [List.length_take, Nat.min_eq_left (by omega)] at h1
  have h2 := Nat.mul_le_mul_left (65536 ^ i) (show a[i] + 65536 * dval (a.drop (i + 1)) + 1 ≤ b[i] + 65536 * dval (a.drop (i + 1)) by omega)
  rw [Nat.mul_add, Nat.mul_one] at h2
  omega

theorem digs_len_lt {m n : Nat} (h : (digs m).length < (digs n).length) : m < n := by
  have h1 := length_digs_lt.2 (Nat.le_refl (digs m).length)
  have h2 : ¬ n < 65536 ^ (digs m).length := fun h' => by have := length_digs_lt.1 h'; omega
  omega

def cmpV (m n : Nat) : Int := if m < n then -1 else if n < m then 1 else 0

set_option maxHeartbeats 2000000 in
set_option maxRecDepth 100000 in
theorem rcmp (va vb : Value) (m n : Nat) (w : World) (ha : DV w va m) (hb : DV w vb n) :
    Calls Try.prog 63 #[va, vb] w (DrewB (.int .i64 (cmpV m n)) w) := by
  unfold DV at ha hb
  have sa := hide (dsmall_digs m)
  have sb := hide (dsmall_digs n)
  have em := hide (dval_digs m)
  have en := hide (dval_digs n)
  have l1 := hide (digs_len_lt (m := m) (n := n))
  have l2 := hide (digs_len_lt (m := n) (n := m))
  have c1 := hide (show m < n → cmpV m n = -1 by intro h; unfold cmpV; rw [if_pos h])
  have c2 := hide (show n < m → cmpV m n = 1 by intro h; unfold cmpV; rw [if_neg (by omega), if_pos h])
  have c3 := hide (show m = n → cmpV m n = 0 by intro h; unfold cmpV; rw [if_neg (by omega), if_neg (by omega)])
  obtain ⟨a, hae⟩ : ∃ a, a = digs m := ⟨_, rfl⟩
  obtain ⟨b, hbe⟩ : ∃ b, b = digs n := ⟨_, rfl⟩
  rw [← hae] at ha sa em l1 l2
  rw [← hbe] at hb sb en l1 l2
  clear hae hbe
  obtain ⟨aa, ca, rfl, hla, hca, hra⟩ := Rd.form ha
  obtain ⟨ab, cb, rfl, hlb, hcb, hrb⟩ := Rd.form hb
  have hca' : ca ≤ 9223372036854775807 := by unfold maxLen at hca; omega
  have hcb' : cb ≤ 9223372036854775807 := by unfold maxLen at hcb; omega
  clear ha hb
  by_cases hl : a.length = b.length
  · have l3 : ((a.length : Int) != b.length) = false := by simp; omega
    have k1 : a.length ≤ b.length := by omega
    have k2 : b.length ≤ a.length := by omega
    replace hl := hide hl
    go_enter Try.func63, Try.ntmps63
    go_wp2
    go_loopw [5] (fun t wr => ∃ (j d : Nat), j ≤ a.length ∧ t = .int .i64 ((j : Int) - 1) ∧ wr = w.drewN d ∧ Hid (dval (a.drop j) = dval (b.drop j))) (fun t _ => (intOf t + 1).toNat)
    case atStart => exact ⟨a.length, 0, Nat.le_refl _, rfl, rfl, by show _ = _; rw [List.drop_of_length_le (Nat.le_refl _), List.drop_of_length_le (by omega)]⟩
    case round =>
      obtain ⟨j, d, hj, rfl, rfl, hE⟩ := hrel
      by_cases hj0 : j = 0
      · subst hj0
        have hmn : m = n := by have := hE.out; rw [List.drop_zero, List.drop_zero, em.out, en.out] at this; exact this
        have c4 := hide (c3.out hmn)
        clear hmn hE
        go_wp2
        go_ret
        exact ⟨by rw [c4.out]; rfl, Bel.drN (Below.refl _ _) _⟩
      · obtain ⟨i, rfl⟩ : ∃ i, j = i + 1 := ⟨j - 1, by omega⟩
        have hi1 : i < a.length := by omega
        have hi2 : i < b.length := by omega
        obtain ⟨ba, offa, rfl, hba, hcella⟩ := hra.at_ hi1
        obtain ⟨bb, offb, rfl, hbb, hcellb⟩ := hrb.at_ hi2
        have d1 := hcella _ hi1
        have d2 := hcellb _ hi2
        clear hcella hcellb
        by_cases hlt : a[i] < b[i]
        · have c4 := hide (c1.out (by have := dval_ltd sa.out hi1 hi2 hE.out hlt; rw [em.out, en.out] at this; exact this))
          clear hE
          go_wp2
          go_quiet (fail)
          go_wp2
          go_ret
          exact ⟨by rw [c4.out]; rfl, Bel.drN (Bel.drN (Below.refl _ _) _) _⟩
        · by_cases hgt : b[i] < a[i]
          · have c4 := hide (c2.out (by have := dval_ltd sb.out hi2 hi1 hE.out.symm hgt; rw [em.out, en.out] at this; exact this))
            clear hE
            go_wp2
            go_quiet (fail)
            go_wp2
            go_quiet (fail)
            go_wp2
            go_ret
            exact ⟨by rw [c4.out]; rfl, Bel.drN (Bel.drN (Bel.drN (Below.refl _ _) _) _) _⟩
          · have hE2 := hide (show dval (a.drop i) = dval (b.drop i) by rw [List.drop_eq_getElem_cons hi1, List.drop_eq_getElem_cons hi2, dval, dval, hE.out]; omega)
            go_wp2
            go_quiet (fail)
            go_wp2
            go_quiet (fail)
            go_wp2
            go_roundw
            case rel => exact ⟨i, _, by omega, by go_num, rfl, hE2⟩
            case measure => first | (simp [intOf]; done) | (simp [intOf]; omega)
  · have l3 : ((a.length : Int) != b.length) = true := by simp; omega
    by_cases hlt : a.length < b.length
    · have c4 := hide (c1.out (l1.out hlt))
      clear hl
      go_enter Try.func63, Try.ntmps63
      go_wp2
      go_ret
      exact ⟨by rw [c4.out]; rfl, Below.refl _ _⟩
    · have c4 := hide (c2.out (l2.out (by omega)))
      clear hl
      go_enter Try.func63, Try.ntmps63
      go_wp2
      go_ret
      exact ⟨by rw [c4.out]; rfl, Below.refl _ _⟩

/-- A round of the difference. -/
theorem sub_step {A a b : List Nat} {i c c' x S T : Nat} (hl : A.length = i) (h : dval A + 65536 ^ i * dval (a.drop i) + S = T + 65536 ^ i * (c + dval (b.drop i))) (hx : x + b.getD i 0 + c = a.getD i 0 + 65536 * c') :
    dval (A ++ [x]) + 65536 ^ (i + 1) * dval (a.drop (i + 1)) + S = T + 65536 ^ (i + 1) * (c' + dval (b.drop (i + 1))) := by
  rw [dval_drop a i, dval_drop b i] at h
  rw [dval_snoc, hl, Nat.pow_succ]
  obtain ⟨p, hp⟩ : ∃ p, p = a.getD i 0 := ⟨_, rfl⟩
  obtain ⟨q, hq⟩ : ∃ q, q = b.getD i 0 := ⟨_, rfl⟩
  rw [← hp, ← hq] at hx
  rw [← hp, ← hq] at h
  clear hp hq hl
  have h2 := congrArg (fun t => 65536 ^ i * t) hx
  simp only [Nat.mul_add] at h2 h ⊢
  grind

theorem sub_end {v B T P z : Nat} (h : v + B = T + P * z) (hv : v < P) (hB : B ≤ T) : v = T - B := by
  rcases Nat.eq_zero_or_pos z with h0 | h0
  · subst h0; simp at h; omega
  · have := Nat.mul_le_mul_left P h0
    omega

set_option maxHeartbeats 4000000 in
set_option maxRecDepth 100000 in
theorem rsub (va vb : Value) (m n : Nat) (w : World) (ha : DV w va m) (hb : DV w vb n) (hmn : n ≤ m) (lm : (digs m).length ≤ 1000) :
    Calls Try.prog 64 #[va, vb] w (SomeDig (m - n) w) := by
  unfold DV at ha hb
  have SA := hide (dsmall_digs m)
  have SB := hide (dsmall_digs n)
  have em := hide (dval_digs m)
  have en := hide (dval_digs n)
  obtain ⟨a, hae⟩ : ∃ a, a = digs m := ⟨_, rfl⟩
  obtain ⟨b, hbe⟩ : ∃ b, b = digs n := ⟨_, rfl⟩
  rw [← hae] at ha SA em lm
  rw [← hbe] at hb SB en
  clear hae hbe
  obtain ⟨aa, ca, rfl, hla, hca, hra⟩ := Rd.form ha
  obtain ⟨ab, cb, rfl, hlb, hcb, hrb⟩ := Rd.form hb
  have hca' : ca ≤ 9223372036854775807 := by unfold maxLen at hca; omega
  have hcb' : cb ≤ 9223372036854775807 := by unfold maxLen at hcb; omega
  clear ha hb
  go_enter Try.func64, Try.ntmps64
  go_wp2
  go_loopw [5, 6, 7] (fun vv cc jj wr => ∃ (j c : Nat) (A : List Nat) (bo : Option Addr) (cap2 : Nat), vv = .slice bo A.length cap2 ∧ jj = .int .i64 j ∧ cc = .int .i64 c ∧ c ≤ 1 ∧ j ≤ a.length ∧ Hid (A.length = j) ∧ A.length ≤ 1000 ∧ Hid (DSmall A) ∧ Hid (dval A + 65536 ^ j * dval (a.drop j) + n = m + 65536 ^ j * (c + dval (b.drop j))) ∧ Own D64 wr w.heap.size 3 (.slice bo A.length cap2) A ∧ Below w.heap.size w wr) (fun _ _ j _ => a.length - (intOf j).toNat)
  case atStart => exact ⟨0, 0, [], none, 0, rfl, rfl, rfl, by omega, Nat.zero_le _, rfl, Nat.zero_le _, (fun x hx => by cases hx), by show _ = _; simp [dval, em.out, en.out], Own.nil _ _ _, Below.refl _ _⟩
  case round =>
    obtain ⟨j, c, A, bo, cap2, rfl, rfl, rfl, hc1, hj, hAl, hA1, hsm, hE, hown, hbel⟩ := hrel
    by_cases hjl : j < a.length
    · have hra2 := hra.below hbel
      have hrb2 := hrb.below hbel
      have x1 := dgetD SA.out j
      have x2 := dgetD SB.out j
      obtain ⟨ba, offa, rfl, hba, hcella⟩ := hra2.at_ hjl
      have d1 := hcella _ hjl
      have hgd : a.getD j 0 = a[j] := by rw [List.getD_eq_getElem?_getD, List.getElem?_eq_getElem hjl]; rfl
      rw [← hgd] at d1
      clear hcella hgd
      have hAl3 : A.length = j := hAl.out
      have hAl2 : A.length + 1 ≤ 1000 := by omega
      have hstep := hide (fun (x c' : Nat) => sub_step (x := x) (c' := c') hAl.out hE.out)
      obtain ⟨p, hp⟩ : ∃ p, p = a.getD j 0 := ⟨_, rfl⟩
      obtain ⟨q, hq⟩ : ∃ q, q = b.getD j 0 := ⟨_, rfl⟩
      rw [← hp] at x1 d1
      rw [← hq] at x2
      rw [← hp, ← hq] at hstep
      replace hp := hide hp
      replace hq := hide hq
      have hAl5 : ∀ x, (A ++ [x]).length = j + 1 := fun x => by rw [List.length_append, List.length_singleton, hAl3]
      replace hAl5 := hide hAl5
      clear hAl3 hE hAl
      have s1 : IntKind.i64.wrap ((p : Int) - q) = (p : Int) - q := IntWalk.i64_in _ (by omega)
      have s2 : IntKind.i64.wrap ((p : Int) - q - c) = (p : Int) - q - c := IntWalk.i64_in _ (by omega)
      go_wp2_with fail
      go_region_held3 (fun X => X.cell? ⟨ba, offa + j, none⟩ = some (D64 p)) (go_keep) (first
        | (go_at_call 58; refine (digit_any _ b j _ (by exact hrb2)).mono ?_; rintro e w2 ⟨rfl, rfl⟩; rw [← hq.out]))
      obtain ⟨y, hy⟩ : ∃ y : Int, y = (p : Int) - q - c := ⟨_, rfl⟩
      rw [← hy]
      clear s1 s2
      by_cases hneg : p < q + c
      · have t1 : y < 0 := by omega
        have t3 : -65536 ≤ y := by omega
        obtain ⟨x, hx, hx1⟩ : ∃ x : Nat, (x : Int) = y + 65536 ∧ x < 65536 := ⟨p + 65536 - q - c, by omega, by omega⟩
        have hE2 := hide (hstep.out x 1 (by omega))
        have hs2 := hide (dsmall_snoc hsm.out hx1)
        have hAl4 := hide (hAl5.out x)
        obtain ⟨wd, hwd⟩ : ∃ wd, wd = wr.drew := ⟨_, rfl⟩
        have hown2 : Own D64 wd w.heap.size 3 (.slice bo A.length cap2) A := by rw [hwd]; exact hown
        have hbel2 : Below w.heap.size w wd := by rw [hwd]; exact Below.drew hbel
        rw [← hwd]
        clear hwd
        replace hy := hide hy
        replace hx := hide hx
        clear hstep hown hbel hp hq hAl5 d1 hneg
        go_wp2_with (with_reducible refine wpList_append_rd _ rfl _ _ 37 rfl (V := D64) (fun _ => rfl) w.heap.size 3 (.int .i64 0) 8 Try.underlying37 infoInt rfl _ A rfl (hown2.alloc _) _ [x] rfl ?_ ?_ ?_ ?_ ?_)
        case refine_1 => exact Rd.new _ rfl rfl (Nat.le_refl _) (by decide) (by simp [hx.out])
        case refine_2 => simp; omega
        case refine_3 => simp; omega
        case refine_4 => have := hbel2.size; simp; omega
        intro v4 w4 hown4 hg4 hv4
        have hsz3 := hbel2.size
        have hb4 : Below w.heap.size w w4 := (Bel.al hbel2 _).grown hg4 (by simp; omega) (fun g hg => (hown2.lt g hg).1)
        obtain ⟨bo4, cap4, rfl⟩ := hown4.shape
        go_wp2
        go_roundw
        case rel => exact ⟨j + 1, 1, A ++ [x], bo4, cap4, rfl, by go_num, rfl, by omega, by omega, hAl4, by simp; omega, hs2, hE2, hown4, hb4⟩
        case measure => simp [intOf]; omega
      · have t1 : 0 ≤ y := by omega
        have t3 : y < 65536 := by omega
        obtain ⟨x, hx, hx1⟩ : ∃ x : Nat, (x : Int) = y ∧ x < 65536 := ⟨p - q - c, by omega, by omega⟩
        have hE2 := hide (hstep.out x 0 (by omega))
        have hs2 := hide (dsmall_snoc hsm.out hx1)
        have hAl4 := hide (hAl5.out x)
        obtain ⟨wd, hwd⟩ : ∃ wd, wd = wr.drew := ⟨_, rfl⟩
        have hown2 : Own D64 wd w.heap.size 3 (.slice bo A.length cap2) A := by rw [hwd]; exact hown
        have hbel2 : Below w.heap.size w wd := by rw [hwd]; exact Below.drew hbel
        rw [← hwd]
        clear hwd
        replace hy := hide hy
        replace hx := hide hx
        clear hstep hown hbel hp hq hAl5 d1 hneg
        go_wp2_with (with_reducible refine wpList_append_rd _ rfl _ _ 37 rfl (V := D64) (fun _ => rfl) w.heap.size 3 (.int .i64 0) 8 Try.underlying37 infoInt rfl _ A rfl (hown2.alloc _) _ [x] rfl ?_ ?_ ?_ ?_ ?_)
        case refine_1 => exact Rd.new _ rfl rfl (Nat.le_refl _) (by decide) (by simp [hx.out])
        case refine_2 => simp; omega
        case refine_3 => simp; omega
        case refine_4 => have := hbel2.size; simp; omega
        intro v4 w4 hown4 hg4 hv4
        have hsz3 := hbel2.size
        have hb4 : Below w.heap.size w w4 := (Bel.al hbel2 _).grown hg4 (by simp; omega) (fun g hg => (hown2.lt g hg).1)
        obtain ⟨bo4, cap4, rfl⟩ := hown4.shape
        go_wp2
        go_roundw
        case rel => exact ⟨j + 1, 0, A ++ [x], bo4, cap4, rfl, by go_num, rfl, by omega, by omega, hAl4, by simp; omega, hs2, hE2, hown4, hb4⟩
        case measure => simp [intOf]; omega
    · have hjj : j = a.length := by omega
      have hE2 := hE.out
      rw [hjj, List.drop_of_length_le (Nat.le_refl _), show dval [] = 0 from rfl, Nat.mul_zero, Nat.add_zero] at hE2
      have hv := dval_lt hsm.out
      rw [hAl.out, hjj] at hv
      have hE3 := hide (sub_end hE2 hv hmn)
      have hrd := hown.rd
      clear hE hE2 hv
      go_wp2_with fail
      refine (rtrim _ A _ hrd hsm.out).mono ?_
      rintro e w5 ⟨u, rfl, hu, hb5, ho5⟩
      obtain ⟨uo, ucap, rfl, -, -, -⟩ := Rd.form hu
      rw [hE3.out] at hu ⊢
      go_wp2
      go_ret
      exact ⟨.slice uo _ ucap, rfl, hu, Bel.to hbel hb5, fun k hk => (hown.lt k (ho5 k (own_len.trans hk))).1⟩
end Go.Proofs.Ytompjmcbfgckiaa

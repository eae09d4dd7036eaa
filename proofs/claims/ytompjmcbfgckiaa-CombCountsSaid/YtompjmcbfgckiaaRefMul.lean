/- lotteryref03: mul of digits. -/
import Derived.Test.YtompjmcbfgckiaaRefCmp
open Go.RowKit
set_option linter.unusedVariables false
set_option linter.unusedSimpArgs false
namespace Go.Proofs.Ytompjmcbfgckiaa

theorem dval_set {L : List Nat} {j : Nat} (h : j < L.length) (v : Nat) : dval (L.set j v) + 65536 ^ j * L[j] = dval L + 65536 ^ j * v := by
  induction L generalizing j with
  | nil => simp at h
  | cons x t ih =>
    cases j with
    | zero => simp only [List.set_cons_zero, dval, List.getElem_cons_zero, Nat.pow_zero]; omega
    | succ j =>
      have := ih (j := j) (by simpa using h)
      simp only [List.set_cons_succ, dval, List.getElem_cons_succ, Nat.pow_succ]
      obtain ⟨P, hP⟩ : ∃ P, P = 65536 ^ j := ⟨_, rfl⟩
      rw [← hP] at this ⊢
      clear hP ih
      grind

theorem dsmall_set {L : List Nat} (h : DSmall L) (j : Nat) {v : Nat} (hv : v < 65536) : DSmall (L.set j v) := by
  intro y hy
  rcases List.mem_or_eq_of_mem_set hy with hy | rfl
  · exact h y hy
  · exact hv

theorem dval_take_getD (b : List Nat) (k : Nat) : dval (b.take (k + 1)) = dval (b.take k) + 65536 ^ k * b.getD k 0 := by
  by_cases h : k < b.length
  · rw [dval_take_succ b k h, List.getD_eq_getElem?_getD, List.getElem?_eq_getElem h]; rfl
  · rw [dgetD0 (by omega), List.take_of_length_le (by omega), List.take_of_length_le (by omega)]; simp

theorem dval_zeros (n : Nat) : dval (List.replicate n 0) = 0 := by
  induction n with
  | zero => rfl
  | succ n ih => rw [List.replicate_succ, dval, ih]

theorem dsmall_zeros (n : Nat) : DSmall (List.replicate n 0) := by
  intro x hx
  rw [(List.mem_replicate.1 hx).2]; omega

/-- A round of the inner loop. -/
theorem dmul_step {L b : List Nat} {i k c p x B : Nat} (hj : i + k < L.length) (h : dval L + 65536 ^ (i + k) * c = B + p * 65536 ^ i * dval (b.take k)) (hx : x = L[i + k] + p * b.getD k 0 + c) :
    dval (L.set (i + k) (x % 65536)) + 65536 ^ (i + (k + 1)) * (x / 65536) = B + p * 65536 ^ i * dval (b.take (k + 1)) := by
  have hs := dval_set hj (x % 65536)
  rw [dval_take_getD, show i + (k + 1) = (i + k) + 1 by omega, Nat.pow_succ]
  obtain ⟨q, hq⟩ : ∃ q, q = b.getD k 0 := ⟨_, rfl⟩
  obtain ⟨y, hy⟩ : ∃ y, y = L[i + k] := ⟨_, rfl⟩
  rw [← hq, ← hy] at hx
  rw [← hy] at hs
  rw [← hq]
  have hdm := Nat.div_add_mod x 65536
  obtain ⟨d, hd⟩ : ∃ d, d = x / 65536 := ⟨_, rfl⟩
  obtain ⟨r, hr⟩ : ∃ r, r = x % 65536 := ⟨_, rfl⟩
  rw [← hd, ← hr] at hdm
  rw [← hr] at hs ⊢
  rw [← hd]
  rw [Nat.pow_add] at h hs ⊢
  obtain ⟨Pi, hPi⟩ : ∃ P, P = 65536 ^ i := ⟨_, rfl⟩
  obtain ⟨Pk, hPk⟩ : ∃ P, P = 65536 ^ k := ⟨_, rfl⟩
  rw [← hPi, ← hPk] at h hs ⊢
  clear hPi hPk hd hr hq hy hj
  grind

theorem mul_lim {L a b : List Nat} {i k c p : Nat} (sa : DSmall a) (sb : DSmall b) (hi : i < a.length) (hp : p = a[i]) (h : dval L + 65536 ^ (i + k) * c = dval (a.take i) * dval b + p * 65536 ^ i * dval (b.take k)) (hk : b.length ≤ k) (hc : 0 < c) : k ≤ b.length := by
  rw [List.take_of_length_le hk] at h
  have e := dval_take_succ a i hi
  have h2 : dval L + 65536 ^ (i + k) * c = dval (a.take (i + 1)) * dval b := by
    rw [e, h, ← hp]
    obtain ⟨Pi, hPi⟩ : ∃ P, P = 65536 ^ i := ⟨_, rfl⟩
    rw [← hPi]
    clear hPi e h
    grind
  have h3 := dval_lt (dsmall_take sa (i + 1))
  rw [List.length_take, Nat.min_eq_left (by omega)] at h3
  have h4 := dval_lt sb
  have h5 : dval (a.take (i + 1)) * dval b ≤ 65536 ^ (i + 1) * dval b := Nat.mul_le_mul_right _ (by omega)
  have h6 : 65536 ^ (i + 1) * dval b < 65536 ^ (i + 1) * 65536 ^ b.length := Nat.mul_lt_mul_of_pos_left h4 (Nat.pow_pos (by omega))
  rw [← Nat.pow_add] at h6
  have h7 : 65536 ^ (i + k) ≤ 65536 ^ (i + k) * c := Nat.le_mul_of_pos_right _ hc
  have h8 : (65536 : Nat) ^ (i + k) < 65536 ^ (i + 1 + b.length) := by omega
  have := (Nat.pow_lt_pow_iff_right (by omega : 1 < 65536)).1 h8
  omega

theorem mul_end {L a b : List Nat} {i k p : Nat} (hi : i < a.length) (hp : p = a[i]) (h : dval L + 65536 ^ (i + k) * 0 = dval (a.take i) * dval b + p * 65536 ^ i * dval (b.take k)) (hk : b.length ≤ k) : dval L = dval (a.take (i + 1)) * dval b := by
  rw [List.take_of_length_le hk] at h
  rw [dval_take_succ a i hi, ← hp]
  obtain ⟨Pi, hPi⟩ : ∃ P, P = 65536 ^ i := ⟨_, rfl⟩
  rw [← hPi] at h ⊢
  clear hPi
  grind

set_option maxHeartbeats 4000000 in
set_option maxRecDepth 100000 in
theorem rmul_d (va vb : Value) (m n : Nat) (w : World) (ha : DV w va m) (hb : DV w vb n) (lm : (digs m).length ≤ 1000) (ln : (digs n).length ≤ 1000) :
    Calls Try.prog 50 #[va, vb] w (SomeDig (m * n) w) := by
  unfold DV at ha hb
  have SA := hide (dsmall_digs m)
  have SB := hide (dsmall_digs n)
  have em := hide (dval_digs m)
  have en := hide (dval_digs n)
  obtain ⟨a, hae⟩ : ∃ a, a = digs m := ⟨_, rfl⟩
  obtain ⟨b, hbe⟩ : ∃ b, b = digs n := ⟨_, rfl⟩
  rw [← hae] at ha SA em lm
  rw [← hbe] at hb SB en ln
  clear hae hbe
  obtain ⟨aa, ca, rfl, hla, hca, hra⟩ := Rd.form ha
  obtain ⟨ab, cb, rfl, hlb, hcb, hrb⟩ := Rd.form hb
  have hca' : ca ≤ 9223372036854775807 := by unfold maxLen at hca; omega
  have hcb' : cb ≤ 9223372036854775807 := by unfold maxLen at hcb; omega
  clear ha hb
  go_enter Try.func50, Try.ntmps50
  go_wp2_with (with_reducible refine wpList_make_row _ rfl _ _ 37 rfl 3 (.int .i64 0) 8 Try.underlying37 infoInt rfl .i64 .i64 _ _ (a.length + b.length + 1) (a.length + b.length + 1) rfl rfl (by omega) (by omega) (Nat.le_refl _) (by omega) (by omega) ?_; intro w2 hrow hb2 hz2)
  obtain ⟨g, hg⟩ : ∃ g, g = w.heap.size := ⟨_, rfl⟩
  have hgs : w.heap.size ≤ g := by omega
  rw [← hg] at hrow ⊢
  clear hg hz2
  go_wp2
  go_loopw [6] (fun t wr => ∃ (i : Nat) (L : List Nat), i ≤ a.length ∧ t = .int .i64 i ∧ Row wr g 3 (L.map D64) ∧ Hid (L.length = a.length + b.length + 1) ∧ Hid (DSmall L) ∧ Hid (dval L = dval (a.take i) * dval b) ∧ Below w.heap.size w wr) (fun t _ => a.length - (intOf t).toNat)
  case atStart =>
    refine ⟨0, List.replicate (a.length + b.length + 1) 0, Nat.zero_le _, rfl, by rw [List.map_replicate]; exact hrow, by show _ = _; simp, dsmall_zeros _, ?_, hb2⟩
    show _ = _; rw [dval_zeros]; simp [dval]
  case round =>
    clear hrow hb2
    obtain ⟨i, L, hi, rfl, hrow, hLl, hLs, hLv, hbel⟩ := hrel
    by_cases hil : i < a.length
    · go_wp2
      obtain ⟨p, hp⟩ : ∃ p, p = a[i] := ⟨_, rfl⟩
      have hp2 := SA.out _ (List.getElem_mem hil)
      rw [← hp] at hp2
      replace hp := hide hp
      have hst := hide (show dval L + 65536 ^ (i + 0) * 0 = dval (a.take i) * dval b + p * 65536 ^ i * dval (b.take 0) by rw [hLv.out]; simp [dval])
      go_loopw [7, 8, 9] (fun cc kk xx wr => ∃ (k c : Nat) (L : List Nat), k ≤ b.length + 1 ∧ kk = .int .i64 k ∧ cc = .int .i64 c ∧ c < 65536 ∧ Row wr g 3 (L.map D64) ∧ Hid (L.length = a.length + b.length + 1) ∧ Hid (DSmall L) ∧ Hid (dval L + 65536 ^ (i + k) * c = dval (a.take i) * dval b + p * 65536 ^ i * dval (b.take k)) ∧ Below w.heap.size w wr) (fun _ kk _ _ => b.length + 2 - (intOf kk).toNat)
      case atStart => exact ⟨0, 0, L, Nat.zero_le _, rfl, rfl, by omega, hrow, hLl, hLs, hst, hbel⟩
      case round =>
        clear hrow hbel hLl hLs hLv hst
        obtain ⟨k, c, L, hk, rfl, rfl, hc, hrow, hLl, hLs, hE, hbel⟩ := hrel
        by_cases hkl : k < b.length
        · have hk2 : k ≤ b.length := by omega
          have hjN : i + k < L.length := by rw [hLl.out]; omega
          have hra2 := hra.below hbel
          have hrb2 := hrb.below hbel
          obtain ⟨ba, offa, rfl, hba, hcella⟩ := hra2.at_ hil
          have d1 := hcella _ hil
          rw [← hp.out] at d1
          have d2 := hrow.cellV hjN
          have f2 := hrow.frozen (i + k)
          have x1 := hLs.out _ (List.getElem_mem hjN)
          have x2 := dgetD SB.out k
          have hstep := hide (fun (x : Nat) => dmul_step (x := x) hjN hE.out)
          obtain ⟨y, hy⟩ : ∃ y, y = L[i + k] := ⟨_, rfl⟩
          obtain ⟨q, hq⟩ : ∃ q, q = b.getD k 0 := ⟨_, rfl⟩
          rw [← hy] at d2 x1 hstep
          rw [← hq] at x2 hstep
          replace hy := hide hy
          replace hq := hide hq
          obtain ⟨M, hM⟩ : ∃ M, M = p * q := ⟨_, rfl⟩
          have hM1 : M ≤ 65535 * 65535 := by rw [hM]; exact Nat.mul_le_mul (by omega) (by omega)
          have hMI : (p : Int) * (q : Int) = (M : Int) := by rw [hM]; exact (Int.natCast_mul p q).symm
          rw [← hM] at hstep
          clear hcella
          replace hM := hide hM
          have s1 : IntKind.i64.wrap ((i : Int) + k) = (i : Int) + k := IntWalk.i64_in _ (by omega)
          have s2 : IntKind.i64.wrap ((p : Int) * q) = (M : Int) := by rw [hMI]; exact IntWalk.i64_in _ (by omega)
          have s3 : IntKind.i64.wrap ((y : Int) + M) = (y : Int) + M := IntWalk.i64_in _ (by omega)
          have s4 : IntKind.i64.wrap ((y : Int) + M + c) = (y : Int) + M + c := IntWalk.i64_in _ (by omega)
          replace hMI := hide hMI
          have i1 : (0 : Int) ≤ (i : Int) + k := by omega
          have i2 : (i : Int) + k < ((a.length + b.length + 1 : Nat) : Int) := by have := hLl.out; omega
          have i4 : (i : Int) + k < (a.length : Int) + b.length + 1 := by have := hLl.out; omega
          have i3 : ((i : Int) + k).toNat = i + k := by omega
          go_wp2_with fail
          go_region_held3 (fun X => X.cell? ⟨ba, offa + i, none⟩ = some (D64 p) ∧ X.cell? ⟨g, i + k, none⟩ = some (D64 y)) (go_keep) (first
            | (go_at_call 58; refine (digit_any _ b k _ (by exact hrb2)).mono ?_; rintro e w2 ⟨rfl, rfl⟩; rw [← hq.out]))
          obtain ⟨x, hx⟩ : ∃ x : Nat, x = y + M + c := ⟨_, rfl⟩
          have hxI : (y : Int) + M + c = (x : Int) := by omega
          rw [hxI]
          have hx1 : x < 4294967296 := by omega
          have hE2 := hide (hstep.out x hx)
          have hs2 := hide (dsmall_set hLs.out (i + k) (show x % 65536 < 65536 by omega))
          have hL2 := hide (show (L.set (i + k) (x % 65536)).length = a.length + b.length + 1 by rw [List.length_set]; exact hLl.out)
          obtain ⟨wd, hwd⟩ : ∃ wd, wd = wr.drew := ⟨_, rfl⟩
          have hrowd : Row wd g 3 (L.map D64) := by rw [hwd]; exact hrow
          have hbeld : Below w.heap.size w wd := by rw [hwd]; exact Below.drew hbel
          have d2d : wd.cell? ⟨g, i + k, none⟩ = some (D64 y) := by rw [hwd]; exact d2
          have f2d : wd.frozen? ⟨g, i + k, none⟩ = false := by rw [hwd]; exact f2
          rw [← hwd]
          clear hwd
          have hrow2 := hrowd.setV (V := D64) (i + k) (x % 65536)
          have ee : ((x % 65536 : Nat) : Int) = (x : Int) % 65536 := Int.natCast_emod x 65536
          rw [show D64 (x % 65536) = .int .i64 ((x : Int) % 65536) by rw [← ee]] at hrow2
          have hb2 := Bel.st hbeld (p := ⟨g, i + k, none⟩) hgs (.int .i64 ((x : Int) % 65536))
          replace ee := hide ee
          clear hxI s1 s2 s3 s4 hstep hx hMI
          go_wp2
          go_roundw
          case rel => exact ⟨k + 1, x / 65536, _, by omega, by go_num, by go_num, by omega, hrow2, hL2, hs2, hE2, hb2⟩
          case measure => simp [intOf]; omega
        · by_cases hc0 : 0 < c
          · have hk2 := mul_lim SA.out SB.out hil hp.out hE.out (by omega) hc0
            have hjN : i + k < L.length := by rw [hLl.out]; omega
            have hra2 := hra.below hbel
            have hrb2 := hrb.below hbel
            obtain ⟨ba, offa, rfl, hba, hcella⟩ := hra2.at_ hil
            have d1 := hcella _ hil
            rw [← hp.out] at d1
            have d2 := hrow.cellV hjN
            have f2 := hrow.frozen (i + k)
            have x1 := hLs.out _ (List.getElem_mem hjN)
            have x2 := dgetD SB.out k
            have hstep := hide (fun (x : Nat) => dmul_step (x := x) hjN hE.out)
            obtain ⟨y, hy⟩ : ∃ y, y = L[i + k] := ⟨_, rfl⟩
            obtain ⟨q, hq⟩ : ∃ q, q = b.getD k 0 := ⟨_, rfl⟩
            rw [← hy] at d2 x1 hstep
            rw [← hq] at x2 hstep
            replace hy := hide hy
            replace hq := hide hq
            obtain ⟨M, hM⟩ : ∃ M, M = p * q := ⟨_, rfl⟩
            have hM1 : M ≤ 65535 * 65535 := by rw [hM]; exact Nat.mul_le_mul (by omega) (by omega)
            have hMI : (p : Int) * (q : Int) = (M : Int) := by rw [hM]; exact (Int.natCast_mul p q).symm
            rw [← hM] at hstep
            clear hcella
            replace hM := hide hM
            have s1 : IntKind.i64.wrap ((i : Int) + k) = (i : Int) + k := IntWalk.i64_in _ (by omega)
            have s2 : IntKind.i64.wrap ((p : Int) * q) = (M : Int) := by rw [hMI]; exact IntWalk.i64_in _ (by omega)
            have s3 : IntKind.i64.wrap ((y : Int) + M) = (y : Int) + M := IntWalk.i64_in _ (by omega)
            have s4 : IntKind.i64.wrap ((y : Int) + M + c) = (y : Int) + M + c := IntWalk.i64_in _ (by omega)
            replace hMI := hide hMI
            have i1 : (0 : Int) ≤ (i : Int) + k := by omega
            have i2 : (i : Int) + k < ((a.length + b.length + 1 : Nat) : Int) := by have := hLl.out; omega
            have i4 : (i : Int) + k < (a.length : Int) + b.length + 1 := by have := hLl.out; omega
            have i3 : ((i : Int) + k).toNat = i + k := by omega
            go_wp2_with fail
            go_region_held3 (fun X => X.cell? ⟨ba, offa + i, none⟩ = some (D64 p) ∧ X.cell? ⟨g, i + k, none⟩ = some (D64 y)) (go_keep) (first
              | (go_at_call 58; refine (digit_any _ b k _ (by exact hrb2)).mono ?_; rintro e w2 ⟨rfl, rfl⟩; rw [← hq.out]))
            obtain ⟨x, hx⟩ : ∃ x : Nat, x = y + M + c := ⟨_, rfl⟩
            have hxI : (y : Int) + M + c = (x : Int) := by omega
            rw [hxI]
            have hx1 : x < 4294967296 := by omega
            have hE2 := hide (hstep.out x hx)
            have hs2 := hide (dsmall_set hLs.out (i + k) (show x % 65536 < 65536 by omega))
            have hL2 := hide (show (L.set (i + k) (x % 65536)).length = a.length + b.length + 1 by rw [List.length_set]; exact hLl.out)
            obtain ⟨wd, hwd⟩ : ∃ wd, wd = wr.drew := ⟨_, rfl⟩
            have hrowd : Row wd g 3 (L.map D64) := by rw [hwd]; exact hrow
            have hbeld : Below w.heap.size w wd := by rw [hwd]; exact Below.drew hbel
            have d2d : wd.cell? ⟨g, i + k, none⟩ = some (D64 y) := by rw [hwd]; exact d2
            have f2d : wd.frozen? ⟨g, i + k, none⟩ = false := by rw [hwd]; exact f2
            rw [← hwd]
            clear hwd
            have hrow2 := hrowd.setV (V := D64) (i + k) (x % 65536)
            have ee : ((x % 65536 : Nat) : Int) = (x : Int) % 65536 := Int.natCast_emod x 65536
            rw [show D64 (x % 65536) = .int .i64 ((x : Int) % 65536) by rw [← ee]] at hrow2
            have hb2 := Bel.st hbeld (p := ⟨g, i + k, none⟩) hgs (.int .i64 ((x : Int) % 65536))
            replace ee := hide ee
            clear hxI s1 s2 s3 s4 hstep hx hMI
            go_wp2
            go_roundw
            case rel => exact ⟨k + 1, x / 65536, _, by omega, by go_num, by go_num, by omega, hrow2, hL2, hs2, hE2, hb2⟩
            case measure => simp [intOf]; omega
          · have hcz : c = 0 := by omega
            subst hcz
            have hE2 := hide (mul_end hil hp.out hE.out (by omega))
            clear hE
            go_wp2
            go_roundw
            case rel => exact ⟨i + 1, L, by omega, by go_num, hrow, hLl, hLs, hE2, hbel⟩
            case measure => simp [intOf]; omega
    · have hE3 := hide (show dval L = m * n by rw [hLv.out, List.take_of_length_le (by omega), em.out, en.out])
      have hrd := hrow.rdAll (n := a.length + b.length + 1) (c := a.length + b.length + 1) hLl.out.symm (Nat.le_refl _) (by omega)
      clear hLv
      go_wp2_with fail
      refine (rtrim _ L _ hrd hLs.out).mono ?_
      rintro e w5 ⟨u, rfl, hu, hb5, ho5⟩
      obtain ⟨uo, ucap, rfl, -, -, -⟩ := Rd.form hu
      rw [hE3.out] at hu ⊢
      go_wp2
      go_ret
      exact ⟨.slice uo _ ucap, rfl, hu, Bel.to hbel hb5, fun k hk => by have h : some g = some k := ho5 k (own_len.trans hk); injection h with h; omega⟩
end Go.Proofs.Ytompjmcbfgckiaa

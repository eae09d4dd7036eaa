/- lotteryref05.Choose. -/
import Derived.Deep.RegionWith
import Derived.Test.YtompjmcbfgckiaaRefDivN
import Derived.Test.YtompjmcbfgckiaaRefMulN
import Derived.Test.YtompjmcbfgckiaaRefCount
import Derived.Test.YtompjmcbfgckiaaAwake
open Go.RowKit
set_option linter.unusedVariables false
set_option linter.unusedSimpArgs false
namespace Go.Proofs.Ytompjmcbfgckiaa

/-- Choose: the number and the code. -/
def chooseV (n k : Int) : Nat × Int := if 0 ≤ n ∧ n ≤ 80 then (chooseI n k, 0) else (0, 2)

theorem choose_any (n k : Int) (w : World) : Calls Try.prog 10 #[.int .i64 n, .int .i64 k] w (NatC (chooseV n k).1 (chooseV n k).2 w) := by
  unfold chooseV
  by_cases h : 0 ≤ n ∧ n ≤ 80
  · rw [if_pos h]; exact choose_ok n k w h
  · rw [if_neg h]; exact choose_range n k w h

theorem rchoose_range (n k : Int) (w : World) (h : ¬ (0 ≤ n ∧ n ≤ 80)) : Calls Try.prog 11 #[.int .i64 n, .int .i64 k] w (NatC 0 2 w) := by
  go_enter Try.func11, Try.ntmps11
  go_wp2_with fail
  refine (in_no _ _ _ h).mono ?_
  rintro e w' ⟨rfl, rfl⟩
  clear h
  go_wp2
  refine bodyPost_ret (v := .tuple #[.agg #[.slice none 0 0], .int .i64 2]) (by simp [results, Try.results11, go_sem]) rfl ⟨_, rfl, NV.zero _, Bel.al (Below.refl _ _) _⟩

theorem rchoose_out (n k : Int) (w : World) (h : 0 ≤ n ∧ n ≤ 80) (hk : k < 0 ∨ n < k) : Calls Try.prog 11 #[.int .i64 n, .int .i64 k] w (NatC 0 0 w) := by
  go_enter Try.func11, Try.ntmps11
  go_wp2_with fail
  refine (in_yes _ _ _ h.1 h.2).mono ?_
  rintro e w' ⟨rfl, rfl⟩
  go_wp2_with fail
  refine (in_no _ _ _ (by omega)).mono ?_
  rintro e w' ⟨rfl, rfl⟩
  clear h hk
  go_wp2
  refine bodyPost_ret (v := .tuple #[.agg #[.slice none 0 0], .int .i64 0]) (by simp [results, Try.results11, go_sem]) rfl ⟨_, rfl, NV.zero _, Bel.al (Below.refl _ _) _⟩

set_option maxHeartbeats 4000000 in
set_option maxRecDepth 100000 in
theorem rchoose_in (n k : Nat) (w : World) (hn : n ≤ 80) (hk : k ≤ n) : Calls Try.prog 11 #[.int .i64 (n : Int), .int .i64 (k : Int)] w (NatC (choose n k) 0 w) := by
  go_enter Try.func11, Try.ntmps11
  go_wp2_with fail
  refine (in_yes _ _ _ (by omega) (by omega)).mono ?_
  rintro e w' ⟨rfl, rfl⟩
  go_wp2_with fail
  refine (in_yes _ _ _ (by omega) (by omega)).mono ?_
  rintro e w' ⟨rfl, rfl⟩
  go_wp2_with fail
  refine (ref_of_int _ _ (by omega) (by omega)).mono ?_
  rintro e w1 ⟨u, rfl, hu, hb⟩
  have c1 : w1.cell? ⟨w.heap.size, 0, none⟩ = some (.slice none 0 0) := Bel.cellOf hb (by go_simp)
  have f1 : w1.frozen? ⟨w.heap.size, 0, none⟩ = false := Bel.frozenOf hb (v := .slice none 0 0) (by go_simp) (by go_simp)
  have hb1 := Bel.one _ hb
  have hz : w.heap.size < w1.heap.size := by have := hb.size; simp at this; omega
  clear hb
  obtain ⟨ao, n0, cp, rfl⟩ := Rd.shape hu
  go_wp2
  obtain ⟨b6, hb6⟩ : ∃ b6, b6 = w1.heap.size := ⟨_, rfl⟩
  have hst : ChSt w (w1.alloc (.cells #[.slice ao n0 cp] 24)) b6 (.slice ao n0 cp) (choose (n - k + 1 - 1) (1 - 1)) := by
    subst hb6
    refine ⟨Bel.al hb1 _, hz, by go_simp, by go_simp, by go_simp, by go_simp, ?_⟩
    rw [Nat.sub_self, choose_zero]
    exact hu.alloc _
  rw [← hb6]
  clear hu hb6
  have hk' : (k : Int) ≤ (n : Int) := by omega
  go_loopg [7] k (fun g t wr => ∃ (i : Nat) (ao : Option Addr) (n0 cp : Nat), g = k + 1 - i ∧ 1 ≤ i ∧ i ≤ k + 1 ∧ t = .int .i64 i ∧ ChSt w wr b6 (.slice ao n0 cp) (choose (n - k + i - 1) (i - 1)))
  case atStart => exact ⟨1, _, _, _, by omega, Nat.le_refl _, by omega, rfl, hst⟩
  case round =>
    obtain ⟨i, ao, n0, cp, hgk, hi1, hik, rfl, hst⟩ := hrel
    replace hgk := hide hgk
    have c6 := hst.c6
    have f6 := hst.f6
    have hb6 : b6 < wr.heap.size := World.block_lt_of_cell? wr ⟨b6, 0, none⟩ c6
    have hbig : choose (n - k + i - 1) (i - 1) ≤ 1208925819614629174706176 := choose_lt_80 (by omega)
    by_cases hik' : i ≤ k
    · have hne : n - k + i - 1 + 1 = n - k + i := by omega
      have hprod : choose (n - k + i - 1) (i - 1) * (n - k + i) = choose (n - k + i) i * i := by
        have := choose_mul (n - k + i - 1) (i - 1)
        rw [hne, Nat.sub_add_cancel hi1] at this
        exact this.symm
      have hlim1 : (limbs (choose (n - k + i - 1) (i - 1))).length ≤ 64 := by have := limbs_le_three (n := choose (n - k + i - 1) (i - 1)) (by omega); omega
      have hlim2 : (limbs (n - k + i)).length ≤ 64 := by have := limbs_le_three (n := n - k + i) (by omega); omega
      have hlimi : (limbs i).length ≤ 64 := by have := limbs_le_three (n := i) (by omega); omega
      have hpb : choose (n - k + i - 1) (i - 1) * (n - k + i) ≤ 1208925819614629174706176 * 80 := Nat.mul_le_mul hbig (by omega)
      have hlim3 : (limbs (choose (n - k + i) i * i)).length ≤ 64 := by rw [← hprod]; have := limbs_le_three (n := choose (n - k + i - 1) (i - 1) * (n - k + i)) (by omega); omega
      have hlim4 : (digs (choose (n - k + i - 1) (i - 1) * (n - k + i))).length ≤ 128 := digs_limbs_len (k := 64) (by rw [hprod]; exact hlim3)
      replace hprod := hide hprod
      replace hne := hide hne
      obtain ⟨c, hc⟩ : ∃ c, c = choose (n - k + i - 1) (i - 1) := ⟨_, rfl⟩
      rw [← hc] at hst hprod hlim1 hbig hpb hlim4
      replace hc := hide hc
      clear hbig hpb
      have hni : ((n : Int) - k + i).toNat = n - k + i := by omega
      replace hni := hide hni
      have a1 : IntKind.i64.wrap ((n : Int) - k) = (n : Int) - k := IntWalk.i64_in _ (by omega)
      have a2 : IntKind.i64.wrap ((n : Int) - k + i) = (n : Int) - k + i := IntWalk.i64_in _ (by omega)
      have a3 : IntKind.u64.wrap ((n : Int) - k + i) = (n : Int) - k + i := IntWalk.u64_in _ (by omega)
      have hii : ((i : Int)).toNat = i := by omega
      replace hii := hide hii
      have hq : choose (n - k + i) i * i / i = choose (n - k + i) i := Nat.mul_div_cancel _ (by omega)
      replace hq := hide hq
      go_upto_region 10 with (fail)
      go_cut [7] (fun t W => t = .int .i64 i ∧ ∃ (ap : Option Addr) (np cpp : Nat), ChSt w W b6 (.slice ap np cpp) (choose (n - k + i) i * i))
      case first =>
        go_region_with (first
          | (go_at_call 31; refine (ref_of_int _ _ ?_ ?_).mono ?_; (omega); (omega); rintro e w2 ⟨uo, rfl, huo, hbo⟩; have st2 := (hst.keep (Below.refl _ _).drew).keep hbo; have c62 := st2.c6)
          | (go_at_call 32; refine (rmul_nat _ _ c (n - k + i) _ ?_ ?_ ?_ ?_ ?_).mono ?_; (exact st2.nv); (rw [← hni.out]; exact huo); (exact hlim1); (exact hlim2); (exact hlim4); rintro e w3 ⟨u3, rfl, hu3, hb3⟩; have st3 := st2.keep hb3; have c63 := st3.c6; have f63 := st3.f6; obtain ⟨ao3, n3, cp3, rfl⟩ := Rd.shape hu3))
        all_goals go_wp2_with fail
        all_goals
          go_meet
          rw [hprod.out] at hu3
          exact ⟨rfl, _, _, _, st3.put hu3⟩
      case rest =>
        obtain ⟨rfl, ap, np, cpp, hst2⟩ := hcut
        have a4 : IntKind.u64.wrap (i : Int) = (i : Int) := IntWalk.u64_in _ (by omega)
        clear hst c6 f6
        have e6 := hst2.c6
        have f6 := hst2.f6
        go_wp2_with fail
        go_region_with (first
          | (go_at_call 31; refine (ref_of_int _ _ ?_ ?_).mono ?_; (omega); (omega); rintro e w4 ⟨ui, rfl, hui, hb4⟩; have st4 := (hst2.keep (Below.refl _ _).drew).keep hb4; have e64 := st4.c6)
          | (go_at_call 33; refine (rdivmod _ _ (choose (n - k + i) i * i) i _ ?_ ?_ ?_ ?_ ?_).mono ?_; (exact st4.nv); (rw [← hii.out]; exact hui); (exact hlim3); (exact hlimi); (omega); rintro e w5 ⟨uq, ur, rfl, huq, hur, hb5⟩; have st5 := st4.keep hb5; have e65 := st5.c6; have f65 := st5.f6; obtain ⟨aq, nq, cq, rfl⟩ := Rd.shape huq))
        all_goals
          rw [hq.out] at huq
          have st6 := st5.put huq
          go_wp2
          go_roundg (k + 1 - (i + 1))
          case measure => have := hgk.out; omega
          case rel =>
            refine ⟨i + 1, aq, nq, cq, rfl, by omega, by omega, by go_num, ?_⟩
            rw [show n - k + (i + 1) - 1 = n - k + i by omega, Nat.add_sub_cancel]
            exact st6
    · have hik2 : i = k + 1 := by omega
      have hnv := hst.nv
      rw [hik2] at hnv
      rw [show n - k + (k + 1) - 1 = n by omega, Nat.add_sub_cancel] at hnv
      replace hik2 := hide hik2
      have c4 := hst.c4
      have f4 := hst.f4
      have hl := hst.lt
      have hfin := hnv.setNe c4 (fun _ h => by cases h) (.slice ao n0 cp)
      have hbel := Bel.st hst.bel (p := ⟨w.heap.size, 0, none⟩) (Nat.le_refl _) (.slice ao n0 cp)
      go_wp2
      refine bodyPost_ret (v := .tuple #[.agg #[.slice ao n0 cp], .int .i64 0]) (by simp [results, Try.results11, go_sem, c4]) rfl ⟨_, rfl, hfin, hbel⟩

theorem rchoose_any (n k : Int) (w : World) : Calls Try.prog 11 #[.int .i64 n, .int .i64 k] w (NatC (chooseV n k).1 (chooseV n k).2 w) := by
  unfold chooseV
  by_cases hn : 0 ≤ n ∧ n ≤ 80
  · rw [if_pos hn]
    by_cases hk : 0 ≤ k ∧ k ≤ n
    · obtain ⟨n, rfl⟩ := Int.eq_ofNat_of_zero_le hn.1
      obtain ⟨k, rfl⟩ := Int.eq_ofNat_of_zero_le hk.1
      rw [chooseI_nat n k n k rfl rfl]
      exact rchoose_in n k w (by omega) (by omega)
    · have h0 : chooseI n k = 0 := by
        unfold chooseI
        by_cases h : k < 0
        · rw [if_pos h]
        · rw [if_neg h]; exact choose_gt (by omega)
      rw [h0]
      exact rchoose_out n k w hn (by omega)
  · rw [if_neg hn]; exact rchoose_range n k w hn
end Go.Proofs.Ytompjmcbfgckiaa

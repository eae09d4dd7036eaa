/- Lemmas, merged out of smaller texts (wip/tools/mergedce.py). No condition. -/
import Derived.Test.YtmocomkobbiflaaGreatHLine
import Derived.Test.YtmocomkobbiflaaGreatHNat
import Derived.Test.YtmocomkobbiflaaGreatHRef
import Derived.Test.YtmocomkobbiflaaGreatHCore
section
open Go.RowKit
set_option linter.unusedVariables false
set_option linter.unusedSimpArgs false
namespace Go.Proofs.YtmocomkobbiflaaGreat
theorem in_any (x m : Int) (w : World) : Calls Tryz.prog 139 #[.int .i64 x,.int .i64 m] w (Pure (.bool (decide (0 ≤ x ∧ x ≤ m))) w) := by
 by_cases h1 : 0 ≤ x
 ·by_cases h2 : x ≤ m
  ·have h : decide (0 ≤ x ∧ x ≤ m) = true := decide_eq_true ⟨h1,h2⟩
   rw [h]
   clear h
   go_enter Tryz.func139,Tryz.ntmps139
   go_wp2
   go_ret
   exact ⟨rfl,rfl⟩
  ·have h : decide (0 ≤ x ∧ x ≤ m) = false := decide_eq_false (by omega)
   rw [h]
   clear h
   go_enter Tryz.func139,Tryz.ntmps139
   go_wp2
   go_ret
   exact ⟨rfl,rfl⟩
 ·have h : decide (0 ≤ x ∧ x ≤ m) = false := decide_eq_false (by omega)
  rw [h]
  clear h
  go_enter Tryz.func139,Tryz.ntmps139
  go_wp2
  go_ret
  exact ⟨rfl,rfl⟩
theorem in_yes (x m : Int) (w : World) (h1 : 0 ≤ x) (h2 : x ≤ m) : Calls Tryz.prog 139 #[.int .i64 x,.int .i64 m] w (Pure (.bool true) w) := by
 have := in_any x m w
 rwa [decide_eq_true (⟨h1,h2⟩ : 0 ≤ x ∧ x ≤ m)] at this
theorem in_no (x m : Int) (w : World) (h : ¬ (0 ≤ x ∧ x ≤ m)) : Calls Tryz.prog 139 #[.int .i64 x,.int .i64 m] w (Pure (.bool false) w) := by
 have := in_any x m w
 rwa [decide_eq_false h] at this
theorem muldiv_int (a : Nat) (b : Int) (c : Nat) (w : World) (ha : a ≤ 9223372036854775807) (hb0 : 0 ≤ b) (hb : b ≤ 9223372036854775807) (hc0 : 0 < c) (hc : c ≤ 9223372036854775807) (hq : a * b.toNat / c ≤ 9223372036854775807) :
  Calls Tryz.prog 165 #[.int .i64 (a : Int),.int .i64 b,.int .i64 (c : Int)] w (Int3 ((a * b.toNat / c : Nat) : Int) ((a * b.toNat % c : Nat) : Int) 0 w) := by
 obtain ⟨b,rfl⟩ := Int.eq_ofNat_of_zero_le hb0
 exact muldiv_any a b c w ha (by omega) hc0 hc hq
theorem muldiv_int_over (a : Nat) (b : Int) (c : Nat) (w : World) (ha : a ≤ 9223372036854775807) (hb0 : 0 ≤ b) (hb : b ≤ 9223372036854775807) (hc0 : 0 < c) (hc : c ≤ 9223372036854775807) (hq : 9223372036854775807 < a * b.toNat / c) :
  Calls Tryz.prog 165 #[.int .i64 (a : Int),.int .i64 b,.int .i64 (c : Int)] w (Int3 0 0 9 w) := by
 obtain ⟨b,rfl⟩ := Int.eq_ofNat_of_zero_le hb0
 exact muldiv_over a b c w ha (by omega) hc0 hc hq
theorem choose_mono (n k i : Nat) (hk : k ≤ n) (hi : i ≤ k) : choose (n - k + i) i ≤ choose n k := by
 obtain ⟨d,rfl⟩ : ∃ d,k = i + d := ⟨k - i,by omega⟩
 clear hi
 induction d generalizing i with
 | zero => rw [Nat.add_zero,show n - i + i = n by omega];exact Nat.le_refl _
 | succ d ih =>
  have h1 := ih (i := i + 1) (by omega)
  have h2 := (choose_mono_step (n - (i + (d + 1)) + i) i).1
  rw [show i + 1 + d = i + (d + 1) by omega,show n - (i + (d + 1)) + (i + 1) = n - (i + (d + 1)) + i + 1 by omega] at h1
  omega
set_option maxHeartbeats 2000000 in
set_option maxRecDepth 100000 in
theorem rcount_in (n k : Nat) (w : World) (hn : n ≤ 80) (hk : k ≤ n) :
  Calls Tryz.prog 138 #[.int .i64 (n : Int),.int .i64 (k : Int)] w (IntP (countV n k).1 (countV n k).2 w) := by
 have hcv : countV n k = if choose n k ≤ 9223372036854775807 then ((choose n k : Int),0) else (0,9) := by
  unfold countV
  rw [if_pos (by omega),chooseI_nat n k n k rfl rfl]
 replace hcv := hide hcv
 go_enter Tryz.func138,Tryz.ntmps138
 go_wp2_with fail
 refine (in_yes _ _ _ (by omega) (by omega)).mono ?_
 rintro e w' ⟨rfl,rfl⟩
 go_wp2_with fail
 refine (in_yes _ _ _ (by omega) (by omega)).mono ?_
 rintro e w' ⟨rfl,rfl⟩
 go_wp2
 go_loopw [6,7] (fun c t wr => w = wr ∧ ∃ (i x : Nat),1 ≤ i ∧ i ≤ k + 1 ∧ t = .int .i64 i ∧ c = .int .i64 x ∧ Hid (x = choose (n - k + i - 1) (i - 1)) ∧ x ≤ 9223372036854775807) (fun _ t _ => k + 1 - (intOf t).toNat)
 case atStart => exact ⟨rfl,1,1,Nat.le_refl _,by omega,rfl,rfl,by show _ = _;rw [Nat.sub_self,choose_zero],by omega⟩
 case round =>
  obtain ⟨rfl,i,x,hi1,hik,rfl,rfl,hx,hxb⟩ := hrel
  by_cases hik' : i ≤ k
  ·have hprod : x * (n - k + i) / i = choose (n - k + i) i := by
    have h1 := choose_mul (n - k + i - 1) (i - 1)
    rw [show n - k + i - 1 + 1 = n - k + i by omega,Nat.sub_add_cancel hi1,← hx.out] at h1
    rw [← h1,Nat.mul_div_cancel _ (by omega)]
   have hmono := choose_mono n k i hk hik'
   have htn : ((n : Int) - k + i).toNat = n - k + i := by omega
   obtain ⟨y,hy⟩ : ∃ y,y = choose (n - k + i) i := ⟨_,rfl⟩
   rw [← hy] at hprod hmono
   rw [← htn] at hprod
   replace hprod := hide hprod
   replace hy := hide hy
   clear htn
   by_cases hyb : y ≤ 9223372036854775807
   ·clear hmono
    go_wp2_with fail
    refine (muldiv_int _ _ _ _ hxb (by omega) (by omega) (by omega) (by omega) (by rw [hprod.out];exact hyb)).mono ?_
    rintro e w' ⟨rfl,rfl⟩
    rw [hprod.out]
    go_wp2
    go_roundw
    case rel => exact ⟨trivial,i + 1,y,by omega,by omega,by go_num,rfl,by show _ = _;rw [hy.out,show n - k + (i + 1) - 1 = n - k + i by omega,Nat.add_sub_cancel],hyb⟩
    case measure => simp [intOf];omega
   ·have hov := hide (show countV n k = (0,9) by rw [hcv.out,if_neg (by omega)])
    clear hmono
    go_wp2_with fail
    refine (muldiv_int_over _ _ _ _ hxb (by omega) (by omega) (by omega) (by omega) (by rw [hprod.out];omega)).mono ?_
    rintro e w' ⟨rfl,rfl⟩
    clear hyb
    go_wp2
    go_ret2
    rw [hov.out]
    exact ⟨rfl,rfl⟩
  ·have hxe := hx.out
   rw [show n - k + i - 1 = n by omega,show i - 1 = k by omega] at hxe
   have hok := hide (show countV n k = ((x : Int),0) by rw [hcv.out,← hxe,if_pos hxb])
   clear hxe hx
   go_wp2
   go_ret2
   rw [hok.out]
   exact ⟨rfl,rfl⟩
theorem rcount_any (n k : Int) (w : World) : Calls Tryz.prog 138 #[.int .i64 n,.int .i64 k] w (IntP (countV n k).1 (countV n k).2 w) := by
 by_cases hn : 0 ≤ n ∧ n ≤ 80
 ·by_cases hk : 0 ≤ k ∧ k ≤ n
  ·obtain ⟨n,rfl⟩ := Int.eq_ofNat_of_zero_le hn.1
   obtain ⟨k,rfl⟩ := Int.eq_ofNat_of_zero_le hk.1
   exact rcount_in n k w (by omega) (by omega)
  ·have h0 : chooseI n k = 0 := by
    unfold chooseI
    by_cases h : k < 0
    ·rw [if_pos h]
    ·rw [if_neg h,choose_gt (by omega)]
   have hc : countV n k = (0,0) := by unfold countV;rw [if_pos hn,h0];rfl
   rw [hc]
   clear hc h0
   go_enter Tryz.func138,Tryz.ntmps138
   go_wp2_with fail
   refine (in_yes _ _ _ (by omega) (by omega)).mono ?_
   rintro e w' ⟨rfl,rfl⟩
   go_wp2_with fail
   refine (in_no _ _ _ hk).mono ?_
   rintro e w' ⟨rfl,rfl⟩
   clear hn hk
   go_wp2
   go_ret2
   exact ⟨rfl,rfl⟩
 ·have hc : countV n k = (0,2) := by unfold countV;rw [if_neg hn]
  rw [hc]
  clear hc
  go_enter Tryz.func138,Tryz.ntmps138
  go_wp2_with fail
  refine (in_no _ _ _ hn).mono ?_
  rintro e w' ⟨rfl,rfl⟩
  clear hn
  go_wp2
  go_ret2
  exact ⟨rfl,rfl⟩
theorem countV_ok (n k : Nat) (hn : n ≤ 80) (hx : choose n k ≤ 9223372036854775807) (x y : Int) (h1 : x = n) (h2 : y = k) : countV x y = ((choose n k : Int),0) := by
 unfold countV
 rw [chooseI_nat n k x y h1 h2,if_pos (by omega),if_pos hx]
set_option maxHeartbeats 1000000 in
set_option maxRecDepth 100000 in
theorem bonuses_any (g : GameD) (av tv : Value) (w : World) (sa : ∃ a n c,av = .slice a n c) (st : ∃ a n c,tv = .slice a n c) (he : gameE g = 0) :
  Calls Tryz.prog 96 #[gameVal g av tv] w (IntB (bonusN g) w) := by
 obtain ⟨aa,an,ac,rfl⟩ := sa
 obtain ⟨ta,tn,tc,rfl⟩ := st
 have hf := mat_facts (game_mat he)
 have hbo : g.bonusOf = ((g.bonusOf.toNat : Nat) : Int) := by omega
 have hbn : g.bonus = ((g.bonus.toNat : Nat) : Int) := by omega
 have hc := hide (rcount_any g.bonusOf g.bonus)
 rw [countV_fit hbo hbn (by omega) (Nat.le_trans (choose_bonus (by omega) (by omega)) (by omega))] at hc
 have hr0 : g.bonus = 0 → bonusN g = 1 := by
  intro h
  unfold bonusN
  rw [h]
  exact choose_zero _
 obtain ⟨r,hr⟩ : ∃ r,r = bonusN g := ⟨_,rfl⟩
 rw [show choose g.bonusOf.toNat g.bonus.toNat = r from hr.symm] at hc
 rw [← hr] at hr0 ⊢
 clear hf hr
 replace hbo := hide hbo
 replace hbn := hide hbn
 unfold gameVal
 by_cases h0 : g.bonus = 0
 ·have hr2 := hide (hr0 h0)
  have hb : (g.bonus == 0) = true := by simpa using h0
  replace h0 := hide h0
  clear hr0
  go_enter Tryz.func96,Tryz.ntmps96
  go_upto_region 1 with (fail)
  obtain ⟨W,hW⟩ : ∃ W,W = (w.alloc (Obj.cells #[.string g.name,.int .i64 g.kind,.int .i64 g.price,.int .i64 g.main,.int .i64 g.of,.int .i64 g.bonus,.int .i64 g.bonusOf,.int .i64 g.extra,.int .i64 g.draws,.int .i64 g.system,.int .i64 g.days,.int .i64 g.at_,.int .i64 g.close,.int .i64 g.cancel,.int .i64 g.expiry,.int .i64 g.pool,.int .i64 g.reserve,.int .i64 g.round,.int .i64 g.cap,.int .i64 g.rolls,(.slice aa an ac),(.slice ta tn tc)] 25)) := ⟨_,rfl⟩
  have bW : Below w.heap.size w W := by rw [hW];exact Bel.al (Below.refl _ _) _
  have r0 : GameAt W (w.heap.size) g ((.slice aa an ac)) ((.slice ta tn tc)) := by rw [hW];exact Row.new _ _ _
  have sW : w.heap.size < W.heap.size := by rw [hW];simp
  rw [← hW]
  clear hW
  have d5 := r0.bonus
  go_wp2
  go_ret
  rw [hr2.out]
  exact ⟨rfl,bW⟩
 ·have hb : (g.bonus == 0) = false := by simpa using h0
  replace h0 := hide h0
  clear hr0
  go_enter Tryz.func96,Tryz.ntmps96
  go_upto_region 1 with (fail)
  obtain ⟨W,hW⟩ : ∃ W,W = (w.alloc (Obj.cells #[.string g.name,.int .i64 g.kind,.int .i64 g.price,.int .i64 g.main,.int .i64 g.of,.int .i64 g.bonus,.int .i64 g.bonusOf,.int .i64 g.extra,.int .i64 g.draws,.int .i64 g.system,.int .i64 g.days,.int .i64 g.at_,.int .i64 g.close,.int .i64 g.cancel,.int .i64 g.expiry,.int .i64 g.pool,.int .i64 g.reserve,.int .i64 g.round,.int .i64 g.cap,.int .i64 g.rolls,(.slice aa an ac),(.slice ta tn tc)] 25)) := ⟨_,rfl⟩
  have bW : Below w.heap.size w W := by rw [hW];exact Bel.al (Below.refl _ _) _
  have r0 : GameAt W (w.heap.size) g ((.slice aa an ac)) ((.slice ta tn tc)) := by rw [hW];exact Row.new _ _ _
  have sW : w.heap.size < W.heap.size := by rw [hW];simp
  rw [← hW]
  clear hW
  have d5 := r0.bonus
  have d6 := r0.bonusOf
  go_wp2_with fail
  refine (hc.out _).mono ?_
  rintro e w' ⟨rfl,rfl⟩
  go_wp2
  go_ret
  exact ⟨rfl,bW⟩
set_option maxHeartbeats 4000000 in
set_option maxRecDepth 100000 in
theorem rcount13_any (g : GameD) (av tv : Value) (ms : List AddonM) (w : World) (h : GameR w av tv ms g) :
    Calls Tryz.prog 94 #[gameVal g av tv] w (IntC (countP g).1 (countP g).2 w) := by
  have hc := hide (fun X (hX : GameR X av tv ms g) => rcheck_any g av tv ms X hX)
  have hh := hide h
  obtain ⟨aa, ac, rfl, hal, ham⟩ := h.1.1.shape
  obtain ⟨ta, tc, rfl, htl, htm⟩ := h.2.2.shape
  clear h
  unfold countP
  by_cases he : gameE g = 0
  · rw [if_pos he]
    have hf := mat_facts (game_mat he)
    have hk := game_kind he
    have hbn := hide (fun X => bonuses_any g (.slice aa ms.length ac) (.slice ta g.tiers.length tc) X ⟨_, _, _, rfl⟩ ⟨_, _, _, rfl⟩ he)
    rw [he] at hc
    obtain ⟨f1, f2, f3, f4, f5, f6, f7, f8, f9, f10, f11⟩ := hf
    by_cases hk2 : g.kind = 2
    · obtain ⟨e1, e2⟩ := f7 hk2
      have hkb : (g.kind == 2) = true := by simpa using hk2
      have hr2 : countG g = g.of.toNat ^ g.main.toNat := if_pos hk2
      obtain ⟨r, hr⟩ : ∃ r, r = countG g := ⟨_, rfl⟩
      rw [← hr] at hr2 ⊢
      obtain ⟨nm, hnm⟩ : ∃ n : Nat, g.main = n := ⟨g.main.toNat, by omega⟩
      obtain ⟨nof, hnof⟩ : ∃ n : Nat, g.of = n := ⟨g.of.toNat, by omega⟩
      rw [hnm, hnof, Int.toNat_natCast, Int.toNat_natCast] at hr2
      have hnm10 : nm ≤ 10 := by omega
      have hnof10 : nof ≤ 10 := by omega
      replace hr2 := hide hr2
      replace hk2 := hide hk2
      clear hr he hk f1 f2 f3 f4 f5 f6 f7 f8 f9 f10 f11 e1 e2 hbn
      replace hnm := hide hnm
      replace hnof := hide hnof
      unfold gameVal
      go_enter Tryz.func94, Tryz.ntmps94
      go_upto_region 1 with (fail)
      obtain ⟨W, hW⟩ : ∃ W, W = (w.alloc (Obj.cells #[.string g.name, .int .i64 g.kind, .int .i64 g.price, .int .i64 g.main, .int .i64 g.of, .int .i64 g.bonus, .int .i64 g.bonusOf, .int .i64 g.extra, .int .i64 g.draws, .int .i64 g.system, .int .i64 g.days, .int .i64 g.at_, .int .i64 g.close, .int .i64 g.cancel, .int .i64 g.expiry, .int .i64 g.pool, .int .i64 g.reserve, .int .i64 g.round, .int .i64 g.cap, .int .i64 g.rolls, (.slice aa ms.length ac), (.slice ta g.tiers.length tc)] 25)) := ⟨_, rfl⟩
      have bW : Below w.heap.size w W := by rw [hW]; exact Bel.al (Below.refl _ _) _
      have r0 : GameAt W (w.heap.size) g ((.slice aa ms.length ac)) ((.slice ta g.tiers.length tc)) := by rw [hW]; exact Row.new _ _ _
      have sW : w.heap.size < W.heap.size := by rw [hW]; simp
      rw [← hW]
      clear hW
      go_wp2_with (first | (refine wpList_load_row rfl 25 _ rfl _ rfl _ _ _ _ r0 Tryz.underlying25 rfl (by kernel_rfl) ?_) | fail)
      refine (hc.out _ (hh.out.below bW)).mono ?_
      rintro e w1 ⟨s, rfl, hb1⟩
      have d1 := (r0.keep hb1).kind
      have d3 := (r0.keep hb1).main
      have d4 := (r0.keep hb1).of
      rw [hnm.out] at d3
      rw [hnof.out] at d4
      have B1 := Bel.to bW hb1
      clear r0 hb1 bW hh hc
      go_wp2
      go_loopg [6, 7] nm (fun gh t q wr => ∃ (i p : Nat), gh = nm - i ∧ i ≤ nm ∧ q = .int .i64 i ∧ t = .int .i64 p ∧ wr = w1 ∧ p = nof ^ i)
      case atStart => exact ⟨0, 1, rfl, Nat.zero_le _, rfl, rfl, rfl, rfl⟩
      case round =>
        obtain ⟨i, p, hg, hi, rfl, rfl, rfl, hpi⟩ := hrel
        replace hg := hide hg
        by_cases hlt : i < nm
        · have hlt2 := hide hlt
          have hnext := hide (show p * nof = nof ^ (i + 1) by rw [hpi]; rfl)
          have b1 : nof ^ (i + 1) ≤ 10000000000 := pow_ten (by omega) (by omega)
          rw [← hnext.out] at b1
          have b2 : (p : Int) * (nof : Int) ≤ 10000000000 := by have : ((p * nof : Nat) : Int) ≤ 10000000000 := by omega
                                                                simpa using this
          have b3 : (0 : Int) ≤ (p : Int) * (nof : Int) := by have : (0 : Int) ≤ ((p * nof : Nat) : Int) := by omega
                                                              simpa using this
          have hq : (p : Int) * (nof : Int) = ((p * nof : Nat) : Int) := by simp
          replace hq := hide hq
          replace hpi := hide hpi
          clear b1
          go_wp2
          go_roundg (nm - (i + 1))
          case measure => have := hg.out; have := hlt2.out; omega
          case rel => exact ⟨i + 1, p * nof, rfl, by have := hlt2.out; omega, by go_num, by rw [hq.out], rfl, hnext.out⟩
        · have hin : i = nm := by omega
          have hend : r = p := by rw [hr2.out, hpi, hin]
          replace hend := hide hend
          replace hin := hide hin
          replace hpi := hide hpi
          go_wp2
          go_ret2
          rw [hend.out]
          exact ⟨rfl, B1⟩
    · have hkb : (g.kind == 2) = false := by simpa using hk2
      have hr2 : countG g = choose g.of.toNat g.main.toNat * bonusN g := if_neg hk2
      have hof : g.of = ((g.of.toNat : Nat) : Int) := by omega
      have hmn : g.main = ((g.main.toNat : Nat) : Int) := by omega
      have cb : choose g.of.toNat g.main.toNat ≤ 1646492110120 := choose_main (by omega) (by omega)
      have bb : bonusN g ≤ 1581580 := choose_bonus (by omega) (by omega)
      have cc := hide (rcount_any g.of g.main)
      rw [countV_fit hof hmn (by omega) (by omega)] at cc
      obtain ⟨r, hr⟩ : ∃ r, r = countG g := ⟨_, rfl⟩
      rw [← hr] at hr2 ⊢
      obtain ⟨A, hA⟩ : ∃ A, A = choose g.of.toNat g.main.toNat := ⟨_, rfl⟩
      obtain ⟨B, hB⟩ : ∃ B, B = bonusN g := ⟨_, rfl⟩
      rw [← hA] at cc cb hr2
      rw [← hB] at bb hr2 hbn
      have b1 : A * B ≤ 9223372036854775807 := Nat.le_trans (Nat.mul_le_mul cb bb) (by omega)
      have b2 : (A : Int) * (B : Int) ≤ 9223372036854775807 := by
        have : ((A * B : Nat) : Int) ≤ 9223372036854775807 := by omega
        simpa using this
      have b3 : (0 : Int) ≤ (A : Int) * (B : Int) := by
        have : (0 : Int) ≤ ((A * B : Nat) : Int) := by omega
        simpa using this
      have hq : (A : Int) * (B : Int) = ((A * B : Nat) : Int) := by simp
      replace hq := hide hq
      replace hr2 := hide hr2
      replace hk2 := hide hk2
      clear hr hA hB he hk hof hmn f1 f2 f3 f4 f5 f6 f7 f8 f9 f10 f11 cb bb b1
      unfold gameVal at hbn ⊢
      go_enter Tryz.func94, Tryz.ntmps94
      go_upto_region 1 with (fail)
      obtain ⟨W, hW⟩ : ∃ W, W = (w.alloc (Obj.cells #[.string g.name, .int .i64 g.kind, .int .i64 g.price, .int .i64 g.main, .int .i64 g.of, .int .i64 g.bonus, .int .i64 g.bonusOf, .int .i64 g.extra, .int .i64 g.draws, .int .i64 g.system, .int .i64 g.days, .int .i64 g.at_, .int .i64 g.close, .int .i64 g.cancel, .int .i64 g.expiry, .int .i64 g.pool, .int .i64 g.reserve, .int .i64 g.round, .int .i64 g.cap, .int .i64 g.rolls, (.slice aa ms.length ac), (.slice ta g.tiers.length tc)] 25)) := ⟨_, rfl⟩
      have bW : Below w.heap.size w W := by rw [hW]; exact Bel.al (Below.refl _ _) _
      have r0 : GameAt W (w.heap.size) g ((.slice aa ms.length ac)) ((.slice ta g.tiers.length tc)) := by rw [hW]; exact Row.new _ _ _
      have sW : w.heap.size < W.heap.size := by rw [hW]; simp
      rw [← hW]
      clear hW
      go_wp2_with (first | (refine wpList_load_row rfl 25 _ rfl _ rfl _ _ _ _ r0 Tryz.underlying25 rfl (by kernel_rfl) ?_) | fail)
      refine (hc.out _ (hh.out.below bW)).mono ?_
      rintro e w1 ⟨s, rfl, hb1⟩
      have r0 := r0.keep hb1
      have d1 := r0.kind
      have d3 := r0.main
      have d4 := r0.of
      have B1 := Bel.to bW hb1
      clear hb1 bW hh hc
      go_wp2_with fail
      refine (cc.out _).mono ?_
      rintro e w' ⟨rfl, rfl⟩
      go_wp2_with (first | (refine wpList_load_row rfl 25 _ rfl _ rfl _ _ _ _ r0 Tryz.underlying25 rfl (by kernel_rfl) ?_) | fail)
      refine (hbn.out _).mono ?_
      rintro e w2 ⟨rfl, hb2⟩
      have B2 := Bel.to B1 hb2
      go_wp2
      go_ret2
      rw [hr2.out, hq.out]
      exact ⟨rfl, B2⟩
  · rw [if_neg he]
    obtain ⟨c, hcc⟩ : ∃ c, c = gameE g := ⟨_, rfl⟩
    rw [← hcc] at hc he ⊢
    have hcb : (c != 0) = true := by simpa using he
    replace he := hide he
    clear hcc
    unfold gameVal
    go_enter Tryz.func94, Tryz.ntmps94
    go_upto_region 1 with (fail)
    obtain ⟨W, hW⟩ : ∃ W, W = (w.alloc (Obj.cells #[.string g.name, .int .i64 g.kind, .int .i64 g.price, .int .i64 g.main, .int .i64 g.of, .int .i64 g.bonus, .int .i64 g.bonusOf, .int .i64 g.extra, .int .i64 g.draws, .int .i64 g.system, .int .i64 g.days, .int .i64 g.at_, .int .i64 g.close, .int .i64 g.cancel, .int .i64 g.expiry, .int .i64 g.pool, .int .i64 g.reserve, .int .i64 g.round, .int .i64 g.cap, .int .i64 g.rolls, (.slice aa ms.length ac), (.slice ta g.tiers.length tc)] 25)) := ⟨_, rfl⟩
    have bW : Below w.heap.size w W := by rw [hW]; exact Bel.al (Below.refl _ _) _
    have r0 : GameAt W (w.heap.size) g ((.slice aa ms.length ac)) ((.slice ta g.tiers.length tc)) := by rw [hW]; exact Row.new _ _ _
    have sW : w.heap.size < W.heap.size := by rw [hW]; simp
    rw [← hW]
    clear hW
    go_wp2_with (first | (refine wpList_load_row rfl 25 _ rfl _ rfl _ _ _ _ r0 Tryz.underlying25 rfl (by kernel_rfl) ?_) | fail)
    refine (hc.out _ (hh.out.below bW)).mono ?_
    rintro e w1 ⟨s, rfl, hb1⟩
    have B1 := Bel.to bW hb1
    clear hb1
    go_wp2
    go_ret2
    exact ⟨rfl, B1⟩
theorem mcount_any (g : GameD) (av tv : Value) (ms : List AddonM) (w : World) (h : GameR w av tv ms g) :
  Calls Tryz.prog 36 #[gameVal g av tv] w (IntC (countP g).1 (countP g).2 w) := by
 unfold countP
 by_cases he : gameE g = 0
 ·rw [if_pos he];exact mcount_ok g av tv ms w h he
 ·rw [if_neg he];exact mcount_bad g av tv ms w h he
def LineC (a b : List Int) (c : Int) (w : World) (e : Ending) (w' : World) : Prop := ∃ u v,e = .returned (.tuple #[lineVal u v,.int .i64 c]) ∧ LineR w' u v a b ∧ Below w.heap.size w w'
set_option maxHeartbeats 2000000 in
set_option maxRecDepth 100000 in
theorem munrank_bad (g : GameD) (av tv : Value) (ms : List AddonM) (r : Int) (w : World) (h : GameR w av tv ms g) (he : gameE g ≠ 0) :
  Calls Tryz.prog 49 #[gameVal g av tv,.int .i64 r] w (LineC [] [] (gameE g) w) := by
 have hc := hide (fun X (hX : GameR X av tv ms g) => mcount_any g av tv ms X hX)
 have hcp : countP g = (0,gameE g) := if_neg he
 rw [hcp] at hc
 have hh := hide h
 obtain ⟨aa,ac,rfl,hal,ham⟩ := h.1.1.shape
 obtain ⟨ta,tc,rfl,htl,htm⟩ := h.2.2.shape
 clear h
 obtain ⟨c,hcc⟩ : ∃ c,c = gameE g := ⟨_,rfl⟩
 rw [← hcc] at hc he ⊢
 clear hcc hcp
 have hcb : (c != 0) = true := by simpa using he
 replace he := hide he
 unfold gameVal
 go_enter Tryz.func49,Tryz.ntmps49
 go_upto_region 1 with (fail)
 obtain ⟨W,hW⟩ : ∃ W,W = ((w.alloc (Obj.cells #[.string g.name,.int .i64 g.kind,.int .i64 g.price,.int .i64 g.main,.int .i64 g.of,.int .i64 g.bonus,.int .i64 g.bonusOf,.int .i64 g.extra,.int .i64 g.draws,.int .i64 g.system,.int .i64 g.days,.int .i64 g.at_,.int .i64 g.close,.int .i64 g.cancel,.int .i64 g.expiry,.int .i64 g.pool,.int .i64 g.reserve,.int .i64 g.round,.int .i64 g.cap,.int .i64 g.rolls,(.slice aa ms.length ac),(.slice ta g.tiers.length tc)] 25)).alloc (Obj.cells #[(.slice none 0 0),(.slice none 0 0)] 41)) := ⟨_,rfl⟩
 have bW : Below w.heap.size w W := by rw [hW];exact Bel.al (Bel.al (Below.refl _ _) _) _
 have r0 : GameAt W (w.heap.size) g ((.slice aa ms.length ac)) ((.slice ta g.tiers.length tc)) := by rw [hW];exact Row.alloc (Row.new _ _ _) _
 have r1 : LineAt W (w.heap.size + 1) ((.slice none 0 0)) ((.slice none 0 0)) := by rw [hW];exact Row.at2 _ _ _ _
 have sW : w.heap.size + 1 < W.heap.size := by rw [hW];simp
 rw [← hW]
 clear hW
 go_wp2_with (first | (refine wpList_load_row rfl 25 _ rfl _ rfl _ _ _ _ r0 Tryz.underlying25 rfl (by kernel_rfl) ?_) | fail)
 refine (hc.out _ (hh.out.below bW)).mono ?_
 rintro e w1 ⟨rfl,hb1⟩
 have B1 := Bel.to bW hb1
 have r0 := r0.keep hb1
 have r1 := r1.keep hb1
 have z1 : w.heap.size + 1 < w1.heap.size := by have := hb1.size;omega
 clear hb1
 have x0 := LineAt.main r1
 have x1 := LineAt.bonus r1
 have x2 := Row.frozen r1 0
 have x3 := Row.frozen r1 1
 have rL : LineAt ((w1.setCell ⟨w.heap.size + 1,0,none⟩ (.slice none 0 0)).setCell ⟨w.heap.size + 1,1,none⟩ (.slice none 0 0)) (w.heap.size + 1) (.slice none 0 0) (.slice none 0 0) := LineAt.store r1 _ _
 have y0 := hide rL.main
 have y1 := hide rL.bonus
 have B9 := Bel.st (Bel.st B1 (p := ⟨w.heap.size + 1,0,none⟩) (by simp) (.slice none 0 0)) (p := ⟨w.heap.size + 1,1,none⟩) (by simp) (.slice none 0 0)
 clear rL
 go_wp2
 exact bodyPost_ret (v := .tuple #[.agg #[.slice none 0 0,.slice none 0 0],.int .i64 c]) (by simp [results,Tryz.results49,go_sem,y0.out,y1.out]) rfl ⟨_,_,rfl,⟨Rd.nil,Rd.nil⟩,B9⟩
set_option maxHeartbeats 2000000 in
set_option maxRecDepth 100000 in
theorem munrank_range (g : GameD) (av tv : Value) (ms : List AddonM) (r : Int) (w : World) (h : GameR w av tv ms g) (he : gameE g = 0) (hr : r < 0 ∨ (countG g : Int) ≤ r) :
  Calls Tryz.prog 49 #[gameVal g av tv,.int .i64 r] w (LineC [] [] 2 w) := by
 have hc := hide (fun X (hX : GameR X av tv ms g) => mcount_any g av tv ms X hX)
 have hcp : countP g = ((countG g : Int),0) := if_pos he
 rw [hcp] at hc
 have hh := hide h
 obtain ⟨aa,ac,rfl,hal,ham⟩ := h.1.1.shape
 obtain ⟨ta,tc,rfl,htl,htm⟩ := h.2.2.shape
 clear h
 obtain ⟨c,hcc⟩ : ∃ c,c = countG g := ⟨_,rfl⟩
 rw [← hcc] at hc hr
 clear hcc hcp he
 have hcase : r < 0 ∨ (¬ r < 0 ∧ (c : Int) ≤ r) := by omega
 clear hr
 rcases hcase with hr | ⟨hr,hr2⟩
 all_goals
  unfold gameVal
  go_enter Tryz.func49,Tryz.ntmps49
  go_upto_region 1 with (fail)
  obtain ⟨W,hW⟩ : ∃ W,W = ((w.alloc (Obj.cells #[.string g.name,.int .i64 g.kind,.int .i64 g.price,.int .i64 g.main,.int .i64 g.of,.int .i64 g.bonus,.int .i64 g.bonusOf,.int .i64 g.extra,.int .i64 g.draws,.int .i64 g.system,.int .i64 g.days,.int .i64 g.at_,.int .i64 g.close,.int .i64 g.cancel,.int .i64 g.expiry,.int .i64 g.pool,.int .i64 g.reserve,.int .i64 g.round,.int .i64 g.cap,.int .i64 g.rolls,(.slice aa ms.length ac),(.slice ta g.tiers.length tc)] 25)).alloc (Obj.cells #[(.slice none 0 0),(.slice none 0 0)] 41)) := ⟨_,rfl⟩
  have bW : Below w.heap.size w W := by rw [hW];exact Bel.al (Bel.al (Below.refl _ _) _) _
  have r0 : GameAt W (w.heap.size) g ((.slice aa ms.length ac)) ((.slice ta g.tiers.length tc)) := by rw [hW];exact Row.alloc (Row.new _ _ _) _
  have r1 : LineAt W (w.heap.size + 1) ((.slice none 0 0)) ((.slice none 0 0)) := by rw [hW];exact Row.at2 _ _ _ _
  have sW : w.heap.size + 1 < W.heap.size := by rw [hW];simp
  rw [← hW]
  clear hW
  go_wp2_with (first | (refine wpList_load_row rfl 25 _ rfl _ rfl _ _ _ _ r0 Tryz.underlying25 rfl (by kernel_rfl) ?_) | fail)
  refine (hc.out _ (hh.out.below bW)).mono ?_
  rintro e w1 ⟨rfl,hb1⟩
  have B1 := Bel.to bW hb1
  have r0 := r0.keep hb1
  have r1 := r1.keep hb1
  have z1 : w.heap.size + 1 < w1.heap.size := by have := hb1.size;omega
  clear hb1
  have x0 := LineAt.main r1
  have x1 := LineAt.bonus r1
  have x2 := Row.frozen r1 0
  have x3 := Row.frozen r1 1
  have rL : LineAt ((w1.setCell ⟨w.heap.size + 1,0,none⟩ (.slice none 0 0)).setCell ⟨w.heap.size + 1,1,none⟩ (.slice none 0 0)) (w.heap.size + 1) (.slice none 0 0) (.slice none 0 0) := LineAt.store r1 _ _
  have y0 := hide rL.main
  have y1 := hide rL.bonus
  have B9 := Bel.st (Bel.st B1 (p := ⟨w.heap.size + 1,0,none⟩) (by simp) (.slice none 0 0)) (p := ⟨w.heap.size + 1,1,none⟩) (by simp) (.slice none 0 0)
  clear rL
  go_wp2
  exact bodyPost_ret (v := .tuple #[.agg #[.slice none 0 0,.slice none 0 0],.int .i64 2]) (by simp [results,Tryz.results49,go_sem,y0.out,y1.out]) rfl ⟨_,_,rfl,⟨Rd.nil,Rd.nil⟩,B9⟩
set_option maxHeartbeats 4000000 in
set_option maxRecDepth 100000 in
theorem munrank_digits (g : GameD) (av tv : Value) (ms : List AddonM) (r : Nat) (w : World) (h : GameR w av tv ms g) (he : gameE g = 0) (hk : g.kind = 2) (hr : r < countG g) :
  Calls Tryz.prog 49 #[gameVal g av tv,.int .i64 (r : Int)] w (LineC (digitsL g.of.toNat g.main.toNat r) [] 0 w) := by
 have hc := hide (fun X (hX : GameR X av tv ms g) => mcount_any g av tv ms X hX)
 have hcp : countP g = ((countG g : Int),0) := if_pos he
 rw [hcp] at hc
 have hh := hide h
 obtain ⟨aa,ac,rfl,hal,ham⟩ := h.1.1.shape
 obtain ⟨ta,tc,rfl,htl,htm⟩ := h.2.2.shape
 clear h
 have hf := mat_facts (game_mat he)
 obtain ⟨f1,f2,f3,f4,f5,f6,f7,f8,f9,f10,f11⟩ := hf
 obtain ⟨e1,e2⟩ := f7 hk
 have hcg : countG g ≤ 10000000000 := by
  have : countG g = g.of.toNat ^ g.main.toNat := if_pos hk
  rw [this]
  exact pow_ten (by omega) (by omega)
 obtain ⟨c,hcc⟩ : ∃ c,c = countG g := ⟨_,rfl⟩
 rw [← hcc] at hc hr hcg
 have hkb : (g.kind == 2) = true := by simpa using hk
 obtain ⟨n,hn⟩ : ∃ n : Nat,g.main = n := ⟨g.main.toNat,by omega⟩
 obtain ⟨q,hq⟩ : ∃ n : Nat,g.of = n := ⟨g.of.toNat,by omega⟩
 rw [hn,hq,Int.toNat_natCast,Int.toNat_natCast]
 have hq2 : 2 ≤ q := by omega
 have hq10 : q ≤ 10 := by omega
 have hn1 : 1 ≤ n := by omega
 have hn10 : n ≤ 10 := by omega
 have hrc : (r : Int) < (c : Int) := by omega
 replace hn := hide hn
 replace hq := hide hq
 replace hk := hide hk
 clear hcc hcp he f1 f2 f3 f4 f5 f6 f7 f8 f9 f10 f11 e1 e2
 unfold gameVal
 go_enter Tryz.func49,Tryz.ntmps49
 go_upto_region 1 with (fail)
 obtain ⟨W,hW⟩ : ∃ W,W = ((w.alloc (Obj.cells #[.string g.name,.int .i64 g.kind,.int .i64 g.price,.int .i64 g.main,.int .i64 g.of,.int .i64 g.bonus,.int .i64 g.bonusOf,.int .i64 g.extra,.int .i64 g.draws,.int .i64 g.system,.int .i64 g.days,.int .i64 g.at_,.int .i64 g.close,.int .i64 g.cancel,.int .i64 g.expiry,.int .i64 g.pool,.int .i64 g.reserve,.int .i64 g.round,.int .i64 g.cap,.int .i64 g.rolls,(.slice aa ms.length ac),(.slice ta g.tiers.length tc)] 25)).alloc (Obj.cells #[(.slice none 0 0),(.slice none 0 0)] 41)) := ⟨_,rfl⟩
 have bW : Below w.heap.size w W := by rw [hW];exact Bel.al (Bel.al (Below.refl _ _) _) _
 have r0 : GameAt W (w.heap.size) g ((.slice aa ms.length ac)) ((.slice ta g.tiers.length tc)) := by rw [hW];exact Row.alloc (Row.new _ _ _) _
 have r1 : LineAt W (w.heap.size + 1) ((.slice none 0 0)) ((.slice none 0 0)) := by rw [hW];exact Row.at2 _ _ _ _
 have sW : w.heap.size + 1 < W.heap.size := by rw [hW];simp
 rw [← hW]
 clear hW
 go_wp2_with (first | (refine wpList_load_row rfl 25 _ rfl _ rfl _ _ _ _ r0 Tryz.underlying25 rfl (by kernel_rfl) ?_) | fail)
 refine (hc.out _ (hh.out.below bW)).mono ?_
 rintro e w1 ⟨rfl,hb1⟩
 have B1 := Bel.to bW hb1
 have r0 := r0.keep hb1
 have r1 := r1.keep hb1
 have z1 : w.heap.size + 1 < w1.heap.size := by have := hb1.size;omega
 clear hb1
 have d1 := r0.kind
 have d3 := r0.main
 have d4 := r0.of
 rw [hn.out] at d3
 rw [hq.out] at d4
 clear r0 bW hh hc
 go_wp2_with (with_reducible refine wpList_make_row _ rfl _ _ 27 rfl 3 (.int .i64 0) 8 Tryz.underlying27 infoInt rfl .i64 .i64 _ _ n n rfl rfl rfl rfl (Nat.le_refl _) (by omega) (by omega) ?_;intro w2 hrow hb2 hz2;have d4 := Bel.cellOf hb2 d4;have d3 := Bel.cellOf hb2 d3)
 have r1 := r1.keep hb2
 have B2 := Bel.to B1 hb2
 have hrow0 : Row w2 w1.heap.size 3 ((List.replicate n (0 : Int) ++ []).map I64) := by
  rw [List.append_nil,List.map_replicate];exact hrow
 have z2 : w1.heap.size < w2.heap.size := by omega
 have hG0 := Gb.refl w2 (some w1.heap.size)
 obtain ⟨gb,hgb⟩ : ∃ gb,gb = w1.heap.size := ⟨_,rfl⟩
 rw [← hgb] at hrow0 hG0 z1 z2 ⊢
 have hgw : w.heap.size ≤ gb := by omega
 clear hrow hb2 hz2 B1 hgb d1
 go_wp2
 go_loopg [1,9] (n + 1) (fun gh rr t wr => ∃ (k R : Nat) (D : List Int) (x : Int),gh = k + 1 ∧ k ≤ n ∧ rr = .int .i64 (R : Int) ∧ t = .int .i64 x ∧ R ≤ 10000000000 ∧ w2.grownBy wr (some gb) ∧ Row wr gb 3 ((List.replicate k (0 : Int) ++ D).map I64) ∧ Hid (x = (k : Int) - 1) ∧ Hid (digitsL q k R ++ D = digitsL q n r))
 case atStart =>
  refine ⟨n,r,[],(n : Int) - 1,rfl,Nat.le_refl _,rfl,rfl,by omega,hG0,hrow0,rfl,?_⟩
  show _ = _
  rw [List.append_nil]
 case round =>
  obtain ⟨k,R,D,x,hg,hkn,rfl,rfl,hR,hgr,hrow,hx,hD⟩ := hrel
  replace hg := hide hg
  have d4 := Gb.cellOf hgr d4 (by omega)
  cases k with
  | zero =>
   have hx0 : x = -1 := by have := hx.out;omega
   subst hx0
   have hD0 : D = digitsL q n r := by have := hD.out;rw [digitsL,List.nil_append] at this;exact this
   have hrd : Rd I64 wr (.slice (some ⟨gb,0,none⟩) n n) D := by
    rw [List.replicate_zero,List.nil_append] at hrow
    exact hrow.rdAll (by rw [hD0,digitsL_len]) (Nat.le_refl _) (by omega)
   have r1 := Row.grown r1 hgr (by intro e;injection e with e;omega)
   have B3 := Gb.bel B2 hgr hgw
   replace hD0 := hide hD0
   replace hD := hide hD
   have x0 := LineAt.main r1
   have x1 := LineAt.bonus r1
   have x2 := Row.frozen r1 0
   have x3 := Row.frozen r1 1
   have rL : LineAt ((wr.setCell ⟨w.heap.size + 1,0,none⟩ (.slice (some ⟨gb,0,none⟩) n n)).setCell ⟨w.heap.size + 1,1,none⟩ (.slice none 0 0)) (w.heap.size + 1) (.slice (some ⟨gb,0,none⟩) n n) (.slice none 0 0) := LineAt.store r1 _ _
   have y0 := hide rL.main
   have y1 := hide rL.bonus
   have B9 := Bel.st (Bel.st B3 (p := ⟨w.heap.size + 1,0,none⟩) (by simp) (.slice (some ⟨gb,0,none⟩) n n)) (p := ⟨w.heap.size + 1,1,none⟩) (by simp) (.slice none 0 0)
   clear rL
   go_wp2
   have hrd2 := (hrd.setCell (p := ⟨w.heap.size + 1,0,none⟩) (by simp [Value.ownBlock];omega) (.slice (some ⟨gb,0,none⟩) n n)).setCell (p := ⟨w.heap.size + 1,1,none⟩) (by simp [Value.ownBlock];omega) (.slice none 0 0)
   rw [hD0.out] at hrd2
   exact bodyPost_ret (v := .tuple #[.agg #[.slice (some ⟨gb,0,none⟩) n n,.slice none 0 0],.int .i64 0]) (by simp [results,Tryz.results49,go_sem,y0.out,y1.out]) rfl ⟨_,_,rfl,⟨hrd2,Rd.nil⟩,B9⟩
  | succ j =>
   have hxj : x = (j : Int) := by have := hx.out;omega
   subst hxj
   have hD1 : digitsL q j (R / q) ++ (((R % q : Nat) : Int) :: D) = digitsL q n r := by
    have := hD.out;rw [digitsL,List.append_assoc] at this;exact this
   have hset : (List.replicate (j + 1) (0 : Int) ++ D).set j ((R % q : Nat) : Int) = List.replicate j 0 ++ (((R % q : Nat) : Int) :: D) := by
    rw [List.replicate_succ',List.append_assoc,List.set_append_right _ _ (by simp)]
    simp
   have hrow2 := hrow.setV j (((R % q : Nat) : Int))
   rw [hset] at hrow2
   have hgr2 := Gb.set (g := gb) hgr (p := ⟨gb,j,none⟩) (.inl rfl) (I64 ((R % q : Nat) : Int))
   have hlen : ((List.replicate (j + 1) (0 : Int) ++ D).map I64).length = n := by
    have := congrArg List.length hD.out
    rw [List.length_append,digitsL_len,digitsL_len] at this
    rw [List.length_map,List.length_append,List.length_replicate];exact this
   have ce := Row.cell hrow (i := j) (by omega)
   have cf := Row.frozen hrow j
   have j1 : (0 : Int) ≤ (j : Int) := by omega
   have j2 : (j : Int) < (n : Int) := by omega
   have m1 : (R : Int) % (q : Int) = ((R % q : Nat) : Int) := by simp
   have m2 : (R : Int) / (q : Int) = ((R / q : Nat) : Int) := by simp
   have m3 : R / q ≤ 10000000000 := Nat.le_trans (Nat.div_le_self _ _) hR
   obtain ⟨R2,hR2⟩ : ∃ R2,R2 = R / q := ⟨_,rfl⟩
   rw [← hR2] at m2 m3 hD1
   have q0 : ((q : Int) == 0) = false := by simp;omega
   have q1 : (q : Int) ≠ 0 := by omega
   rw [show I64 ((R % q : Nat) : Int) = .int .i64 ((R : Int) % (q : Int)) by rw [m1]] at hrow2 hgr2
   replace m1 := hide m1
   replace m2 := hide m2
   replace hR2 := hide hR2
   replace m3 := hide m3
   replace hD1 := hide hD1
   replace hset := hide hset
   replace hlen := hide hlen
   go_wp2
   go_roundg (j + 1)
   case measure => have := hg.out;omega
   case rel => exact ⟨j,R2,_ :: D,(j : Int) - 1,rfl,by omega,by rw [m2.out];first | rfl | (rw [IntWalk.wrap64_in _ (by have := m3.out;omega)]),rfl,m3.out,hgr2,hrow2,rfl,hD1⟩
theorem unrank_facts {g : GameD} {r : Nat} (he : gameE g = 0) (hk : g.kind ≠ 2) (hr : r < countG g) :
  0 < bonusN g ∧ bonusN g ≤ 1581580 ∧ r / bonusN g < choose g.of.toNat g.main.toNat ∧ r % bonusN g < bonusN g ∧ choose g.of.toNat g.main.toNat ≤ 1646492110120 ∧
  g.of = ((g.of.toNat : Nat) : Int) ∧ g.main = ((g.main.toNat : Nat) : Int) ∧ g.bonusOf = ((g.bonusOf.toNat : Nat) : Int) ∧ g.bonus = ((g.bonus.toNat : Nat) : Int) ∧
  g.of.toNat ≤ 80 ∧ g.bonusOf.toNat ≤ 80 ∧ g.main.toNat ≤ g.of.toNat ∧ g.bonus.toNat ≤ g.bonusOf.toNat ∧ r ≤ 2604058991523589600 := by
 have hf := mat_facts (game_mat he)
 have hc : countG g = choose g.of.toNat g.main.toNat * bonusN g := if_neg hk
 rw [hc] at hr
 have hN : 0 < bonusN g := choose_pos (by omega)
 have b1 : choose g.of.toNat g.main.toNat ≤ 1646492110120 := choose_main (by omega) (by omega)
 have b2 : bonusN g ≤ 1581580 := choose_bonus (by omega) (by omega)
 have b3 := Nat.mul_le_mul b1 b2
 refine ⟨hN,b2,?_,Nat.mod_lt _ hN,b1,by omega,by omega,by omega,by omega,by omega,by omega,by omega,by omega,by omega⟩
 exact Nat.div_lt_of_lt_mul (by rw [Nat.mul_comm];exact hr)
theorem unrankV_in {r n k : Nat} (hn : n ≤ 80) (hk : k ≤ n) (hx : choose n k ≤ 9223372036854775807) (hr : r < choose n k) (x a b : Int) (e1 : x = r) (e2 : a = n) (e3 : b = k) : unrankV x a b = (unrankL n 1 r k,0) := by
 subst e1 e2 e3
 unfold unrankV
 rw [if_pos ⟨by omega,by omega,by omega,by omega⟩]
 simp only [Int.toNat_natCast]
 rw [if_pos hx,if_pos ⟨by omega,by omega⟩]
set_option maxHeartbeats 4000000 in
set_option maxRecDepth 100000 in
theorem munrank_choose (g : GameD) (av tv : Value) (ms : List AddonM) (r : Nat) (w : World) (h : GameR w av tv ms g) (he : gameE g = 0) (hk : g.kind ≠ 2) (hr : r < countG g) :
  Calls Tryz.prog 49 #[gameVal g av tv,.int .i64 (r : Int)] w (LineC (unrankG g r).1 (unrankG g r).2 0 w) := by
 have hc := hide (fun X (hX : GameR X av tv ms g) => mcount_any g av tv ms X hX)
 have hcp : countP g = ((countG g : Int),0) := if_pos he
 rw [hcp] at hc
 have hh := hide h
 obtain ⟨aa,ac,rfl,hal,ham⟩ := h.1.1.shape
 obtain ⟨ta,tc,rfl,htl,htm⟩ := h.2.2.shape
 clear h
 obtain ⟨n1,n2,f1,f2,f3,o1,o2,o3,o4,m1,m2,m3,m4,hrb⟩ := unrank_facts he hk hr
 have hug : unrankG g r = (unrankL g.of.toNat 1 (r / bonusN g) g.main.toNat,unrankL g.bonusOf.toNat 1 (r % bonusN g) g.bonus.toNat) := if_neg hk
 rw [hug]
 have cN := hide (count_any g.bonusOf g.bonus)
 rw [countV_fit o3 o4 m2 (Nat.le_trans n2 (by omega))] at cN
 obtain ⟨N,hN⟩ : ∃ N,N = bonusN g := ⟨_,rfl⟩
 rw [show choose g.bonusOf.toNat g.bonus.toNat = N from hN.symm] at cN
 rw [← hN] at n1 n2 f1 f2 ⊢
 obtain ⟨a,ha⟩ : ∃ a,a = r / N := ⟨_,rfl⟩
 obtain ⟨b,hb⟩ : ∃ b,b = r % N := ⟨_,rfl⟩
 rw [← ha] at f1 ⊢
 rw [← hb] at f2 ⊢
 have cU := hide (unrank_any (a : Int) g.of g.main)
 rw [unrankV_in m1 m3 (by omega) f1 _ _ _ rfl o1 o2] at cU
 have cV := hide (unrank_any (b : Int) g.bonusOf g.bonus)
 rw [unrankV_in m2 m4 (show choose g.bonusOf.toNat g.bonus.toNat ≤ 9223372036854775807 by rw [show choose g.bonusOf.toNat g.bonus.toNat = N from hN.symm];omega) (by rw [show choose g.bonusOf.toNat g.bonus.toNat = N from hN.symm];exact f2) _ _ _ rfl o3 o4] at cV
 have t1 : Int.tdiv (r : Int) (N : Int) = (a : Int) := by rw [Int.tdiv_eq_ediv_of_nonneg (by omega),ha];simp
 have t2 : Int.tmod (r : Int) (N : Int) = (b : Int) := by rw [Int.tmod_eq_emod_of_nonneg (by omega),hb];simp
 have t3 : (r : Int) / (N : Int) = (a : Int) := by rw [ha];simp
 have t4 : (r : Int) % (N : Int) = (b : Int) := by rw [hb];simp
 have ba : a ≤ 1646492110120 := by omega
 have bb : b ≤ 1581580 := by omega
 have q0 : ((N : Int) == 0) = false := by simp;omega
 have q1 : (N : Int) ≠ 0 := by omega
 have q2 : N ≠ 0 := by omega
 have q3 : (N == 0) = false := by simp;omega
 have t5 : IntKind.i64.wrap (a : Int) = (a : Int) := IntWalk.i64_in _ (by omega)
 have t6 : IntKind.i64.wrap (b : Int) = (b : Int) := IntWalk.i64_in _ (by omega)
 obtain ⟨c,hcc⟩ : ∃ c,c = countG g := ⟨_,rfl⟩
 rw [← hcc] at hc hr
 have hrc : (r : Int) < (c : Int) := by omega
 have hkb : (g.kind == 2) = false := by simpa using hk
 obtain ⟨L1,hL1⟩ : ∃ L,L = unrankL g.of.toNat 1 a g.main.toNat := ⟨_,rfl⟩
 obtain ⟨L2,hL2⟩ : ∃ L,L = unrankL g.bonusOf.toNat 1 b g.bonus.toNat := ⟨_,rfl⟩
 rw [← hL1] at cU ⊢
 rw [← hL2] at cV ⊢
 replace hk := hide hk
 clear hcc hcp he hN ha hb hL1 hL2 o1 o2 o3 o4 m1 m2 m3 m4 f1 f2 f3 hug
 unfold gameVal
 go_enter Tryz.func49,Tryz.ntmps49
 go_upto_region 1 with (fail)
 obtain ⟨W,hW⟩ : ∃ W,W = ((w.alloc (Obj.cells #[.string g.name,.int .i64 g.kind,.int .i64 g.price,.int .i64 g.main,.int .i64 g.of,.int .i64 g.bonus,.int .i64 g.bonusOf,.int .i64 g.extra,.int .i64 g.draws,.int .i64 g.system,.int .i64 g.days,.int .i64 g.at_,.int .i64 g.close,.int .i64 g.cancel,.int .i64 g.expiry,.int .i64 g.pool,.int .i64 g.reserve,.int .i64 g.round,.int .i64 g.cap,.int .i64 g.rolls,(.slice aa ms.length ac),(.slice ta g.tiers.length tc)] 25)).alloc (Obj.cells #[(.slice none 0 0),(.slice none 0 0)] 41)) := ⟨_,rfl⟩
 have bW : Below w.heap.size w W := by rw [hW];exact Bel.al (Bel.al (Below.refl _ _) _) _
 have r0 : GameAt W (w.heap.size) g ((.slice aa ms.length ac)) ((.slice ta g.tiers.length tc)) := by rw [hW];exact Row.alloc (Row.new _ _ _) _
 have r1 : LineAt W (w.heap.size + 1) ((.slice none 0 0)) ((.slice none 0 0)) := by rw [hW];exact Row.at2 _ _ _ _
 have sW : w.heap.size + 1 < W.heap.size := by rw [hW];simp
 rw [← hW]
 clear hW
 go_wp2_with (first | (refine wpList_load_row rfl 25 _ rfl _ rfl _ _ _ _ r0 Tryz.underlying25 rfl (by kernel_rfl) ?_) | fail)
 refine (hc.out _ (hh.out.below bW)).mono ?_
 rintro e w1 ⟨rfl,hb1⟩
 have B1 := Bel.to bW hb1
 have r0 := r0.keep hb1
 have r1 := r1.keep hb1
 have d1 := r0.kind
 have d3 := r0.main
 have d4 := r0.of
 have d5 := r0.bonus
 have d6 := r0.bonusOf
 clear hb1 hh hc bW
 go_wp2_with fail
 refine (cN.out _).mono ?_
 rintro e w2 ⟨rfl,hb2⟩
 have B2 := Bel.to B1 hb2
 have r1 := r1.keep hb2
 have d3 := Bel.cellOf hb2 d3
 have d4 := Bel.cellOf hb2 d4
 have d5 := Bel.cellOf hb2 d5
 have d6 := Bel.cellOf hb2 d6
 clear hb2 B1 d1 r0
 go_wp2
 go_region_held3 (fun X => X.cell? ⟨w.heap.size,4,none⟩ = some (.int .i64 g.of) ∧ X.cell? ⟨w.heap.size,3,none⟩ = some (.int .i64 g.main)) (go_keep) (first
  | (go_at_call 86;(with_reducible refine (cU.out _).mono ?_);rintro e w3 ⟨u1,rfl,hu1,hb3⟩;obtain ⟨s1,k1,p1,rfl⟩ := Rd.shape hu1;have d3 : w3.cell? ⟨w.heap.size,3,none⟩ = some (.int .i64 g.main) := Bel.cellOf hb3 d3;have d4 : w3.cell? ⟨w.heap.size,4,none⟩ = some (.int .i64 g.of) := Bel.cellOf hb3 d4))
 have B3 := Bel.to B2 (Bel.to (Below.drew (Below.refl _ _)) hb3)
 have d5 : w3.cell? ⟨w.heap.size,5,none⟩ = some (.int .i64 g.bonus) := Bel.cellOf hb3 d5
 have d6 : w3.cell? ⟨w.heap.size,6,none⟩ = some (.int .i64 g.bonusOf) := Bel.cellOf hb3 d6
 have r1 : LineAt w3 (w.heap.size + 1) (.slice none 0 0) (.slice none 0 0) := (show LineAt w2.drew _ _ _ from r1).keep hb3
 clear hb3 B2
 go_wp2
 go_region_held3 (fun X => X.cell? ⟨w.heap.size,6,none⟩ = some (.int .i64 g.bonusOf) ∧ X.cell? ⟨w.heap.size,5,none⟩ = some (.int .i64 g.bonus)) (go_keep) (first
  | (go_at_call 86;(with_reducible refine (cV.out _).mono ?_);rintro e w4 ⟨u2,rfl,hu2,hb4⟩;obtain ⟨s2,k2,p2,rfl⟩ := Rd.shape hu2;have d5 : w4.cell? ⟨w.heap.size,5,none⟩ = some (.int .i64 g.bonus) := Bel.cellOf hb4 d5;have d6 : w4.cell? ⟨w.heap.size,6,none⟩ = some (.int .i64 g.bonusOf) := Bel.cellOf hb4 d6))
 have B4 := Bel.to B3 (Bel.to (Below.drew (Below.refl _ _)) hb4)
 have r1 : LineAt w4 (w.heap.size + 1) (.slice none 0 0) (.slice none 0 0) := (show LineAt w3.drew _ _ _ from r1).keep hb4
 have hu1 := Rd.below (Rd.drew hu1) hb4
 clear hb4 B3 d3 d4 d5 d6
 have x0 := LineAt.main r1
 have x1 := LineAt.bonus r1
 have x2 := Row.frozen r1 0
 have x3 := Row.frozen r1 1
 have rL : LineAt ((w4.setCell ⟨w.heap.size + 1,0,none⟩ (.slice s1 k1 p1)).setCell ⟨w.heap.size + 1,1,none⟩ (.slice s2 k2 p2)) (w.heap.size + 1) (.slice s1 k1 p1) (.slice s2 k2 p2) := LineAt.store r1 _ _
 have y0 := hide rL.main
 have y1 := hide rL.bonus
 have B9 := Bel.st (Bel.st B4 (p := ⟨w.heap.size + 1,0,none⟩) (by simp) (.slice s1 k1 p1)) (p := ⟨w.heap.size + 1,1,none⟩) (by simp) (.slice s2 k2 p2)
 have hv1 := (hu1.setNe x0 (fun _ h => by cases h) (.slice s1 k1 p1)).setNe (p := ⟨w.heap.size + 1,1,none⟩) (c := .slice none 0 0) (by go_simp) (fun _ h => by cases h) (.slice s2 k2 p2)
 have hv2 := (hu2.setNe x0 (fun _ h => by cases h) (.slice s1 k1 p1)).setNe (p := ⟨w.heap.size + 1,1,none⟩) (c := .slice none 0 0) (by go_simp) (fun _ h => by cases h) (.slice s2 k2 p2)
 clear rL
 go_wp2
 exact bodyPost_ret (v := .tuple #[.agg #[.slice s1 k1 p1,.slice s2 k2 p2],.int .i64 0]) (by simp [results,Tryz.results49,go_sem,y0.out,y1.out]) rfl ⟨_,_,rfl,⟨hv1,hv2⟩,B9⟩
theorem munrank_any (g : GameD) (av tv : Value) (ms : List AddonM) (r : Int) (w : World) (h : GameR w av tv ms g) :
  Calls Tryz.prog 49 #[gameVal g av tv,.int .i64 r] w (LineC (unrankP g r).1.1 (unrankP g r).1.2 (unrankP g r).2 w) := by
 unfold unrankP
 by_cases he : gameE g = 0
 ·rw [if_neg (by simpa using he)]
  by_cases hr : r < 0 ∨ (countG g : Int) ≤ r
  ·rw [if_pos hr]
   exact munrank_range g av tv ms r w h he hr
  ·rw [if_neg hr]
   obtain ⟨R,rfl⟩ := Int.eq_ofNat_of_zero_le (show 0 ≤ r by omega)
   rw [Int.toNat_natCast]
   by_cases hk : g.kind = 2
   ·have := munrank_digits g av tv ms R w h he hk (by omega)
    have e : unrankG g R = (digitsL g.of.toNat g.main.toNat R,[]) := if_pos hk
    rw [e];exact this
   ·exact munrank_choose g av tv ms R w h he hk (by omega)
 ·rw [if_pos (by simpa using he)]
  exact munrank_bad g av tv ms r w h he
end Go.Proofs.YtmocomkobbiflaaGreat
end
section
set_option linter.unusedVariables false
set_option linter.unusedSimpArgs false
namespace Go.Proofs.YtmocomkobbiflaaGreat
theorem mat_digits {g : GameD} (h : matB g = true) (hk : g.kind = 2) : g.bonus = 0 := by
 unfold matB at h
 simp only [Bool.and_eq_true] at h
 obtain ⟨⟨⟨⟨⟨⟨⟨h1,h2⟩,h3⟩,h4⟩,h5⟩,h6⟩,h7⟩,h8⟩ := h
 rw [if_pos hk] at h4
 have := inB_iff.1 h4
 omega
theorem unrank_choose_eq {g : GameD} {r : Nat} (hk : g.kind ≠ 2) : unrankG g r = (unrankL g.of.toNat 1 (r / bonusN g) g.main.toNat,unrankL g.bonusOf.toNat 1 (r % bonusN g) g.bonus.toNat) := if_neg hk
theorem unrank_digits_eq {g : GameD} {r : Nat} (hk : g.kind = 2) : unrankG g r = (digitsL g.of.toNat g.main.toNat r,[]) := if_pos hk
theorem unrank_line {g : GameD} {r : Nat} (he : gameE g = 0) (hr : r < countG g) : lineE g (unrankG g r).1 (unrankG g r).2 = 0 := by
 have hf := mat_facts (game_mat he)
 rw [lineE_ok]
 by_cases hk : g.kind = 2
 ·have hb := mat_digits (game_mat he) hk
  rw [unrank_digits_eq hk]
  refine ⟨he,?_,?_,?_,?_,fun h => absurd hk h,List.nodup_nil⟩
  ·rw [digitsL_len];omega
  ·rw [hb];rfl
  ·intro x hx
   have := digitsL_mem (q := g.of.toNat) (by omega) x hx
   unfold lowG highG
   rw [if_pos hk,if_pos hk]
   omega
  ·intro x hx;cases hx
 ·obtain ⟨n1,n2,f1,f2,f3,o1,o2,o3,o4,m1,m2,m3,m4,hrb⟩ := unrank_facts he hk hr
  rw [unrank_choose_eq hk]
  have c1 := check_unrankL (n := g.of.toNat) (m := g.of.toNat) (w := 1) (by omega) (by omega) f1 0 (by omega)
  have c2 := check_unrankL (n := g.bonusOf.toNat) (m := g.bonusOf.toNat) (w := 1) (r := r % bonusN g) (j := g.bonus.toNat) (by omega) (by omega) f2 0 (by omega)
  obtain ⟨s1,s2⟩ := checkL_pair c1
  obtain ⟨s3,s4⟩ := checkL_pair c2
  refine ⟨he,?_,?_,?_,?_,fun _ => lt_nodup s1,lt_nodup s3⟩
  ·rw [unrankL_len f1];omega
  ·rw [unrankL_len (show r % bonusN g < choose g.bonusOf.toNat g.bonus.toNat from f2)];omega
  ·intro x hx
   have := s2 x hx
   unfold lowG highG
   rw [if_neg hk,if_neg hk]
   omega
  ·intro x hx
   have := s4 x hx
   omega
end Go.Proofs.YtmocomkobbiflaaGreat
end
section
open Go.RowKit
set_option linter.unusedVariables false
set_option linter.unusedSimpArgs false
namespace Go.Proofs.YtmocomkobbiflaaGreat
set_option maxHeartbeats 2000000 in
set_option maxRecDepth 100000 in
theorem runrank_ok (r n k : Nat) (w : World) (hn : n ≤ 80) (hk : k ≤ n) (hct : choose n k ≤ 9223372036854775807) (hr : r < choose n k) :
  Calls Tryz.prog 95 #[.int .i64 (r : Int),.int .i64 (n : Int),.int .i64 (k : Int)] w (ListC (unrankL n 1 r k) 0 w) := by
 have hci0 := hide (countV_ok n k hn hct n k rfl rfl)
 have hrI : (r : Int) < ((choose n k : Nat) : Int) := by omega
 have hd0 : decide ((r : Int) < 0) = false := decide_eq_false (by omega)
 have hd1 : decide (choose n k ≤ r) = false := decide_eq_false (by omega)
 have hd2 : decide (((choose n k : Nat) : Int) ≤ (r : Int)) = false := decide_eq_false (by omega)
 go_enter Tryz.func95,Tryz.ntmps95
 go_wp2_with fail
 refine (in_yes _ _ _ (by omega) (by omega)).mono ?_
 rintro e w' ⟨rfl,rfl⟩
 go_wp2_with fail
 refine (in_yes _ _ _ (by omega) (by omega)).mono ?_
 rintro e w' ⟨rfl,rfl⟩
 go_wp2_with fail
 refine (rcount_any _ _ _).mono ?_
 rintro e w' ⟨rfl,rfl⟩
 rw [hci0.out]
 go_wp2
 have hown : Own I64 w w.heap.size 3 (.slice none 0 0) [] := Own.nil _ _ _
 have hstart := hide (show ([] : List Int) ++ unrankL n 1 r k = unrankL n 1 r k from rfl)
 clear hrI
 go_loopw [0,10,11] (fun rr vv ww wr => ∃ (A : List Int) (ao : Option Addr) (cap rv wv : Nat),vv = .slice ao A.length cap ∧ ww = .int .i64 wv ∧ rr = .int .i64 rv ∧ 1 ≤ wv ∧ wv ≤ n + 1 ∧ A.length ≤ k ∧ Own I64 wr w.heap.size 3 (.slice ao A.length cap) A ∧
   Below w.heap.size w wr ∧ Hid (A ++ unrankL (n + 1 - wv) wv rv (k - A.length) = unrankL n 1 r k) ∧ rv < choose (n + 1 - wv) (k - A.length) ∧ choose (n + 1 - wv) (k - A.length) ≤ choose n k) (fun _ _ ww _ => n + 1 - (intOf ww).toNat)
 case atStart =>
  refine ⟨[],none,0,r,1,rfl,rfl,rfl,Nat.le_refl _,by omega,Nat.zero_le _,hown,Below.refl _ _,?_,?_,?_⟩
  ·simpa using hstart
  ·simpa using hr
  ·simp
 case round =>
  obtain ⟨A,ao,cap,rv,wv,rfl,rfl,rfl,hw1,hw2,hAk,hown,hbel,hE,hlt,hle⟩ := hrel
  by_cases hAl : A.length < k
  ·obtain ⟨j,hj⟩ : ∃ j,k - A.length = j + 1 := ⟨k - A.length - 1,by omega⟩
   have hwn : wv ≤ n := by
    rcases Nat.lt_or_ge n wv with h | h
    ·rw [show n + 1 - wv = 0 by omega,hj,choose_gt (by omega)] at hlt;omega
    ·exact h
   obtain ⟨m,hm⟩ : ∃ m,n + 1 - wv = m + 1 := ⟨n - wv,by omega⟩
   have hE2 := hE.out
   rw [hm,hj] at hlt hle hE2
   obtain ⟨s1,s2⟩ := choose_mono_step m j
   have hsum := choose_succ m j
   rw [unrankL,if_neg (by omega),Nat.add_sub_cancel] at hE2
   obtain ⟨C,hC⟩ : ∃ C,C = choose m j := ⟨_,rfl⟩
   rw [← hC] at hE2 s1 hsum
   have hC5 : C ≤ 9223372036854775807 := by omega
   have hci := countV_ok m j (by omega) (by rw [← hC];exact hC5) ((n : Int) - wv) ((k : Int) - 1 - A.length) (by omega) (by omega)
   rw [← hC] at hci
   replace hci := hide hci
   by_cases hrc : rv < C
   ·rw [if_pos hrc] at hE2
    replace hE2 := hide hE2
    have hrI : (rv : Int) < (C : Int) := by omega
    have f1 : rv < choose m j := by omega
    have f2 : choose m j ≤ choose n k := by omega
    replace hC := hide hC
    replace hm := hide hm
    replace hj := hide hj
    clear hsum s1 s2 hlt hle hE
    go_wp2_with fail
    refine (rcount_any _ _ _).mono ?_
    rintro e w3 ⟨rfl,rfl⟩
    rw [hci.out]
    go_wp2_with (with_reducible refine wpList_append_rd _ rfl _ _ 27 rfl (V := I64) (fun _ => rfl) w.heap.size 3 (.int .i64 0) 8 Tryz.underlying27 infoInt rfl _ A rfl (hown.alloc _) _ [(wv : Int)] rfl ?_ ?_ ?_ ?_ ?_)
    case refine_1 => exact Rd.new _ rfl rfl (Nat.le_refl _) (by decide) rfl
    case refine_2 => simp;omega
    case refine_3 => simp;omega
    case refine_4 => have := hbel.size;simp;omega
    intro v4 w4 hown4 hg4 hv4
    have hsz2 := hbel.size
    have hb4 : Below w.heap.size w w4 := (Bel.al hbel _).grown hg4 (by simp;omega) (fun g hg => (hown.lt g hg).1)
    obtain ⟨ao4,cap4,rfl⟩ := hown4.shape
    go_wp2
    go_roundw
    case rel =>
     refine ⟨A ++ [(wv : Int)],ao4,cap4,rv,wv + 1,rfl,by go_num,rfl,by omega,by omega,by simp;omega,hown4,hb4,?_,?_,?_⟩
     ·show _ = _
      have hj' := hj.out
      have hm' := hm.out
      rw [List.length_append,List.length_singleton,show n + 1 - (wv + 1) = m by omega,show k - (A.length + 1) = j by omega,List.append_assoc]
      exact hE2.out
     ·have hj' := hj.out
      have hm' := hm.out
      rw [List.length_append,List.length_singleton,show n + 1 - (wv + 1) = m by omega,show k - (A.length + 1) = j by omega]
      exact f1
     ·have hj' := hj.out
      have hm' := hm.out
      rw [List.length_append,List.length_singleton,show n + 1 - (wv + 1) = m by omega,show k - (A.length + 1) = j by omega]
      exact f2
    case measure => simp [intOf];omega
   ·rw [if_neg hrc] at hE2
    replace hE2 := hide hE2
    have hrI : ¬ (rv : Int) < (C : Int) := by omega
    have f1 : rv - C < choose m (j + 1) := by omega
    have f2 : choose m (j + 1) ≤ choose n k := by omega
    have hrB : rv ≤ 9223372036854775807 := by omega
    replace hC := hide hC
    replace hm := hide hm
    replace hj := hide hj
    clear hsum s1 s2 hlt hle hE
    go_wp2_with fail
    refine (rcount_any _ _ _).mono ?_
    rintro e w3 ⟨rfl,rfl⟩
    rw [hci.out]
    have hCr : C ≤ rv := by omega
    go_wp2
    go_roundw
    case rel =>
     have hj' := hj.out
     have hm' := hm.out
     refine ⟨A,ao,cap,rv - C,wv + 1,rfl,by go_num,by go_num,by omega,by omega,by omega,hown,hbel,?_,?_,?_⟩
     ·show _ = _
      rw [show n + 1 - (wv + 1) = m by omega,hj']
      exact hE2.out
     ·rw [show n + 1 - (wv + 1) = m by omega,hj']
      exact f1
     ·rw [show n + 1 - (wv + 1) = m by omega,hj']
      exact f2
    case measure => simp [intOf];omega
  ·have hkA : k - A.length = 0 := by omega
   have hE2 := hE.out
   rw [hkA,unrankL_zero,List.append_nil] at hE2
   replace hE2 := hide hE2
   clear hE hkA hlt hle
   by_cases hwn : wv ≤ n
   all_goals
    go_wp2
    go_ret2
    exact ⟨_,rfl,by rw [← hE2.out];exact hown.rd,hbel⟩
set_option maxHeartbeats 1000000 in
theorem runrank_range (r n k : Int) (w : World) (h : ¬ (0 ≤ n ∧ n ≤ 80 ∧ 0 ≤ k ∧ k ≤ n)) :
  Calls Tryz.prog 95 #[.int .i64 r,.int .i64 n,.int .i64 k] w (ListC [] 2 w) := by
 by_cases hn : 0 ≤ n ∧ n ≤ 80
 ·have hk : ¬ (0 ≤ k ∧ k ≤ n) := by omega
  go_enter Tryz.func95,Tryz.ntmps95
  go_wp2_with fail
  refine (in_yes _ _ _ hn.1 hn.2).mono ?_
  rintro e w' ⟨rfl,rfl⟩
  go_wp2_with fail
  refine (in_no _ _ _ hk).mono ?_
  rintro e w' ⟨rfl,rfl⟩
  clear hn hk h
  go_wp2
  go_ret2
  exact ⟨_,rfl,Rd.nil,Below.refl _ _⟩
 ·go_enter Tryz.func95,Tryz.ntmps95
  go_wp2_with fail
  refine (in_no _ _ _ hn).mono ?_
  rintro e w' ⟨rfl,rfl⟩
  clear hn h
  go_wp2
  go_ret2
  exact ⟨_,rfl,Rd.nil,Below.refl _ _⟩
set_option maxHeartbeats 1000000 in
theorem runrank_over (r : Int) (n k : Nat) (w : World) (hn : n ≤ 80) (hk : k ≤ n) (hct : 9223372036854775807 < choose n k) :
  Calls Tryz.prog 95 #[.int .i64 r,.int .i64 (n : Int),.int .i64 (k : Int)] w (ListC [] 9 w) := by
 have hcv : countV n k = (0,9) := by
  unfold countV
  rw [chooseI_nat n k n k rfl rfl,if_pos (by omega),if_neg (by omega)]
 replace hcv := hide hcv
 go_enter Tryz.func95,Tryz.ntmps95
 go_wp2_with fail
 refine (in_yes _ _ _ (by omega) (by omega)).mono ?_
 rintro e w' ⟨rfl,rfl⟩
 go_wp2_with fail
 refine (in_yes _ _ _ (by omega) (by omega)).mono ?_
 rintro e w' ⟨rfl,rfl⟩
 go_wp2_with fail
 refine (rcount_any _ _ _).mono ?_
 rintro e w' ⟨rfl,rfl⟩
 rw [hcv.out]
 clear hct
 go_wp2
 go_ret2
 exact ⟨_,rfl,Rd.nil,Below.refl _ _⟩
set_option maxHeartbeats 1000000 in
theorem runrank_rank (r : Int) (n k : Nat) (w : World) (hn : n ≤ 80) (hk : k ≤ n) (hct : choose n k ≤ 9223372036854775807) (hr : r < 0 ∨ ((choose n k : Nat) : Int) ≤ r) :
  Calls Tryz.prog 95 #[.int .i64 r,.int .i64 (n : Int),.int .i64 (k : Int)] w (ListC [] 2 w) := by
 have hcv := hide (countV_ok n k hn hct n k rfl rfl)
 by_cases h0 : r < 0
 all_goals
  first | (have hrI : ((choose n k : Nat) : Int) ≤ r := by omega) | skip
  clear hr
  go_enter Tryz.func95,Tryz.ntmps95
  go_wp2_with fail
  refine (in_yes _ _ _ (by omega) (by omega)).mono ?_
  rintro e w' ⟨rfl,rfl⟩
  go_wp2_with fail
  refine (in_yes _ _ _ (by omega) (by omega)).mono ?_
  rintro e w' ⟨rfl,rfl⟩
  go_wp2_with fail
  refine (rcount_any _ _ _).mono ?_
  rintro e w' ⟨rfl,rfl⟩
  rw [hcv.out]
  go_wp2
  go_ret2
  exact ⟨_,rfl,Rd.nil,Below.refl _ _⟩
theorem runrank_any (r n k : Int) (w : World) : Calls Tryz.prog 95 #[.int .i64 r,.int .i64 n,.int .i64 k] w (ListC (unrankV r n k).1 (unrankV r n k).2 w) := by
 unfold unrankV
 by_cases h : 0 ≤ n ∧ n ≤ 80 ∧ 0 ≤ k ∧ k ≤ n
 ·rw [if_pos h]
  obtain ⟨n,rfl⟩ := Int.eq_ofNat_of_zero_le h.1
  obtain ⟨k,rfl⟩ := Int.eq_ofNat_of_zero_le h.2.2.1
  rw [Int.toNat_natCast,Int.toNat_natCast]
  by_cases hx : choose n k ≤ 9223372036854775807
  ·rw [if_pos hx]
   by_cases hr : 0 ≤ r ∧ r < choose n k
   ·rw [if_pos hr]
    obtain ⟨r,rfl⟩ := Int.eq_ofNat_of_zero_le hr.1
    exact runrank_ok r n k w (by omega) (by omega) hx (by omega)
   ·rw [if_neg hr]
    exact runrank_rank r n k w (by omega) (by omega) hx (by omega)
  ·rw [if_neg hx]
   exact runrank_over r n k w (by omega) (by omega) (by omega)
 ·rw [if_neg h]
  exact runrank_range r n k w h
set_option maxHeartbeats 2000000 in
set_option maxRecDepth 100000 in
theorem qunrank_bad (g : GameD) (av tv : Value) (ms : List AddonM) (r : Int) (w : World) (h : GameR w av tv ms g) (he : gameE g ≠ 0) :
  Calls Tryz.prog 56 #[gameVal g av tv,.int .i64 r] w (LineC [] [] (gameE g) w) := by
 have hc := hide (fun X (hX : GameR X av tv ms g) => rcount13_any g av tv ms X hX)
 have hcp : countP g = (0,gameE g) := if_neg he
 rw [hcp] at hc
 have hh := hide h
 obtain ⟨aa,ac,rfl,hal,ham⟩ := h.1.1.shape
 obtain ⟨ta,tc,rfl,htl,htm⟩ := h.2.2.shape
 clear h
 obtain ⟨c,hcc⟩ : ∃ c,c = gameE g := ⟨_,rfl⟩
 rw [← hcc] at hc he ⊢
 clear hcc hcp
 have hcb : (c != 0) = true := by simpa using he
 replace he := hide he
 unfold gameVal
 go_enter Tryz.func56,Tryz.ntmps56
 go_upto_region 1 with (fail)
 obtain ⟨W,hW⟩ : ∃ W,W = ((w.alloc (Obj.cells #[.string g.name,.int .i64 g.kind,.int .i64 g.price,.int .i64 g.main,.int .i64 g.of,.int .i64 g.bonus,.int .i64 g.bonusOf,.int .i64 g.extra,.int .i64 g.draws,.int .i64 g.system,.int .i64 g.days,.int .i64 g.at_,.int .i64 g.close,.int .i64 g.cancel,.int .i64 g.expiry,.int .i64 g.pool,.int .i64 g.reserve,.int .i64 g.round,.int .i64 g.cap,.int .i64 g.rolls,(.slice aa ms.length ac),(.slice ta g.tiers.length tc)] 25)).alloc (Obj.cells #[(.slice none 0 0),(.slice none 0 0)] 41)) := ⟨_,rfl⟩
 have bW : Below w.heap.size w W := by rw [hW];exact Bel.al (Bel.al (Below.refl _ _) _) _
 have r0 : GameAt W (w.heap.size) g ((.slice aa ms.length ac)) ((.slice ta g.tiers.length tc)) := by rw [hW];exact Row.alloc (Row.new _ _ _) _
 have r1 : LineAt W (w.heap.size + 1) ((.slice none 0 0)) ((.slice none 0 0)) := by rw [hW];exact Row.at2 _ _ _ _
 have sW : w.heap.size + 1 < W.heap.size := by rw [hW];simp
 rw [← hW]
 clear hW
 go_wp2_with (first | (refine wpList_load_row rfl 25 _ rfl _ rfl _ _ _ _ r0 Tryz.underlying25 rfl (by kernel_rfl) ?_) | fail)
 refine (hc.out _ (hh.out.below bW)).mono ?_
 rintro e w1 ⟨rfl,hb1⟩
 have B1 := Bel.to bW hb1
 have r0 := r0.keep hb1
 have r1 := r1.keep hb1
 have z1 : w.heap.size + 1 < w1.heap.size := by have := hb1.size;omega
 clear hb1
 have x0 := LineAt.main r1
 have x1 := LineAt.bonus r1
 have x2 := Row.frozen r1 0
 have x3 := Row.frozen r1 1
 have rL : LineAt ((w1.setCell ⟨w.heap.size + 1,0,none⟩ (.slice none 0 0)).setCell ⟨w.heap.size + 1,1,none⟩ (.slice none 0 0)) (w.heap.size + 1) (.slice none 0 0) (.slice none 0 0) := LineAt.store r1 _ _
 have y0 := hide rL.main
 have y1 := hide rL.bonus
 have B9 := Bel.st (Bel.st B1 (p := ⟨w.heap.size + 1,0,none⟩) (by simp) (.slice none 0 0)) (p := ⟨w.heap.size + 1,1,none⟩) (by simp) (.slice none 0 0)
 clear rL
 go_wp2
 exact bodyPost_ret (v := .tuple #[.agg #[.slice none 0 0,.slice none 0 0],.int .i64 c]) (by simp [results,Tryz.results56,go_sem,y0.out,y1.out]) rfl ⟨_,_,rfl,⟨Rd.nil,Rd.nil⟩,B9⟩
set_option maxHeartbeats 2000000 in
set_option maxRecDepth 100000 in
theorem qunrank_range (g : GameD) (av tv : Value) (ms : List AddonM) (r : Int) (w : World) (h : GameR w av tv ms g) (he : gameE g = 0) (hr : r < 0 ∨ (countG g : Int) ≤ r) :
  Calls Tryz.prog 56 #[gameVal g av tv,.int .i64 r] w (LineC [] [] 2 w) := by
 have hc := hide (fun X (hX : GameR X av tv ms g) => rcount13_any g av tv ms X hX)
 have hcp : countP g = ((countG g : Int),0) := if_pos he
 rw [hcp] at hc
 have hh := hide h
 obtain ⟨aa,ac,rfl,hal,ham⟩ := h.1.1.shape
 obtain ⟨ta,tc,rfl,htl,htm⟩ := h.2.2.shape
 clear h
 obtain ⟨c,hcc⟩ : ∃ c,c = countG g := ⟨_,rfl⟩
 rw [← hcc] at hc hr
 clear hcc hcp he
 have hcase : r < 0 ∨ (¬ r < 0 ∧ (c : Int) ≤ r) := by omega
 clear hr
 rcases hcase with hr | ⟨hr,hr2⟩
 all_goals
  unfold gameVal
  go_enter Tryz.func56,Tryz.ntmps56
  go_upto_region 1 with (fail)
  obtain ⟨W,hW⟩ : ∃ W,W = ((w.alloc (Obj.cells #[.string g.name,.int .i64 g.kind,.int .i64 g.price,.int .i64 g.main,.int .i64 g.of,.int .i64 g.bonus,.int .i64 g.bonusOf,.int .i64 g.extra,.int .i64 g.draws,.int .i64 g.system,.int .i64 g.days,.int .i64 g.at_,.int .i64 g.close,.int .i64 g.cancel,.int .i64 g.expiry,.int .i64 g.pool,.int .i64 g.reserve,.int .i64 g.round,.int .i64 g.cap,.int .i64 g.rolls,(.slice aa ms.length ac),(.slice ta g.tiers.length tc)] 25)).alloc (Obj.cells #[(.slice none 0 0),(.slice none 0 0)] 41)) := ⟨_,rfl⟩
  have bW : Below w.heap.size w W := by rw [hW];exact Bel.al (Bel.al (Below.refl _ _) _) _
  have r0 : GameAt W (w.heap.size) g ((.slice aa ms.length ac)) ((.slice ta g.tiers.length tc)) := by rw [hW];exact Row.alloc (Row.new _ _ _) _
  have r1 : LineAt W (w.heap.size + 1) ((.slice none 0 0)) ((.slice none 0 0)) := by rw [hW];exact Row.at2 _ _ _ _
  have sW : w.heap.size + 1 < W.heap.size := by rw [hW];simp
  rw [← hW]
  clear hW
  go_wp2_with (first | (refine wpList_load_row rfl 25 _ rfl _ rfl _ _ _ _ r0 Tryz.underlying25 rfl (by kernel_rfl) ?_) | fail)
  refine (hc.out _ (hh.out.below bW)).mono ?_
  rintro e w1 ⟨rfl,hb1⟩
  have B1 := Bel.to bW hb1
  have r0 := r0.keep hb1
  have r1 := r1.keep hb1
  have z1 : w.heap.size + 1 < w1.heap.size := by have := hb1.size;omega
  clear hb1
  have x0 := LineAt.main r1
  have x1 := LineAt.bonus r1
  have x2 := Row.frozen r1 0
  have x3 := Row.frozen r1 1
  have rL : LineAt ((w1.setCell ⟨w.heap.size + 1,0,none⟩ (.slice none 0 0)).setCell ⟨w.heap.size + 1,1,none⟩ (.slice none 0 0)) (w.heap.size + 1) (.slice none 0 0) (.slice none 0 0) := LineAt.store r1 _ _
  have y0 := hide rL.main
  have y1 := hide rL.bonus
  have B9 := Bel.st (Bel.st B1 (p := ⟨w.heap.size + 1,0,none⟩) (by simp) (.slice none 0 0)) (p := ⟨w.heap.size + 1,1,none⟩) (by simp) (.slice none 0 0)
  clear rL
  go_wp2
  exact bodyPost_ret (v := .tuple #[.agg #[.slice none 0 0,.slice none 0 0],.int .i64 2]) (by simp [results,Tryz.results56,go_sem,y0.out,y1.out]) rfl ⟨_,_,rfl,⟨Rd.nil,Rd.nil⟩,B9⟩
set_option maxHeartbeats 4000000 in
set_option maxRecDepth 100000 in
theorem qunrank_digits (g : GameD) (av tv : Value) (ms : List AddonM) (r : Nat) (w : World) (h : GameR w av tv ms g) (he : gameE g = 0) (hk : g.kind = 2) (hr : r < countG g) :
  Calls Tryz.prog 56 #[gameVal g av tv,.int .i64 (r : Int)] w (LineC (digitsL g.of.toNat g.main.toNat r) [] 0 w) := by
 have hc := hide (fun X (hX : GameR X av tv ms g) => rcount13_any g av tv ms X hX)
 have hcp : countP g = ((countG g : Int),0) := if_pos he
 rw [hcp] at hc
 have hh := hide h
 obtain ⟨aa,ac,rfl,hal,ham⟩ := h.1.1.shape
 obtain ⟨ta,tc,rfl,htl,htm⟩ := h.2.2.shape
 clear h
 have hf := mat_facts (game_mat he)
 obtain ⟨f1,f2,f3,f4,f5,f6,f7,f8,f9,f10,f11⟩ := hf
 obtain ⟨e1,e2⟩ := f7 hk
 have hcg : countG g ≤ 10000000000 := by
  have : countG g = g.of.toNat ^ g.main.toNat := if_pos hk
  rw [this]
  exact pow_ten (by omega) (by omega)
 obtain ⟨c,hcc⟩ : ∃ c,c = countG g := ⟨_,rfl⟩
 rw [← hcc] at hc hr hcg
 have hkb : (g.kind == 2) = true := by simpa using hk
 obtain ⟨n,hn⟩ : ∃ n : Nat,g.main = n := ⟨g.main.toNat,by omega⟩
 obtain ⟨q,hq⟩ : ∃ n : Nat,g.of = n := ⟨g.of.toNat,by omega⟩
 rw [hn,hq,Int.toNat_natCast,Int.toNat_natCast]
 have hq2 : 2 ≤ q := by omega
 have hq10 : q ≤ 10 := by omega
 have hn1 : 1 ≤ n := by omega
 have hn10 : n ≤ 10 := by omega
 have hrc : (r : Int) < (c : Int) := by omega
 replace hn := hide hn
 replace hq := hide hq
 replace hk := hide hk
 clear hcc hcp he f1 f2 f3 f4 f5 f6 f7 f8 f9 f10 f11 e1 e2
 unfold gameVal
 go_enter Tryz.func56,Tryz.ntmps56
 go_upto_region 1 with (fail)
 obtain ⟨W,hW⟩ : ∃ W,W = ((w.alloc (Obj.cells #[.string g.name,.int .i64 g.kind,.int .i64 g.price,.int .i64 g.main,.int .i64 g.of,.int .i64 g.bonus,.int .i64 g.bonusOf,.int .i64 g.extra,.int .i64 g.draws,.int .i64 g.system,.int .i64 g.days,.int .i64 g.at_,.int .i64 g.close,.int .i64 g.cancel,.int .i64 g.expiry,.int .i64 g.pool,.int .i64 g.reserve,.int .i64 g.round,.int .i64 g.cap,.int .i64 g.rolls,(.slice aa ms.length ac),(.slice ta g.tiers.length tc)] 25)).alloc (Obj.cells #[(.slice none 0 0),(.slice none 0 0)] 41)) := ⟨_,rfl⟩
 have bW : Below w.heap.size w W := by rw [hW];exact Bel.al (Bel.al (Below.refl _ _) _) _
 have r0 : GameAt W (w.heap.size) g ((.slice aa ms.length ac)) ((.slice ta g.tiers.length tc)) := by rw [hW];exact Row.alloc (Row.new _ _ _) _
 have r1 : LineAt W (w.heap.size + 1) ((.slice none 0 0)) ((.slice none 0 0)) := by rw [hW];exact Row.at2 _ _ _ _
 have sW : w.heap.size + 1 < W.heap.size := by rw [hW];simp
 rw [← hW]
 clear hW
 go_wp2_with (first | (refine wpList_load_row rfl 25 _ rfl _ rfl _ _ _ _ r0 Tryz.underlying25 rfl (by kernel_rfl) ?_) | fail)
 refine (hc.out _ (hh.out.below bW)).mono ?_
 rintro e w1 ⟨rfl,hb1⟩
 have B1 := Bel.to bW hb1
 have r0 := r0.keep hb1
 have r1 := r1.keep hb1
 have z1 : w.heap.size + 1 < w1.heap.size := by have := hb1.size;omega
 clear hb1
 have d1 := r0.kind
 have d3 := r0.main
 have d4 := r0.of
 rw [hn.out] at d3
 rw [hq.out] at d4
 clear r0 bW hh hc
 go_wp2_with (with_reducible refine wpList_make_row _ rfl _ _ 27 rfl 3 (.int .i64 0) 8 Tryz.underlying27 infoInt rfl .i64 .i64 _ _ n n rfl rfl rfl rfl (Nat.le_refl _) (by omega) (by omega) ?_;intro w2 hrow hb2 hz2;have d4 := Bel.cellOf hb2 d4;have d3 := Bel.cellOf hb2 d3)
 have r1 := r1.keep hb2
 have B2 := Bel.to B1 hb2
 have hrow0 : Row w2 w1.heap.size 3 ((List.replicate n (0 : Int) ++ []).map I64) := by
  rw [List.append_nil,List.map_replicate];exact hrow
 have z2 : w1.heap.size < w2.heap.size := by omega
 have hG0 := Gb.refl w2 (some w1.heap.size)
 obtain ⟨gb,hgb⟩ : ∃ gb,gb = w1.heap.size := ⟨_,rfl⟩
 rw [← hgb] at hrow0 hG0 z1 z2 ⊢
 have hgw : w.heap.size ≤ gb := by omega
 clear hrow hb2 hz2 B1 hgb d1
 go_wp2
 go_loopg [1,9] (n + 1) (fun gh rr t wr => ∃ (k R : Nat) (D : List Int) (x : Int),gh = k + 1 ∧ k ≤ n ∧ rr = .int .i64 (R : Int) ∧ t = .int .i64 x ∧ R ≤ 10000000000 ∧ w2.grownBy wr (some gb) ∧ Row wr gb 3 ((List.replicate k (0 : Int) ++ D).map I64) ∧ Hid (x = (k : Int) - 1) ∧ Hid (digitsL q k R ++ D = digitsL q n r))
 case atStart =>
  refine ⟨n,r,[],(n : Int) - 1,rfl,Nat.le_refl _,rfl,rfl,by omega,hG0,hrow0,rfl,?_⟩
  show _ = _
  rw [List.append_nil]
 case round =>
  obtain ⟨k,R,D,x,hg,hkn,rfl,rfl,hR,hgr,hrow,hx,hD⟩ := hrel
  replace hg := hide hg
  have d4 := Gb.cellOf hgr d4 (by omega)
  cases k with
  | zero =>
   have hx0 : x = -1 := by have := hx.out;omega
   subst hx0
   have hD0 : D = digitsL q n r := by have := hD.out;rw [digitsL,List.nil_append] at this;exact this
   have hrd : Rd I64 wr (.slice (some ⟨gb,0,none⟩) n n) D := by
    rw [List.replicate_zero,List.nil_append] at hrow
    exact hrow.rdAll (by rw [hD0,digitsL_len]) (Nat.le_refl _) (by omega)
   have r1 := Row.grown r1 hgr (by intro e;injection e with e;omega)
   have B3 := Gb.bel B2 hgr hgw
   replace hD0 := hide hD0
   replace hD := hide hD
   have x0 := LineAt.main r1
   have x1 := LineAt.bonus r1
   have x2 := Row.frozen r1 0
   have x3 := Row.frozen r1 1
   have rL : LineAt ((wr.setCell ⟨w.heap.size + 1,0,none⟩ (.slice (some ⟨gb,0,none⟩) n n)).setCell ⟨w.heap.size + 1,1,none⟩ (.slice none 0 0)) (w.heap.size + 1) (.slice (some ⟨gb,0,none⟩) n n) (.slice none 0 0) := LineAt.store r1 _ _
   have y0 := hide rL.main
   have y1 := hide rL.bonus
   have B9 := Bel.st (Bel.st B3 (p := ⟨w.heap.size + 1,0,none⟩) (by simp) (.slice (some ⟨gb,0,none⟩) n n)) (p := ⟨w.heap.size + 1,1,none⟩) (by simp) (.slice none 0 0)
   clear rL
   go_wp2
   have hrd2 := (hrd.setCell (p := ⟨w.heap.size + 1,0,none⟩) (by simp [Value.ownBlock];omega) (.slice (some ⟨gb,0,none⟩) n n)).setCell (p := ⟨w.heap.size + 1,1,none⟩) (by simp [Value.ownBlock];omega) (.slice none 0 0)
   rw [hD0.out] at hrd2
   exact bodyPost_ret (v := .tuple #[.agg #[.slice (some ⟨gb,0,none⟩) n n,.slice none 0 0],.int .i64 0]) (by simp [results,Tryz.results56,go_sem,y0.out,y1.out]) rfl ⟨_,_,rfl,⟨hrd2,Rd.nil⟩,B9⟩
  | succ j =>
   have hxj : x = (j : Int) := by have := hx.out;omega
   subst hxj
   have hD1 : digitsL q j (R / q) ++ (((R % q : Nat) : Int) :: D) = digitsL q n r := by
    have := hD.out;rw [digitsL,List.append_assoc] at this;exact this
   have hset : (List.replicate (j + 1) (0 : Int) ++ D).set j ((R % q : Nat) : Int) = List.replicate j 0 ++ (((R % q : Nat) : Int) :: D) := by
    rw [List.replicate_succ',List.append_assoc,List.set_append_right _ _ (by simp)]
    simp
   have hrow2 := hrow.setV j (((R % q : Nat) : Int))
   rw [hset] at hrow2
   have hgr2 := Gb.set (g := gb) hgr (p := ⟨gb,j,none⟩) (.inl rfl) (I64 ((R % q : Nat) : Int))
   have hlen : ((List.replicate (j + 1) (0 : Int) ++ D).map I64).length = n := by
    have := congrArg List.length hD.out
    rw [List.length_append,digitsL_len,digitsL_len] at this
    rw [List.length_map,List.length_append,List.length_replicate];exact this
   have ce := Row.cell hrow (i := j) (by omega)
   have cf := Row.frozen hrow j
   have j1 : (0 : Int) ≤ (j : Int) := by omega
   have j2 : (j : Int) < (n : Int) := by omega
   have m1 : (R : Int) % (q : Int) = ((R % q : Nat) : Int) := by simp
   have m2 : (R : Int) / (q : Int) = ((R / q : Nat) : Int) := by simp
   have m3 : R / q ≤ 10000000000 := Nat.le_trans (Nat.div_le_self _ _) hR
   obtain ⟨R2,hR2⟩ : ∃ R2,R2 = R / q := ⟨_,rfl⟩
   rw [← hR2] at m2 m3 hD1
   have q0 : ((q : Int) == 0) = false := by simp;omega
   have q1 : (q : Int) ≠ 0 := by omega
   rw [show I64 ((R % q : Nat) : Int) = .int .i64 ((R : Int) % (q : Int)) by rw [m1]] at hrow2 hgr2
   replace m1 := hide m1
   replace m2 := hide m2
   replace hR2 := hide hR2
   replace m3 := hide m3
   replace hD1 := hide hD1
   replace hset := hide hset
   replace hlen := hide hlen
   go_wp2
   go_roundg (j + 1)
   case measure => have := hg.out;omega
   case rel => exact ⟨j,R2,_ :: D,(j : Int) - 1,rfl,by omega,by rw [m2.out];first | rfl | (rw [IntWalk.wrap64_in _ (by have := m3.out;omega)]),rfl,m3.out,hgr2,hrow2,rfl,hD1⟩
set_option maxHeartbeats 4000000 in
set_option maxRecDepth 100000 in
theorem qunrank_choose (g : GameD) (av tv : Value) (ms : List AddonM) (r : Nat) (w : World) (h : GameR w av tv ms g) (he : gameE g = 0) (hk : g.kind ≠ 2) (hr : r < countG g) :
  Calls Tryz.prog 56 #[gameVal g av tv,.int .i64 (r : Int)] w (LineC (unrankG g r).1 (unrankG g r).2 0 w) := by
 have hc := hide (fun X (hX : GameR X av tv ms g) => rcount13_any g av tv ms X hX)
 have hcp : countP g = ((countG g : Int),0) := if_pos he
 rw [hcp] at hc
 have hh := hide h
 obtain ⟨aa,ac,rfl,hal,ham⟩ := h.1.1.shape
 obtain ⟨ta,tc,rfl,htl,htm⟩ := h.2.2.shape
 clear h
 obtain ⟨n1,n2,f1,f2,f3,o1,o2,o3,o4,m1,m2,m3,m4,hrb⟩ := unrank_facts he hk hr
 have hug : unrankG g r = (unrankL g.of.toNat 1 (r / bonusN g) g.main.toNat,unrankL g.bonusOf.toNat 1 (r % bonusN g) g.bonus.toNat) := if_neg hk
 rw [hug]
 have cN := hide (fun X => bonuses_any g (.slice aa ms.length ac) (.slice ta g.tiers.length tc) X ⟨_,_,_,rfl⟩ ⟨_,_,_,rfl⟩ he)
 obtain ⟨N,hN⟩ : ∃ N,N = bonusN g := ⟨_,rfl⟩
 rw [← hN] at cN
 rw [← hN] at n1 n2 f1 f2 ⊢
 obtain ⟨a,ha⟩ : ∃ a,a = r / N := ⟨_,rfl⟩
 obtain ⟨b,hb⟩ : ∃ b,b = r % N := ⟨_,rfl⟩
 rw [← ha] at f1 ⊢
 rw [← hb] at f2 ⊢
 have cU := hide (runrank_any (a : Int) g.of g.main)
 rw [unrankV_in m1 m3 (by omega) f1 _ _ _ rfl o1 o2] at cU
 have cV := hide (runrank_any (b : Int) g.bonusOf g.bonus)
 rw [unrankV_in m2 m4 (show choose g.bonusOf.toNat g.bonus.toNat ≤ 9223372036854775807 by rw [show choose g.bonusOf.toNat g.bonus.toNat = N from hN.symm];omega) (by rw [show choose g.bonusOf.toNat g.bonus.toNat = N from hN.symm];exact f2) _ _ _ rfl o3 o4] at cV
 have t1 : Int.tdiv (r : Int) (N : Int) = (a : Int) := by rw [Int.tdiv_eq_ediv_of_nonneg (by omega),ha];simp
 have t2 : Int.tmod (r : Int) (N : Int) = (b : Int) := by rw [Int.tmod_eq_emod_of_nonneg (by omega),hb];simp
 have t3 : (r : Int) / (N : Int) = (a : Int) := by rw [ha];simp
 have t4 : (r : Int) % (N : Int) = (b : Int) := by rw [hb];simp
 have ba : a ≤ 1646492110120 := by omega
 have bb : b ≤ 1581580 := by omega
 have q0 : ((N : Int) == 0) = false := by simp;omega
 have q1 : (N : Int) ≠ 0 := by omega
 have q2 : N ≠ 0 := by omega
 have q3 : (N == 0) = false := by simp;omega
 have t5 : IntKind.i64.wrap (a : Int) = (a : Int) := IntWalk.i64_in _ (by omega)
 have t6 : IntKind.i64.wrap (b : Int) = (b : Int) := IntWalk.i64_in _ (by omega)
 obtain ⟨c,hcc⟩ : ∃ c,c = countG g := ⟨_,rfl⟩
 rw [← hcc] at hc hr
 have hrc : (r : Int) < (c : Int) := by omega
 have hkb : (g.kind == 2) = false := by simpa using hk
 obtain ⟨L1,hL1⟩ : ∃ L,L = unrankL g.of.toNat 1 a g.main.toNat := ⟨_,rfl⟩
 obtain ⟨L2,hL2⟩ : ∃ L,L = unrankL g.bonusOf.toNat 1 b g.bonus.toNat := ⟨_,rfl⟩
 rw [← hL1] at cU ⊢
 rw [← hL2] at cV ⊢
 have hL0 : g.bonus = 0 → L2 = [] := by
  intro h0
  rw [hL2,h0]
  exact unrankL_zero _ _ _
 have hbn0 : 0 ≤ g.bonus := by omega
 replace hk := hide hk
 clear hcc hcp he hN ha hb hL1 hL2 o1 o2 o3 o4 m1 m2 m3 m4 f1 f2 f3 hug
 unfold gameVal at cN ⊢
 go_enter Tryz.func56,Tryz.ntmps56
 go_upto_region 1 with (fail)
 obtain ⟨W,hW⟩ : ∃ W,W = ((w.alloc (Obj.cells #[.string g.name,.int .i64 g.kind,.int .i64 g.price,.int .i64 g.main,.int .i64 g.of,.int .i64 g.bonus,.int .i64 g.bonusOf,.int .i64 g.extra,.int .i64 g.draws,.int .i64 g.system,.int .i64 g.days,.int .i64 g.at_,.int .i64 g.close,.int .i64 g.cancel,.int .i64 g.expiry,.int .i64 g.pool,.int .i64 g.reserve,.int .i64 g.round,.int .i64 g.cap,.int .i64 g.rolls,(.slice aa ms.length ac),(.slice ta g.tiers.length tc)] 25)).alloc (Obj.cells #[(.slice none 0 0),(.slice none 0 0)] 41)) := ⟨_,rfl⟩
 have bW : Below w.heap.size w W := by rw [hW];exact Bel.al (Bel.al (Below.refl _ _) _) _
 have r0 : GameAt W (w.heap.size) g ((.slice aa ms.length ac)) ((.slice ta g.tiers.length tc)) := by rw [hW];exact Row.alloc (Row.new _ _ _) _
 have r1 : LineAt W (w.heap.size + 1) ((.slice none 0 0)) ((.slice none 0 0)) := by rw [hW];exact Row.at2 _ _ _ _
 have sW : w.heap.size + 1 < W.heap.size := by rw [hW];simp
 rw [← hW]
 clear hW
 go_wp2_with (first | (refine wpList_load_row rfl 25 _ rfl _ rfl _ _ _ _ r0 Tryz.underlying25 rfl (by kernel_rfl) ?_) | fail)
 refine (hc.out _ (hh.out.below bW)).mono ?_
 rintro e w1 ⟨rfl,hb1⟩
 have B1 := Bel.to bW hb1
 have r0 := r0.keep hb1
 have r1 := r1.keep hb1
 have z1 : w.heap.size + 1 < w1.heap.size := by have := hb1.size;omega
 have d1 := r0.kind
 clear hb1 hh hc bW
 go_upto_region 14 with (fail)
 refine wp_region_held_drew (S := fun X => Rng X [(w.heap.size,gameCells g (.slice aa ms.length ac) (.slice ta g.tiers.length tc))]) (by kernel_rfl) (Rng.drew (Rng.cons r0 (Rng.nil _))) (fun hHeld => ?_)
 refine' wpAnyH_take (i := 0) (oi := _) (v := .int .i64 (r : Int)) rfl (by kernel_rfl) (by kernel_rfl) (by kernel_rfl) (fun _ _ _ h => h) (Or.inl ⟨by rfl,fun X _ => by go_simp⟩) hHeld ?_
 try simp only [Act.put,zsA,zsB,zsC]
 refine' wpAnyH_take (i := 1) (oi := _) (v := _) rfl (by kernel_rfl) (by kernel_rfl) (by kernel_rfl) (fun _ _ _ h => h) (yieldsIf_load_mid (by rfl) 25 _ rfl _ _ rfl (gameCells g (.slice aa ms.length ac) (.slice ta g.tiers.length tc)) _ (fun X h => Rng.at0 h) Tryz.underlying25 rfl (by kernel_rfl)) hHeld ?_
 try simp only [Act.put,zsA,zsB,zsC]
 refine' wpAnyH_take (i := 4) (oi := _) (v := .pointer (some ⟨w.heap.size,4,none⟩)) rfl (by kernel_rfl) (by kernel_rfl) (by kernel_rfl) (fun _ _ _ h => h) (Or.inl ⟨by rfl,fun X _ => by go_simp⟩) hHeld ?_
 try simp only [Act.put,zsA,zsB,zsC]
 refine' wpAnyH_take (i := 5) (oi := _) (v := .int .i64 g.of) rfl (by kernel_rfl) (by kernel_rfl) (by kernel_rfl) (fun _ _ _ h => h) (Or.inl ⟨by rfl,fun X hX => by have cX := Rng.cell0 hX 4 _ rfl;go_simp⟩) hHeld ?_
 try simp only [Act.put,zsA,zsB,zsC]
 refine' wpAnyH_take (i := 6) (oi := _) (v := .pointer (some ⟨w.heap.size,3,none⟩)) rfl (by kernel_rfl) (by kernel_rfl) (by kernel_rfl) (fun _ _ _ h => h) (Or.inl ⟨by rfl,fun X _ => by go_simp⟩) hHeld ?_
 try simp only [Act.put,zsA,zsB,zsC]
 refine' wpAnyH_take (i := 7) (oi := _) (v := .int .i64 g.main) rfl (by kernel_rfl) (by kernel_rfl) (by kernel_rfl) (fun _ _ _ h => h) (Or.inl ⟨by rfl,fun X hX => by have cX := Rng.cell0 hX 3 _ rfl;go_simp⟩) hHeld ?_
 try simp only [Act.put,zsA,zsB,zsC]
 refine wpAnyH_ready (rs := [2]) (by kernel_rfl) (by simp) ?_
 refine AllReadyH.cons (o := _) rfl (fun K hK => ?_) AllReadyH.nil
 go_simp
 refine (cN.out _).mono ?_
 rintro e w2 ⟨rfl,hb2⟩
 have B2 := Bel.to (Bel.to B1 (Below.drewSelf _)) hb2
 have r1 := (show LineAt w1.drew _ _ _ from r1).keep hb2
 go_wp2_with fail
 refine hK.out _ _ (hHeld.keep hb2) (fun hHeld => ?_)
 clear hK K
 try simp only [Act.put,zsA,zsB,zsC]
 refine' wpAnyH_take (i := 3) (oi := _) (v := .int .i64 (a : Int)) rfl (by kernel_rfl) (by kernel_rfl) (by kernel_rfl) (fun _ _ _ h => h) (Or.inl ⟨by rfl,fun X _ => by go_simp⟩) hHeld ?_
 try simp only [Act.put,zsA,zsB,zsC]
 refine wpAnyH_ready (rs := [8]) (by kernel_rfl) (by simp) ?_
 refine AllReadyH.cons (o := _) rfl (fun K hK => ?_) AllReadyH.nil
 go_simp
 refine (cU.out _).mono ?_
 rintro e w3 ⟨u1,rfl,hu1,hb3⟩
 obtain ⟨s1,k1,p1,rfl⟩ := Rd.shape hu1
 have B3 := Bel.to B2 hb3
 have r1 := r1.keep hb3
 go_wp2_with fail
 refine hK.out _ _ (hHeld.keep hb3) (fun hHeld => ?_)
 clear hK K
 try simp only [Act.put,zsA,zsB,zsC]
 refine' wpAnyH_take (i := 9) (oi := _) (v := .tuple #[.slice s1 k1 p1,.int .i64 0]) rfl (by kernel_rfl) (by kernel_rfl) (by kernel_rfl) (fun _ _ _ h => h) (Or.inl ⟨by rfl,fun X _ => by go_simp⟩) hHeld ?_
 try simp only [Act.put,zsA,zsB,zsC]
 refine' wpAnyH_take (i := 10) (oi := _) (v := .slice s1 k1 p1) rfl (by kernel_rfl) (by kernel_rfl) (by kernel_rfl) (fun _ _ _ h => h) (Or.inl ⟨by rfl,fun X _ => by go_simp⟩) hHeld ?_
 try simp only [Act.put,zsA,zsB,zsC]
 refine' wpAnyH_take (i := 11) (oi := _) (v := .int .i64 0) rfl (by kernel_rfl) (by kernel_rfl) (by kernel_rfl) (fun _ _ _ h => h) (Or.inl ⟨by rfl,fun X _ => by go_simp⟩) hHeld ?_
 try simp only [Act.put,zsA,zsB,zsC]
 refine' wpAnyH_take (i := 12) (oi := _) (v := .slice s1 k1 p1) rfl (by kernel_rfl) (by kernel_rfl) (by kernel_rfl) (fun _ _ _ h => h) (Or.inl ⟨by rfl,fun X _ => by go_simp⟩) hHeld ?_
 try simp only [Act.put,zsA,zsB,zsC]
 refine' wpAnyH_take (i := 13) (oi := _) (v := .int .i64 0) rfl (by kernel_rfl) (by kernel_rfl) (by kernel_rfl) (fun _ _ _ h => h) (Or.inl ⟨by rfl,fun X _ => by go_simp⟩) hHeld ?_
 try simp only [Act.put,zsA,zsB,zsC]
 refine wpAnyH_done (by kernel_rfl) ?_ _
 go_simp
 have g0 : GameAt w1 w.heap.size g (.slice aa ms.length ac) (.slice ta g.tiers.length tc) := r0
 have r0 : Rng w3 [(w.heap.size,gameCells g (.slice aa ms.length ac) (.slice ta g.tiers.length tc))] := hHeld
 have z3 : w.heap.size + 1 < w3.heap.size := by have := hb2.size;have := hb3.size;simp at *;omega
 clear hHeld hb2 hb3 B1 B2 d1 g0
 go_upto_region 16 with (fail)
 obtain ⟨Z,hZ⟩ : ∃ Z,Z = (w3.alloc (Obj.cells #[(.slice s1 k1 p1),(.slice none 0 0)] 41)) := ⟨_,rfl⟩
 have bZ : Below w3.heap.size w3 Z := by rw [hZ];exact Bel.al (Below.refl _ _) _
 have rZ0 : LineAt Z (w3.heap.size) ((.slice s1 k1 p1)) ((.slice none 0 0)) := by rw [hZ];exact Row.new _ _ _
 have sZ : w3.heap.size < Z.heap.size := by rw [hZ];simp
 rw [← hZ]
 clear hZ
 have B4 := Bel.to B3 bZ
 have r1 := r1.keep bZ
 have hu1 := hu1.below bZ
 have pZ : Rng Z.drew [(w.heap.size,gameCells g (.slice aa ms.length ac) (.slice ta g.tiers.length tc))] := Rng.drew (r0.keep bZ)
 have d5 := (r0.keep bZ).cell0 5 _ rfl
 obtain ⟨Z0,hZ0⟩ : ∃ z,z = w3.heap.size := ⟨_,rfl⟩
 rw [← hZ0] at rZ0 sZ z3 ⊢
 clear hZ0 bZ r0 B3
 by_cases h0 : g.bonus = 0
 ·have hL := hL0 h0
  have hb0 : decide (0 < g.bonus) = false := decide_eq_false (by omega)
  subst hL
  replace h0 := hide h0
  have l0 := rZ0.main
  have l1 := rZ0.bonus
  go_upto_region 21 with (fail)
  have x0 := LineAt.main r1
  have x1 := LineAt.bonus r1
  have x2 := Row.frozen r1 0
  have x3 := Row.frozen r1 1
  have rL : LineAt ((Z.setCell ⟨w.heap.size + 1,0,none⟩ (.slice s1 k1 p1)).setCell ⟨w.heap.size + 1,1,none⟩ (.slice none 0 0)) (w.heap.size + 1) (.slice s1 k1 p1) (.slice none 0 0) := LineAt.store r1 _ _
  have y0 := hide rL.main
  have y1 := hide rL.bonus
  have B9 := Bel.st (Bel.st B4 (p := ⟨w.heap.size + 1,0,none⟩) (by simp) (.slice s1 k1 p1)) (p := ⟨w.heap.size + 1,1,none⟩) (by simp) (.slice none 0 0)
  have hv1 := (hu1.setNe x0 (fun _ h => by cases h) (.slice s1 k1 p1)).setNe (p := ⟨w.heap.size + 1,1,none⟩) (c := .slice none 0 0) (by go_simp) (fun _ h => by cases h) (.slice none 0 0)
  clear rL
  go_wp2
  exact bodyPost_ret (v := .tuple #[.agg #[.slice s1 k1 p1,.slice none 0 0],.int .i64 0]) (by simp [results,Tryz.results56,go_sem,y0.out,y1.out]) rfl ⟨_,_,rfl,⟨hv1,Rd.nil⟩,B9⟩
 ·have hb0 : decide (0 < g.bonus) = true := decide_eq_true (by omega)
  replace h0 := hide h0
  go_upto_region 18 with (fail)
  refine wp_region_held_drew (S := fun X => Rng X [(w.heap.size,gameCells g (.slice aa ms.length ac) (.slice ta g.tiers.length tc))]) (by kernel_rfl) (pZ) (fun hHeld => ?_)
  refine' wpAnyH_take (i := 0) (oi := _) (v := .int .i64 (r : Int)) rfl (by kernel_rfl) (by kernel_rfl) (by kernel_rfl) (fun _ _ _ h => h) (Or.inl ⟨by rfl,fun X _ => by go_simp⟩) hHeld ?_
  try simp only [Act.put,zsA,zsB,zsC]
  refine' wpAnyH_take (i := 1) (oi := _) (v := _) rfl (by kernel_rfl) (by kernel_rfl) (by kernel_rfl) (fun _ _ _ h => h) (yieldsIf_load_mid (by rfl) 25 _ rfl _ _ rfl (gameCells g (.slice aa ms.length ac) (.slice ta g.tiers.length tc)) _ (fun X h => Rng.at0 h) Tryz.underlying25 rfl (by kernel_rfl)) hHeld ?_
  try simp only [Act.put,zsA,zsB,zsC]
  refine' wpAnyH_take (i := 4) (oi := _) (v := .pointer (some ⟨w.heap.size,6,none⟩)) rfl (by kernel_rfl) (by kernel_rfl) (by kernel_rfl) (fun _ _ _ h => h) (Or.inl ⟨by rfl,fun X _ => by go_simp⟩) hHeld ?_
  try simp only [Act.put,zsA,zsB,zsC]
  refine' wpAnyH_take (i := 5) (oi := _) (v := .int .i64 g.bonusOf) rfl (by kernel_rfl) (by kernel_rfl) (by kernel_rfl) (fun _ _ _ h => h) (Or.inl ⟨by rfl,fun X hX => by have cX := Rng.cell0 hX 6 _ rfl;go_simp⟩) hHeld ?_
  try simp only [Act.put,zsA,zsB,zsC]
  refine' wpAnyH_take (i := 6) (oi := _) (v := .pointer (some ⟨w.heap.size,5,none⟩)) rfl (by kernel_rfl) (by kernel_rfl) (by kernel_rfl) (fun _ _ _ h => h) (Or.inl ⟨by rfl,fun X _ => by go_simp⟩) hHeld ?_
  try simp only [Act.put,zsA,zsB,zsC]
  refine' wpAnyH_take (i := 7) (oi := _) (v := .int .i64 g.bonus) rfl (by kernel_rfl) (by kernel_rfl) (by kernel_rfl) (fun _ _ _ h => h) (Or.inl ⟨by rfl,fun X hX => by have cX := Rng.cell0 hX 5 _ rfl;go_simp⟩) hHeld ?_
  try simp only [Act.put,zsA,zsB,zsC]
  refine wpAnyH_ready (rs := [2]) (by kernel_rfl) (by simp) ?_
  refine AllReadyH.cons (o := _) rfl (fun K hK => ?_) AllReadyH.nil
  go_simp
  refine (cN.out _).mono ?_
  rintro e w5 ⟨rfl,hb5⟩
  have B5 := Bel.to (Bel.to B4 (Below.drewSelf _)) hb5
  have r1 := (show LineAt Z.drew _ _ _ from r1).keep hb5
  have rZ := (show LineAt Z.drew _ _ _ from rZ0).keep hb5
  have hu1 := Rd.below (Rd.drew hu1) hb5
  go_wp2_with fail
  refine hK.out _ _ (hHeld.keep hb5) (fun hHeld => ?_)
  clear hK K
  try simp only [Act.put,zsA,zsB,zsC]
  refine' wpAnyH_take (i := 3) (oi := _) (v := .int .i64 (b : Int)) rfl (by kernel_rfl) (by kernel_rfl) (by kernel_rfl) (fun _ _ _ h => h) (Or.inl ⟨by rfl,fun X _ => by go_simp⟩) hHeld ?_
  try simp only [Act.put,zsA,zsB,zsC]
  refine wpAnyH_ready (rs := [8]) (by kernel_rfl) (by simp) ?_
  refine AllReadyH.cons (o := _) rfl (fun K hK => ?_) AllReadyH.nil
  go_simp
  refine (cV.out _).mono ?_
  rintro e w6 ⟨u2,rfl,hu2,hb6⟩
  obtain ⟨s2,k2,p2,rfl⟩ := Rd.shape hu2
  have B6 := Bel.to B5 hb6
  have r1 := r1.keep hb6
  have rZ := rZ.keep hb6
  have hu1 := hu1.below hb6
  go_wp2_with fail
  refine hK.out _ _ (hHeld.keep hb6) (fun hHeld => ?_)
  clear hK K
  try simp only [Act.put,zsA,zsB,zsC]
  refine' wpAnyH_take (i := 9) (oi := _) (v := .tuple #[.slice s2 k2 p2,.int .i64 0]) rfl (by kernel_rfl) (by kernel_rfl) (by kernel_rfl) (fun _ _ _ h => h) (Or.inl ⟨by rfl,fun X _ => by go_simp⟩) hHeld ?_
  try simp only [Act.put,zsA,zsB,zsC]
  refine' wpAnyH_take (i := 10) (oi := _) (v := .slice s2 k2 p2) rfl (by kernel_rfl) (by kernel_rfl) (by kernel_rfl) (fun _ _ _ h => h) (Or.inl ⟨by rfl,fun X _ => by go_simp⟩) hHeld ?_
  try simp only [Act.put,zsA,zsB,zsC]
  refine' wpAnyH_take (i := 11) (oi := _) (v := .int .i64 0) rfl (by kernel_rfl) (by kernel_rfl) (by kernel_rfl) (fun _ _ _ h => h) (Or.inl ⟨by rfl,fun X _ => by go_simp⟩) hHeld ?_
  try simp only [Act.put,zsA,zsB,zsC]
  refine' wpAnyH_take (i := 12) (oi := _) (v := .pointer (some ⟨Z0,1,none⟩)) rfl (by kernel_rfl) (by kernel_rfl) (by kernel_rfl) (fun _ _ _ h => h) (Or.inl ⟨by rfl,fun X _ => by go_simp⟩) hHeld ?_
  try simp only [Act.put,zsA,zsB,zsC]
  have x0 := rZ.main
  have x1 := rZ.bonus
  have x2 := Row.frozen rZ 0
  have x3 := Row.frozen rZ 1
  refine wpAnyH_ready (rs := [13]) (by kernel_rfl) (by simp) ?_
  refine AllReadyH.cons (o := _) rfl (fun K hK => ?_) AllReadyH.nil
  go_simp
  refine hK.out _ _ (Rng.far (q := ⟨Z0,1,none⟩) hHeld (fun p hp => by simp at hp;subst hp;simp;omega) (.slice s2 k2 p2)) (fun hHeld => ?_)
  clear hK K
  try simp only [Act.put,zsA,zsB,zsC]
  refine' wpAnyH_take (i := 14) (oi := _) (v := .int .i64 0) rfl (by kernel_rfl) (by kernel_rfl) (by kernel_rfl) (fun _ _ _ h => h) (Or.inl ⟨by rfl,fun X _ => by go_simp⟩) hHeld ?_
  try simp only [Act.put,zsA,zsB,zsC]
  refine wpAnyH_done (by kernel_rfl) ?_ _
  go_simp
  have rZ := Row.set rZ 1 (.slice s2 k2 p2)
  have x4 := rZ.cell? 0
  have x5 := rZ.cell? 1
  simp only [zsC,zsB,List.getElem?_cons_zero,List.getElem?_cons_succ] at x4 x5
  have r1 : LineAt (w6.setCell ⟨Z0,1,none⟩ (.slice s2 k2 p2)) (w.heap.size + 1) (.slice none 0 0) (.slice none 0 0) := Row.far r1 (p := ⟨Z0,1,none⟩) (by simp;omega) _
  have hu1 := hu1.setNe x1 (fun _ h => by cases h) (.slice s2 k2 p2)
  have hu2 := hu2.setNe x1 (fun _ h => by cases h) (.slice s2 k2 p2)
  have B7 := Bel.st B6 (p := ⟨Z0,1,none⟩) (by simp;omega) (.slice s2 k2 p2)
  obtain ⟨V,hV⟩ : ∃ V,V = w6.setCell ⟨Z0,1,none⟩ (.slice s2 k2 p2) := ⟨_,rfl⟩
  rw [← hV] at x4 x5 r1 hu1 hu2 B7 ⊢
  clear hV hHeld rZ x0 x1 x2 x3
  have x0 := LineAt.main r1
  have x1 := LineAt.bonus r1
  have x2 := Row.frozen r1 0
  have x3 := Row.frozen r1 1
  have rL : LineAt ((V.setCell ⟨w.heap.size + 1,0,none⟩ (.slice s1 k1 p1)).setCell ⟨w.heap.size + 1,1,none⟩ (.slice s2 k2 p2)) (w.heap.size + 1) (.slice s1 k1 p1) (.slice s2 k2 p2) := LineAt.store r1 _ _
  have y0 := hide rL.main
  have y1 := hide rL.bonus
  have B9 := Bel.st (Bel.st B7 (p := ⟨w.heap.size + 1,0,none⟩) (by simp) (.slice s1 k1 p1)) (p := ⟨w.heap.size + 1,1,none⟩) (by simp) (.slice s2 k2 p2)
  have hv1 := (hu1.setNe x0 (fun _ h => by cases h) (.slice s1 k1 p1)).setNe (p := ⟨w.heap.size + 1,1,none⟩) (c := .slice none 0 0) (by go_simp) (fun _ h => by cases h) (.slice s2 k2 p2)
  have hv2 := (hu2.setNe x0 (fun _ h => by cases h) (.slice s1 k1 p1)).setNe (p := ⟨w.heap.size + 1,1,none⟩) (c := .slice none 0 0) (by go_simp) (fun _ h => by cases h) (.slice s2 k2 p2)
  clear rL
  go_wp2
  exact bodyPost_ret (v := .tuple #[.agg #[.slice s1 k1 p1,.slice s2 k2 p2],.int .i64 0]) (by simp [results,Tryz.results56,go_sem,y0.out,y1.out]) rfl ⟨_,_,rfl,⟨hv1,hv2⟩,B9⟩
theorem runrank13_any (g : GameD) (av tv : Value) (ms : List AddonM) (r : Int) (w : World) (h : GameR w av tv ms g) :
  Calls Tryz.prog 56 #[gameVal g av tv,.int .i64 r] w (LineC (unrankP g r).1.1 (unrankP g r).1.2 (unrankP g r).2 w) := by
 unfold unrankP
 by_cases he : gameE g = 0
 ·rw [if_neg (by simpa using he)]
  by_cases hr : r < 0 ∨ (countG g : Int) ≤ r
  ·rw [if_pos hr]
   exact qunrank_range g av tv ms r w h he hr
  ·rw [if_neg hr]
   obtain ⟨R,rfl⟩ := Int.eq_ofNat_of_zero_le (show 0 ≤ r by omega)
   rw [Int.toNat_natCast]
   by_cases hk : g.kind = 2
   ·have := qunrank_digits g av tv ms R w h he hk (by omega)
    have e : unrankG g R = (digitsL g.of.toNat g.main.toNat R,[]) := if_pos hk
    rw [e];exact this
   ·exact qunrank_choose g av tv ms R w h he hk (by omega)
 ·rw [if_pos (by simpa using he)]
  exact qunrank_bad g av tv ms r w h he
end Go.Proofs.YtmocomkobbiflaaGreat
end

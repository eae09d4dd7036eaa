/- OddsSum: for every input the Go function lotterylaw35.OddsSum returns true, and each argument reads afterwards as before. Conditions: none. -/
import Derived.Test.YtldikghldcefcaaHX
import Derived.Test.YtldikghldcefcaaRows
import Derived.WalkKit
import Derived.ProofKit
import Derived.OpenShut
import Derived.ChangeOld
import Derived.Below
import Derived.Test.YtldikghldcefcaaHI
import Derived.Test.YtldikghldcefcaaHP
import Derived.Test.YtldikghldcefcaaHK
section
open Go.RowKit
set_option linter.unusedVariables false
set_option linter.unusedSimpArgs false
namespace Go.Proofs.Ytldikghldcefcaa
set_option maxHeartbeats 8000000 in
set_option maxRecDepth 100000 in
theorem sum35_any (g : GameD) (av tv : Value) (ms : List AddonM) (w : World) (rg : GameR w av tv ms g) :
  Calls Try.prog 4 #[gameVal g av tv] w (BoolB true w) := by
 have cA := hide (fun X => awake35_any X)
 have cF := hide (fun X (hX : Below w.heap.size w X) => few35_any g av tv ms X (rg.below hX))
 have d1 := hide (fun X (hX : Below w.heap.size w X) => oOut_any g av tv ms X (rg.below hX))
 have d2 := hide (fun X (hX : Below w.heap.size w X) => oAny_val g av tv ms X (rg.below hX))
 have dW := hide (fun (t : Int) X (hX : Below w.heap.size w X) => oWin_val g av tv ms t X (rg.below hX))
 have dC := hide (fun (t : Int) X (hX : Below w.heap.size w X) => oChance_val g av tv ms t X (rg.below hX))
 have hT := hide rg.2.2
 have htb : g.tiers.length ≤ 9223372036854775807 := by
  obtain ⟨_,c,_,h1,h2,_⟩ := hT.out
  unfold maxLen at h2
  omega
 obtain ⟨aa,ac,rfl,hal,ham⟩ := rg.1.1.shape
 obtain ⟨ta,tc,rfl,htl,htm⟩ := rg.2.2.shape
 obtain ⟨V,hV⟩ : ∃ V : Nat → Nat,V = fun (i : Nat) => winV g (i : Int) := ⟨_,rfl⟩
 obtain ⟨N,hN⟩ : ∃ N,N = outN g := ⟨_,rfl⟩
 obtain ⟨C,hC⟩ : ∃ C,C = gameE g := ⟨_,rfl⟩
 obtain ⟨S,hSd⟩ : ∃ S,S = winS g := ⟨_,rfl⟩
 obtain ⟨P2,hP2⟩ : ∃ P,P = anyP g := ⟨_,rfl⟩
 obtain ⟨Q2,hQ2⟩ : ∃ P,P = anyQ g := ⟨_,rfl⟩
 obtain ⟨D1,hD1⟩ : ∃ P,P = (outV g).1 := ⟨_,rfl⟩
 obtain ⟨C1,hC1⟩ : ∃ P,P = (outV g).2 := ⟨_,rfl⟩
 have hb0 : Hid (C = 0 → N = D1 ∧ 0 = C1 ∧ numR S N = P2 ∧ denR S N = Q2) := fun h => by
  rw [hC] at h
  refine ⟨?_,?_,?_,?_⟩
  ·rw [hD1];unfold outV;rw [if_pos h,hN]
  ·rw [hC1];unfold outV;rw [if_pos h]
  ·rw [hP2];unfold anyP;rw [if_pos h,hN,hSd];rfl
  ·rw [hQ2];unfold anyQ;rw [if_pos h,hN,hSd];rfl
 have hb1 : Hid (C ≠ 0 → C1 = C) := fun h => by
  rw [hC] at h
  rw [hC1,hC];unfold outV;rw [if_neg h]
 have gA : Hid (C = 0 → 0 < N ∧ (limbs N).length ≤ 10 ∧ S ≤ N ∧ S = sumTo V g.tiers.length) := fun h => by
  rw [hC] at h
  rw [hN,hSd,hV]
  exact ⟨outN_pos h,outN_ten h,winS_le h,rfl⟩
 have dW2 : Hid (∀ (i : Nat) X,C = 0 → i < g.tiers.length → Below w.heap.size w X → Calls Try.prog 14 #[gameVal g (.slice aa ms.length ac) (.slice ta g.tiers.length tc),.int .i64 (i : Int)] X (NatC (V i) 0 X)) := fun i X h hi hX => by
  rw [hC] at h
  have hw := dW.out (i : Int) X hX
  unfold WinO at hw
  rw [if_neg (by simpa using h),if_neg (by omega)] at hw
  rw [hV]
  exact hw
 have dC2 : Hid (∀ (i : Nat) X,C = 0 → i < g.tiers.length → Below w.heap.size w X → Calls Try.prog 15 #[gameVal g (.slice aa ms.length ac) (.slice ta g.tiers.length tc),.int .i64 (i : Int)] X (FracC (numR (V i) N) (denR (V i) N) 0 X)) := fun i X h hi hX => by
  rw [hC] at h
  have hw := dC.out (i : Int) X hX
  have e : WinO g (winV g) (i : Int) = (winV g (i : Int),0) := by
   unfold WinO
   rw [if_neg (by simpa using h),if_neg (by omega)]
  unfold chaP chaQ at hw
  rw [e] at hw
  rw [hV,hN]
  exact hw
 clear dW dC
 rw [← hD1,← hC1] at d1
 rw [← hP2,← hQ2,← hC] at d2
 obtain ⟨an,han⟩ : ∃ an,an = ms.length := ⟨_,rfl⟩
 obtain ⟨tn,htn⟩ : ∃ tn,tn = g.tiers.length := ⟨_,rfl⟩
 rw [← han,← htn] at cF d1 d2 dW2 dC2 ⊢
 rw [← htn] at gA htb
 have dW := dW2
 have dC := dC2
 clear dW2 dC2 rg hal ham htl htm han htn hT hV hN hC hSd hP2 hQ2 hD1 hC1
 unfold gameVal at cF d1 d2 dW dC ⊢
 go_enter Try.func4,Try.ntmps4
 go_upto_region 1 with (fail)
 obtain ⟨W,hW⟩ : ∃ W,W = (w.alloc (Obj.cells #[.string g.name,.int .i64 g.kind,.int .i64 g.price,.int .i64 g.main,.int .i64 g.of,.int .i64 g.bonus,.int .i64 g.bonusOf,.int .i64 g.extra,.int .i64 g.draws,.int .i64 g.system,.int .i64 g.days,.int .i64 g.at_,.int .i64 g.close,.int .i64 g.cancel,.int .i64 g.expiry,.int .i64 g.pool,.int .i64 g.reserve,.int .i64 g.round,.int .i64 g.cap,.int .i64 g.rolls,(.slice aa an ac),(.slice ta tn tc)] 25)) := ⟨_,rfl⟩
 have bel : Below w.heap.size w W := by rw [hW];exact Bel.al (Below.refl _ _) _
 have r0 : GameAt W w.heap.size g (.slice aa an ac) (.slice ta tn tc) := by rw [hW];exact Row.new _ _ _
 rw [← hW]
 clear hW
 have cF2 := hide (cF.out W bel)
 clear cF
 go_wp2_with (first | (refine wpList_load_row rfl 25 _ rfl _ rfl _ _ _ _ r0 Try.underlying25 rfl (by kernel_rfl) ?_) | fail)
 refine cF2.out.mono ?_
 rintro e w1 ⟨bb,rfl,-,hb⟩
 replace bel := Bel.to bel hb
 replace r0 := r0.keep hb
 clear cF2 hb
 cases bb
 ·skip
  go_wp2_with fail
  refine (cA.out _).mono ?_
  rintro e wz ⟨rfl,hz⟩
  go_wp2
  go_ret
  exact ⟨rfl,Bel.to bel hz⟩
 ·skip
  have c1 := hide (d1.out w1 bel)
  clear d1
  go_wp2_with (first | (refine wpList_load_row rfl 25 _ rfl _ rfl _ _ _ _ r0 Try.underlying25 rfl (by kernel_rfl) ?_) | fail)
  refine (c1.out).mono ?_
  rintro e x1 ⟨u1,rfl,hu1,hb⟩
  obtain ⟨u1a,u1l,u1c,rfl⟩ := Rd.shape hu1
  replace bel := Bel.to bel hb
  replace r0 := r0.keep hb
  clear hb
  go_upto_region 4 with (fail)
  obtain ⟨y1,hy1⟩ : ∃ X,X = x1.alloc (.cells #[.slice u1a u1l u1c] 30) := ⟨_,rfl⟩
  have by1 : Below x1.heap.size x1 y1 := by rw [hy1];exact Bel.al (Below.refl _ _) _
  have r1 : Row y1 x1.heap.size 30 [.slice u1a u1l u1c] := by rw [hy1];exact Row.newOf _ rfl
  rw [← hy1]
  clear hy1
  replace bel := Bel.to bel by1
  replace r0 := r0.keep by1
  replace hu1 := Rd.below hu1 by1
  obtain ⟨q1,hq1⟩ : ∃ b,b = x1.heap.size := ⟨_,rfl⟩
  rw [← hq1] at r1 ⊢
  clear by1 hq1
  clear c1
  have c2 := hide (d2.out y1 bel)
  clear d2
  go_wp2_with (first | (refine wpList_load_row rfl 25 _ rfl _ rfl _ _ _ _ r0 Try.underlying25 rfl (by kernel_rfl) ?_) | fail)
  refine (c2.out).mono ?_
  rintro e x2 ⟨u2,v2,rfl,hu2,hv2,hb⟩
  obtain ⟨u2a,u2l,u2c,rfl⟩ := Rd.shape hu2
  obtain ⟨v2a,v2l,v2c,rfl⟩ := Rd.shape hv2
  replace bel := Bel.to bel hb
  replace r0 := r0.keep hb
  replace hu1 := Rd.below hu1 hb
  replace r1 := Row.keep r1 hb
  clear hb
  go_upto_region 5 with (fail)
  obtain ⟨y2,hy2⟩ : ∃ X,X = x2.alloc (.cells #[.slice u2a u2l u2c,.slice v2a v2l v2c] 36) := ⟨_,rfl⟩
  have by2 : Below x2.heap.size x2 y2 := by rw [hy2];exact Bel.al (Below.refl _ _) _
  have r2 : Row y2 x2.heap.size 36 [.slice u2a u2l u2c,.slice v2a v2l v2c] := by rw [hy2];exact Row.newOf _ rfl
  rw [← hy2]
  clear hy2
  replace bel := Bel.to bel by2
  replace r0 := r0.keep by2
  replace hu1 := Rd.below hu1 by2
  replace r1 := Row.keep r1 by2
  replace hu2 := Rd.below hu2 by2
  replace hv2 := Rd.below hv2 by2
  obtain ⟨q2,hq2⟩ : ∃ b,b = x2.heap.size := ⟨_,rfl⟩
  rw [← hq2] at r2 ⊢
  clear by2 hq2
  clear c2
  by_cases h0 : C = 0
  rotate_left
  ·have e1 : (C != 0) = true := by simpa using h0
   have e2 : (C == C) = true := by simp
   obtain rfl : C1 = C := hb1.out h0
   clear dW dC hu1 hu2 hv2 r1 r2 r0 hb0 hb1 gA
   go_wp2_with fail
   refine (cA.out _).mono ?_
   rintro e wz ⟨rfl,hz⟩
   go_wp2
   go_ret
   exact ⟨rfl,Bel.to bel hz⟩
  obtain ⟨rfl,rfl,rfl,rfl⟩ := hb0.out h0
  clear hb0 hb1
  subst h0
  have gB := gA.out rfl
  clear gA
  obtain ⟨N0,N10,SN,hS10⟩ := gB
  go_upto_region 8 with (fail)
  obtain ⟨q7,hq7⟩ : ∃ b,b = y2.heap.size := ⟨_,rfl⟩
  obtain ⟨y7,hy7⟩ : ∃ X,X = y2.alloc (.cells #[.slice none 0 0] 30) := ⟨_,rfl⟩
  have by7 : Below y2.heap.size y2 y7 := by rw [hy7];exact Bel.al (Below.refl _ _) _
  have r7 : Row y7 q7 30 [.slice none 0 0] := by rw [hy7,hq7];exact Row.newOf _ rfl
  rw [← hy7,← hq7]
  have l2 := r2.lt
  have l1 := r1.lt
  have l0 := r0.lt
  have o7 : w.heap.size < q7 ∧ q1 < q7 ∧ q2 < q7 := by omega
  clear hy7 hq7 l0 l1 l2
  replace bel := Bel.to bel by7
  replace r0 := r0.keep by7
  replace hu1 := Rd.below hu1 by7
  replace r1 := Row.keep r1 by7
  replace hu2 := Rd.below hu2 by7
  replace hv2 := Rd.below hv2 by7
  replace r2 := Row.keep r2 by7
  clear by7
  go_wp2_with fail
  refine (rfof_ok 0 1 _ (by omega) (by omega) (by omega)).mono ?_
  rintro e x8 ⟨u8,v8,rfl,hu8,hv8,hb⟩
  obtain ⟨u8a,u8l,u8c,rfl⟩ := Rd.shape hu8
  obtain ⟨v8a,v8l,v8c,rfl⟩ := Rd.shape hv8
  replace bel := Bel.to bel hb
  replace r0 := r0.keep hb
  replace hu1 := Rd.below hu1 hb
  replace r1 := Row.keep r1 hb
  replace hu2 := Rd.below hu2 hb
  replace hv2 := Rd.below hv2 hb
  replace r2 := Row.keep r2 hb
  replace r7 := Row.keep r7 hb
  clear hb
  have l7 := r7.lt
  go_upto_region 9 with (fail)
  obtain ⟨y8,hy8⟩ : ∃ X,X = x8.alloc (.cells #[.slice u8a u8l u8c,.slice v8a v8l v8c] 36) := ⟨_,rfl⟩
  have by8 : Below x8.heap.size x8 y8 := by rw [hy8];exact Bel.al (Below.refl _ _) _
  have r8 : Row y8 x8.heap.size 36 [.slice u8a u8l u8c,.slice v8a v8l v8c] := by rw [hy8];exact Row.newOf _ rfl
  rw [← hy8]
  clear hy8
  replace bel := Bel.to bel by8
  replace r0 := r0.keep by8
  replace hu1 := Rd.below hu1 by8
  replace r1 := Row.keep r1 by8
  replace hu2 := Rd.below hu2 by8
  replace hv2 := Rd.below hv2 by8
  replace r2 := Row.keep r2 by8
  replace r7 := Row.keep r7 by8
  replace hu8 := Rd.below hu8 by8
  replace hv8 := Rd.below hv8 by8
  obtain ⟨q8,hq8⟩ : ∃ b,b = x8.heap.size := ⟨_,rfl⟩
  rw [← hq8] at r8 ⊢
  have o8 : q7 < q8 := by omega
  clear l7
  clear by8 hq8
  have z8 := redR_zero N0
  have hf : NV y8 (.slice u8a u8l u8c) (numR 0 N) := by rw [z8.1,← show 0 / Nat.gcd 0 1 = 0 by simp];exact hu8
  have hg : NV y8 (.slice v8a v8l v8c) (denR 0 N) := by rw [z8.2,← show 1 / Nat.gcd 0 1 = 1 by simp];exact hv8
  have SE := hide hS10
  replace N0 := hide N0
  replace N10 := hide N10
  replace SN := hide SN
  clear z8 hu8 hv8 hS10
  have ct := r0.tiers
  have hs : NV y8 (.slice none 0 0) 0 := NV.zero _
  go_wp2
  go_loopg [50] tn (fun gh ti wr => ∃ (i s : Nat) (sa : Option Addr) (sn sc : Nat) (fa : Option Addr) (fl fc : Nat) (ga : Option Addr) (gl gc : Nat),gh = tn - i ∧ i ≤ tn ∧ ti = .int .i64 (i : Int) ∧ Hid (s = sumTo V i) ∧ Row wr q7 30 [.slice sa sn sc] ∧ NV wr (.slice sa sn sc) s ∧ Row wr q8 36 [.slice fa fl fc,.slice ga gl gc] ∧ NV wr (.slice fa fl fc) (numR s N) ∧ NV wr (.slice ga gl gc) (denR s N) ∧ Row wr q1 30 [.slice u1a u1l u1c] ∧ NV wr (.slice u1a u1l u1c) N ∧ Row wr q2 36 [.slice u2a u2l u2c,.slice v2a v2l v2c] ∧ NV wr (.slice u2a u2l u2c) (numR S N) ∧ NV wr (.slice v2a v2l v2c) (denR S N) ∧ GameAt wr w.heap.size g (.slice aa an ac) (.slice ta tn tc) ∧ Below w.heap.size w wr)
  case atStart => exact ⟨0,0,none,0,0,_,_,_,_,_,_,rfl,Nat.zero_le _,rfl,rfl,r7,hs,r8,hf,hg,r1,hu1,r2,hu2,hv2,r0,bel⟩
  case round =>
   clear r7 hs r8 hf hg r1 hu1 r2 hu2 hv2 r0 bel ct
   obtain ⟨i,s,sa,sn,sc,fa,fl,fc,ga,gl,gc,hgi,hi,rfl,hsi,r7,hs,r8,hf,hg,r1,hu1,r2,hu2,hv2,r0,bel⟩ := hrel
   replace hgi := hide hgi
   by_cases hlt : i < tn
   ·skip
    have hlt2 := hide hlt
    have ii : (i : Int) < (tn : Int) := by omega
    have cW := hide (dW.out i wr (by simp) hlt bel)
    have cC := hide (fun X hX => dC.out i X (by simp) hlt hX)
    obtain ⟨y,hy⟩ : ∃ y,y = V i := ⟨_,rfl⟩
    rw [← hy] at cW cC
    have hs2 : Hid (s + y = sumTo V (i + 1)) := by show _ = _;rw [sumTo,hsi.out,hy]
    have hsy : s + y ≤ N := by rw [hs2.out];exact Nat.le_trans (sumTo_mono hlt) (by rw [← SE.out];exact SN.out)
    have n10 := N10.out
    have l1 : (limbs (s + y)).length ≤ 10 := Nat.le_trans (limbs_len_le hsy) n10
    have l2 : (limbs s).length ≤ 10 := Nat.le_trans (limbs_len_le (Nat.le_trans (Nat.le_add_right s y) hsy)) n10
    have l3 : (limbs y).length ≤ 10 := Nat.le_trans (limbs_len_le (Nat.le_trans (Nat.le_add_left y s) hsy)) n10
    have l4 : (limbs (numR s N)).length ≤ 20 := Nat.le_trans (limbs_len_le (numR_le s N)) (by omega)
    have l5 : (limbs (denR s N)).length ≤ 20 := Nat.le_trans (limbs_len_le (denR_le s N)) (by omega)
    have l6 : (limbs (numR y N)).length ≤ 20 := Nat.le_trans (limbs_len_le (numR_le y N)) (by omega)
    have l7 : (limbs (denR y N)).length ≤ 20 := Nat.le_trans (limbs_len_le (denR_le y N)) (by omega)
    have l8 : (digs (s + y)).length ≤ 128 := digs_limbs_len (show (limbs (s + y)).length ≤ 64 by omega)
    have cS := hide (fun va vb X (h1 : NV X va s) (h2 : NV X vb y) => radd_nat va vb s y X h1 h2 (by omega) (by omega) l8)
    have cF := hide (fun va vb vc vd X (h1 : NV X va (numR s N)) (h2 : NV X vb (denR s N)) (h3 : NV X vc (numR y N)) (h4 : NV X vd (denR y N)) => rfadd_ok va vb vc vd _ _ _ _ X h1 h2 h3 h4 l4 l5 l6 l7 (denR_pos N0.out) (denR_pos N0.out) (redR_gcd N0.out) (redR_gcd N0.out))
    rw [(redR_add (s := s) (v := y) N0.out).1,(redR_add (s := s) (v := y) N0.out).2] at cF
    clear hy hsi hsy n10 l1 l2 l3 l4 l5 l6 l7 l8
    go_wp2_with (first | (refine wpList_load_row rfl 25 _ rfl _ rfl _ _ _ _ r0 Try.underlying25 rfl (by kernel_rfl) ?_) | fail)
    refine (cW.out).mono ?_
    rintro e x11 ⟨u11,rfl,hu11,hb⟩
    obtain ⟨u11a,u11l,u11c,rfl⟩ := Rd.shape hu11
    replace bel := Bel.to bel hb
    replace r0 := r0.keep hb
    replace hu1 := Rd.below hu1 hb
    replace r1 := Row.keep r1 hb
    replace hu2 := Rd.below hu2 hb
    replace hv2 := Rd.below hv2 hb
    replace r2 := Row.keep r2 hb
    replace r7 := Row.keep r7 hb
    replace r8 := Row.keep r8 hb
    replace hs := Rd.below hs hb
    replace hf := Rd.below hf hb
    replace hg := Rd.below hg hb
    clear hb
    go_upto_region 13 with (fail)
    obtain ⟨y11,hy11⟩ : ∃ X,X = x11.alloc (.cells #[.slice u11a u11l u11c] 30) := ⟨_,rfl⟩
    have by11 : Below x11.heap.size x11 y11 := by rw [hy11];exact Bel.al (Below.refl _ _) _
    have r11 : Row y11 x11.heap.size 30 [.slice u11a u11l u11c] := by rw [hy11];exact Row.newOf _ rfl
    rw [← hy11]
    clear hy11
    replace bel := Bel.to bel by11
    replace r0 := r0.keep by11
    replace hu1 := Rd.below hu1 by11
    replace r1 := Row.keep r1 by11
    replace hu2 := Rd.below hu2 by11
    replace hv2 := Rd.below hv2 by11
    replace r2 := Row.keep r2 by11
    replace r7 := Row.keep r7 by11
    replace r8 := Row.keep r8 by11
    replace hs := Rd.below hs by11
    replace hf := Rd.below hf by11
    replace hg := Rd.below hg by11
    replace hu11 := Rd.below hu11 by11
    obtain ⟨q11,hq11⟩ : ∃ b,b = x11.heap.size := ⟨_,rfl⟩
    rw [← hq11] at r11 ⊢
    clear by11 hq11
    clear cW
    have cC2 := hide (cC.out _ bel)
    clear cC
    go_wp2_with (first | (refine wpList_load_row rfl 25 _ rfl _ rfl _ _ _ _ r0 Try.underlying25 rfl (by kernel_rfl) ?_) | fail)
    refine (cC2.out).mono ?_
    rintro e x13 ⟨u13,v13,rfl,hu13,hv13,hb⟩
    obtain ⟨u13a,u13l,u13c,rfl⟩ := Rd.shape hu13
    obtain ⟨v13a,v13l,v13c,rfl⟩ := Rd.shape hv13
    replace bel := Bel.to bel hb
    replace r0 := r0.keep hb
    replace hu1 := Rd.below hu1 hb
    replace r1 := Row.keep r1 hb
    replace hu2 := Rd.below hu2 hb
    replace hv2 := Rd.below hv2 hb
    replace r2 := Row.keep r2 hb
    replace r7 := Row.keep r7 hb
    replace r8 := Row.keep r8 hb
    replace hs := Rd.below hs hb
    replace hf := Rd.below hf hb
    replace hg := Rd.below hg hb
    replace hu11 := Rd.below hu11 hb
    replace r11 := Row.keep r11 hb
    clear hb
    have l7 := r7.lt
    go_upto_region 14 with (fail)
    obtain ⟨y13,hy13⟩ : ∃ X,X = x13.alloc (.cells #[.slice u13a u13l u13c,.slice v13a v13l v13c] 36) := ⟨_,rfl⟩
    have by13 : Below x13.heap.size x13 y13 := by rw [hy13];exact Bel.al (Below.refl _ _) _
    have r13 : Row y13 x13.heap.size 36 [.slice u13a u13l u13c,.slice v13a v13l v13c] := by rw [hy13];exact Row.newOf _ rfl
    rw [← hy13]
    clear hy13
    replace bel := Bel.to bel by13
    replace r0 := r0.keep by13
    replace hu1 := Rd.below hu1 by13
    replace r1 := Row.keep r1 by13
    replace hu2 := Rd.below hu2 by13
    replace hv2 := Rd.below hv2 by13
    replace r2 := Row.keep r2 by13
    replace r7 := Row.keep r7 by13
    replace r8 := Row.keep r8 by13
    replace hs := Rd.below hs by13
    replace hf := Rd.below hf by13
    replace hg := Rd.below hg by13
    replace hu11 := Rd.below hu11 by13
    replace r11 := Row.keep r11 by13
    replace hu13 := Rd.below hu13 by13
    replace hv13 := Rd.below hv13 by13
    obtain ⟨q13,hq13⟩ : ∃ b,b = x13.heap.size := ⟨_,rfl⟩
    rw [← hq13] at r13 ⊢
    have o13 : q7 < q13 := by omega
    clear l7
    clear by13 hq13
    clear cC2
    go_wp2_with (first | (refine wpList_load_row_if (by first | (go_simp;done) | rfl) 30 _ rfl _ rfl _ _ _ r7 Try.underlying30 rfl (by kernel_rfl) ?_) | (refine wpList_load_row_if (by first | (go_simp;done) | rfl) 30 _ rfl _ rfl _ _ _ r11 Try.underlying30 rfl (by kernel_rfl) ?_) | fail)
    refine (cS.out _ _ _ hs hu11).mono ?_
    rintro e x16 ⟨u16,rfl,hu16,hb⟩
    obtain ⟨u16a,u16l,u16c,rfl⟩ := Rd.shape hu16
    replace bel := Bel.to bel hb
    replace r0 := r0.keep hb
    replace hu1 := Rd.below hu1 hb
    replace r1 := Row.keep r1 hb
    replace hu2 := Rd.below hu2 hb
    replace hv2 := Rd.below hv2 hb
    replace r2 := Row.keep r2 hb
    replace r7 := Row.keep r7 hb
    replace r8 := Row.keep r8 hb
    replace hf := Rd.below hf hb
    replace hg := Rd.below hg hb
    replace hu13 := Rd.below hu13 hb
    replace hv13 := Rd.below hv13 hb
    replace r13 := Row.keep r13 hb
    clear hb
    clear cS hs hu11 r11
    have c7 := r7.cell? 0
    have f7 := r7.frozen 0
    simp only [List.getElem?_cons_zero] at c7
    go_upto_region 17 with (fail)
    obtain ⟨y16,hy16⟩ : ∃ X,X = x16.setCell ⟨q7,0,none⟩ (.slice u16a u16l u16c) := ⟨_,rfl⟩
    rw [← hy16]
    replace hu16 := Rd.setNe hu16 c7 (fun _ h => by cases h) (.slice u16a u16l u16c)
    rw [← hy16] at hu16
    replace hf := Rd.setNe hf c7 (fun _ h => by cases h) (.slice u16a u16l u16c)
    rw [← hy16] at hf
    replace hg := Rd.setNe hg c7 (fun _ h => by cases h) (.slice u16a u16l u16c)
    rw [← hy16] at hg
    replace hu1 := Rd.setNe hu1 c7 (fun _ h => by cases h) (.slice u16a u16l u16c)
    rw [← hy16] at hu1
    replace hu2 := Rd.setNe hu2 c7 (fun _ h => by cases h) (.slice u16a u16l u16c)
    rw [← hy16] at hu2
    replace hv2 := Rd.setNe hv2 c7 (fun _ h => by cases h) (.slice u16a u16l u16c)
    rw [← hy16] at hv2
    replace hu13 := Rd.setNe hu13 c7 (fun _ h => by cases h) (.slice u16a u16l u16c)
    rw [← hy16] at hu13
    replace hv13 := Rd.setNe hv13 c7 (fun _ h => by cases h) (.slice u16a u16l u16c)
    rw [← hy16] at hv13
    replace r8 := Row.far r8 (p := ⟨q7,0,none⟩) (by simp only [];omega) (.slice u16a u16l u16c)
    rw [← hy16] at r8
    replace r1 := Row.far r1 (p := ⟨q7,0,none⟩) (by simp only [];omega) (.slice u16a u16l u16c)
    rw [← hy16] at r1
    replace r2 := Row.far r2 (p := ⟨q7,0,none⟩) (by simp only [];omega) (.slice u16a u16l u16c)
    rw [← hy16] at r2
    replace r13 := Row.far r13 (p := ⟨q7,0,none⟩) (by simp only [];omega) (.slice u16a u16l u16c)
    rw [← hy16] at r13
    have r0' : GameAt _ w.heap.size g (.slice aa an ac) (.slice ta tn tc) := Row.far r0 (p := ⟨q7,0,none⟩) (by simp only [];omega) (.slice u16a u16l u16c)
    rw [← hy16] at r0'
    have r7' := Row.set r7 0 (.slice u16a u16l u16c)
    simp only [zsB] at r7'
    rw [← hy16] at r7'
    replace bel := Bel.st bel (p := ⟨q7,0,none⟩) (by simp only [];omega) (.slice u16a u16l u16c)
    rw [← hy16] at bel
    clear c7 f7 r0 r7 hy16
    have r0 := r0'
    have r7 := r7'
    clear r0' r7'
    go_wp2_with (first | (refine wpList_load_row_if (by first | (go_simp;done) | rfl) 36 _ rfl _ rfl _ _ _ r8 Try.underlying36 rfl (by kernel_rfl) ?_) | (refine wpList_load_row_if (by first | (go_simp;done) | rfl) 36 _ rfl _ rfl _ _ _ r13 Try.underlying36 rfl (by kernel_rfl) ?_) | fail)
    refine (cF.out _ _ _ _ _ hf hg hu13 hv13).mono ?_
    rintro e x17 ⟨u17,v17,rfl,hu17,hv17,hb⟩
    obtain ⟨u17a,u17l,u17c,rfl⟩ := Rd.shape hu17
    obtain ⟨v17a,v17l,v17c,rfl⟩ := Rd.shape hv17
    replace bel := Bel.to bel hb
    replace r0 := r0.keep hb
    replace hu1 := Rd.below hu1 hb
    replace r1 := Row.keep r1 hb
    replace hu2 := Rd.below hu2 hb
    replace hv2 := Rd.below hv2 hb
    replace r2 := Row.keep r2 hb
    replace r7 := Row.keep r7 hb
    replace r8 := Row.keep r8 hb
    replace hu16 := Rd.below hu16 hb
    clear hb
    clear cF hf hg hu13 hv13 r13
    have c80 := r8.cell? 0
    have c81 := r8.cell? 1
    simp only [List.getElem?_cons_zero,List.getElem?_cons_succ] at c80 c81
    have f80 := r8.frozen 0
    have f81 := r8.frozen 1
    have c81' := (r8.set 0 (.slice u17a u17l u17c)).cell? 1
    simp only [zsB,List.getElem?_cons_zero,List.getElem?_cons_succ] at c81'
    have hu16' := (Rd.setNe hu16 c80 (fun _ h => by cases h) (.slice u17a u17l u17c)).setNe c81' (fun _ h => by cases h) (.slice v17a v17l v17c)
    have hu17' := (Rd.setNe hu17 c80 (fun _ h => by cases h) (.slice u17a u17l u17c)).setNe c81' (fun _ h => by cases h) (.slice v17a v17l v17c)
    have hv17' := (Rd.setNe hv17 c80 (fun _ h => by cases h) (.slice u17a u17l u17c)).setNe c81' (fun _ h => by cases h) (.slice v17a v17l v17c)
    have hu1' := (Rd.setNe hu1 c80 (fun _ h => by cases h) (.slice u17a u17l u17c)).setNe c81' (fun _ h => by cases h) (.slice v17a v17l v17c)
    have hu2' := (Rd.setNe hu2 c80 (fun _ h => by cases h) (.slice u17a u17l u17c)).setNe c81' (fun _ h => by cases h) (.slice v17a v17l v17c)
    have hv2' := (Rd.setNe hv2 c80 (fun _ h => by cases h) (.slice u17a u17l u17c)).setNe c81' (fun _ h => by cases h) (.slice v17a v17l v17c)
    have r7' := Row.far (Row.far r7 (p := ⟨q8,0,none⟩) (by simp only [];omega) (.slice u17a u17l u17c)) (p := ⟨q8,1,none⟩) (by simp only [];omega) (.slice v17a v17l v17c)
    have r1' := Row.far (Row.far r1 (p := ⟨q8,0,none⟩) (by simp only [];omega) (.slice u17a u17l u17c)) (p := ⟨q8,1,none⟩) (by simp only [];omega) (.slice v17a v17l v17c)
    have r2' := Row.far (Row.far r2 (p := ⟨q8,0,none⟩) (by simp only [];omega) (.slice u17a u17l u17c)) (p := ⟨q8,1,none⟩) (by simp only [];omega) (.slice v17a v17l v17c)
    have r0' : GameAt _ w.heap.size g (.slice aa an ac) (.slice ta tn tc) := Row.far (Row.far r0 (p := ⟨q8,0,none⟩) (by simp only [];omega) (.slice u17a u17l u17c)) (p := ⟨q8,1,none⟩) (by simp only [];omega) (.slice v17a v17l v17c)
    have r8' := (r8.set 0 (.slice u17a u17l u17c)).set 1 (.slice v17a v17l v17c)
    simp only [zsB,zsC] at r8'
    have bel' := Bel.st (Bel.st bel (p := ⟨q8,0,none⟩) (by simp only [];omega) (.slice u17a u17l u17c)) (p := ⟨q8,1,none⟩) (by simp only [];omega) (.slice v17a v17l v17c)
    clear hu16 hu17 hv17 hu1 hu2 hv2 c81'
    go_wp2
    go_roundg (tn - (i + 1))
    case measure => have := hgi.out;have := hlt2.out;omega
    case rel => exact ⟨i + 1,s + y,u16a,u16l,u16c,u17a,u17l,u17c,v17a,v17l,v17c,rfl,by have := hlt2.out;omega,by go_num,hs2,r7',hu16',r8',hu17',hv17',r1',hu1',r2',hu2',hv2',r0',bel'⟩
   ·skip
    obtain rfl : i = tn := by omega
    have hsS : s = S := by rw [hsi.out,SE.out]
    subst hsS
    have n10 := N10.out
    have s10 := limbs_len_le SN.out
    have cM : Hid (∀ va vb X,NV X va s → NV X vb N → Calls Try.prog 18 #[.agg #[va],.agg #[vb]] X (FracC (numR s N) (denR s N) 0 X)) := fun va vb X h1 h2 => rmake_ok va vb s N X h1 h2 (by omega) (by omega) N0.out
    have cP := hide (fun va vb X (h1 : NV X va s) (h2 : NV X vb N) => rcmp_nat va vb s N X h1 h2 (by omega) (by omega))
    obtain ⟨z,hz⟩ : ∃ z,z = cmpV s N := ⟨_,rfl⟩
    rw [← hz] at cP
    have hz0 : z ≤ 0 := by
     rw [hz]
     unfold cmpV
     have := SN.out
     by_cases h : s < N
     ·rw [if_pos h];omega
     ·rw [if_neg h,if_neg (by omega)];omega
    clear hz n10 s10
    go_wp2_with (first | (refine wpList_load_row_if (by first | (go_simp;done) | rfl) 30 _ rfl _ rfl _ _ _ r7 Try.underlying30 rfl (by kernel_rfl) ?_) | (refine wpList_load_row_if (by first | (go_simp;done) | rfl) 30 _ rfl _ rfl _ _ _ r1 Try.underlying30 rfl (by kernel_rfl) ?_) | fail)
    refine (cM.out _ _ _ hs hu1).mono ?_
    rintro e x21 ⟨u21,v21,rfl,hu21,hv21,hb⟩
    obtain ⟨u21a,u21l,u21c,rfl⟩ := Rd.shape hu21
    obtain ⟨v21a,v21l,v21c,rfl⟩ := Rd.shape hv21
    replace bel := Bel.to bel hb
    replace r0 := r0.keep hb
    replace hu1 := Rd.below hu1 hb
    replace r1 := Row.keep r1 hb
    replace hu2 := Rd.below hu2 hb
    replace hv2 := Rd.below hv2 hb
    replace r2 := Row.keep r2 hb
    replace r7 := Row.keep r7 hb
    replace r8 := Row.keep r8 hb
    replace hs := Rd.below hs hb
    replace hf := Rd.below hf hb
    replace hg := Rd.below hg hb
    clear hb
    go_upto_region 22 with (fail)
    obtain ⟨y21,hy21⟩ : ∃ X,X = x21.alloc (.cells #[.slice u21a u21l u21c,.slice v21a v21l v21c] 36) := ⟨_,rfl⟩
    have by21 : Below x21.heap.size x21 y21 := by rw [hy21];exact Bel.al (Below.refl _ _) _
    have r21 : Row y21 x21.heap.size 36 [.slice u21a u21l u21c,.slice v21a v21l v21c] := by rw [hy21];exact Row.newOf _ rfl
    rw [← hy21]
    clear hy21
    replace bel := Bel.to bel by21
    replace r0 := r0.keep by21
    replace hu1 := Rd.below hu1 by21
    replace r1 := Row.keep r1 by21
    replace hu2 := Rd.below hu2 by21
    replace hv2 := Rd.below hv2 by21
    replace r2 := Row.keep r2 by21
    replace r7 := Row.keep r7 by21
    replace r8 := Row.keep r8 by21
    replace hs := Rd.below hs by21
    replace hf := Rd.below hf by21
    replace hg := Rd.below hg by21
    replace hu21 := Rd.below hu21 by21
    replace hv21 := Rd.below hv21 by21
    obtain ⟨q21,hq21⟩ : ∃ b,b = x21.heap.size := ⟨_,rfl⟩
    rw [← hq21] at r21 ⊢
    clear by21 hq21
    clear cM
    go_wp2_with (first | (refine wpList_load_row_if (by first | (go_simp;done) | rfl) 30 _ rfl _ rfl _ _ _ r7 Try.underlying30 rfl (by kernel_rfl) ?_) | (refine wpList_load_row_if (by first | (go_simp;done) | rfl) 30 _ rfl _ rfl _ _ _ r1 Try.underlying30 rfl (by kernel_rfl) ?_) | fail)
    refine (cP.out _ _ _ hs hu1).mono ?_
    rintro e x22 ⟨rfl,hb⟩
    replace bel := Bel.to bel hb
    replace r0 := r0.keep hb
    replace hu1 := Rd.below hu1 hb
    replace r1 := Row.keep r1 hb
    replace hu2 := Rd.below hu2 hb
    replace hv2 := Rd.below hv2 hb
    replace r2 := Row.keep r2 hb
    replace r7 := Row.keep r7 hb
    replace r8 := Row.keep r8 hb
    replace hs := Rd.below hs hb
    replace hf := Rd.below hf hb
    replace hg := Rd.below hg hb
    replace hu21 := Rd.below hu21 hb
    replace hv21 := Rd.below hv21 hb
    replace r21 := Row.keep r21 hb
    clear hb cP hs hu1 r7 r1
    have cT := rfsame_any _ _ _ _ (numR s N) (denR s N) (numR s N) (denR s N) x22 hu21 hv21 hu2 hv2
    rw [decide_eq_true ⟨rfl,rfl⟩] at cT
    replace cT := hide cT
    go_wp2_with (first | (refine wpList_load_row_if (by first | (go_simp;done) | rfl) 36 _ rfl _ rfl _ _ _ r21 Try.underlying36 rfl (by kernel_rfl) ?_) | (refine wpList_load_row_if (by first | (go_simp;done) | rfl) 36 _ rfl _ rfl _ _ _ r2 Try.underlying36 rfl (by kernel_rfl) ?_) | fail)
    refine cT.out.mono ?_
    rintro e x23 ⟨rfl,hb⟩
    replace bel := Bel.to bel hb
    replace r0 := r0.keep hb
    replace hu2 := Rd.below hu2 hb
    replace hv2 := Rd.below hv2 hb
    replace r2 := Row.keep r2 hb
    replace r8 := Row.keep r8 hb
    replace hf := Rd.below hf hb
    replace hg := Rd.below hg hb
    replace hu21 := Rd.below hu21 hb
    replace hv21 := Rd.below hv21 hb
    replace r21 := Row.keep r21 hb
    clear hb cT hu21 hv21 r21
    have cT := rfsame_any _ _ _ _ (numR s N) (denR s N) (numR s N) (denR s N) x23 hf hg hu2 hv2
    rw [decide_eq_true ⟨rfl,rfl⟩] at cT
    replace cT := hide cT
    go_wp2_with (first | (refine wpList_load_row_if (by first | (go_simp;done) | rfl) 36 _ rfl _ rfl _ _ _ r8 Try.underlying36 rfl (by kernel_rfl) ?_) | (refine wpList_load_row_if (by first | (go_simp;done) | rfl) 36 _ rfl _ rfl _ _ _ r2 Try.underlying36 rfl (by kernel_rfl) ?_) | fail)
    refine cT.out.mono ?_
    rintro e x24 ⟨rfl,hb⟩
    replace bel := Bel.to bel hb
    clear hb cT hf hg hu2 hv2 r8 r2
    go_wp2_with fail
    refine (cA.out _).mono ?_
    rintro e wz ⟨rfl,hz⟩
    go_wp2
    go_ret
    exact ⟨rfl,Bel.to bel hz⟩
end Go.Proofs.Ytldikghldcefcaa
end
section
namespace Go.Proofs.Ytldikghldcefcaa.oddsSum
open Go.ChangeShapes Go.WideShapes Go.ChangeAt Go.RowKit
set_option linter.unusedVariables false
theorem own : ownKnob Try.prog.godebug = none := by kernel_rfl
theorem laidOut : laidOutB Try.prog = true := by kernel_rfl
set_option maxRecDepth 100000 in
theorem lifted (os : Os) (started : os.Started) (H : Type) (enc : TypeId × Value → H) :
  ReturnsInHanded {} Try.checked os 4 .any (Rows.oddsSumSpec.pre6 enc Try.prog Try.f4 Rows.oddsSumRow.domain false) (Rows.oddsSumSpec.post enc Try.prog Try.f4 false true false false) := by
 refine returnsInHanded_of_change (C := Try.checked) own started (by kernel_rfl) Try.func4
  (ChangeSpec.witness6 (enc := enc) (C := Try.checked) false ⟨#[],#[.agg #[.string ⟨#[]⟩,.int .i64 0,.int .i64 0,.int .i64 0,.int .i64 0,.int .i64 0,.int .i64 0,.int .i64 0,.int .i64 0,.int .i64 0,.int .i64 0,.int .i64 0,.int .i64 0,.int .i64 0,.int .i64 0,.int .i64 0,.int .i64 0,.int .i64 0,.int .i64 0,.int .i64 0,.slice none 0 0,.slice none 0 0]],[]⟩ 8 (by kernel_rfl) (by kernel_rfl) (by kernel_rfl) (by kernel_rfl)) ?_
 intro W base args ds gs before hval0 hW hcnd _
 have hval : ∀ (j : Nat) t v,Try.f4.params[j]? = some t → args[j]? = some v → Value.okWide Try.prog W .any base t v := hval0
 have hW' := hW
 obtain ⟨p,q,hA0,hV,rfl,hfz,hnd⟩ := hW
 have hA : DataW.TrodAll enc Try.prog W 0 (fun _ => true) true Try.f4.params.toList args.toList ds p := hA0
 rw [Try.params4] at hA hval
 obtain ⟨v0,vs0,d0,ds0,p0,q0,hargs,rfl,rfl,h0,r0⟩ := trodAll_cons hA
 obtain ⟨rfl,rfl,rfl⟩ := trodAll_nil r0
 obtain rfl : args = #[v0] := by cases args;simp_all
 obtain ⟨rfl,rfl⟩ := trodVars_none hV
 obtain ⟨cs0,rfl,hsz0⟩ := okWide_struct Try.underlying25 (hval 0 25 v0 rfl rfl)
 have k0 := h0
 have lt0 : ∀ x ∈ p0,x.block < W.heap.size := by obtain ⟨m,hm⟩ := k0;exact DataW.trod_lt m _ _ _ hm
 obtain ⟨g0,av0,tv0,ms0,eg0,rg0⟩ := game_trod h0
 rw [eg0] at k0 hW' ⊢
 clear hA0 hval0
 refine (sum35_any g0 av0 tv0 ms0 W rg0).mono fun e W' ⟨he,bel⟩ => ?_
 subst he
 exact ⟨_,rfl,_,_,_,[],_,[],hW',trodAll_mk1 (shut_bool Try.underlying4 _),(trodAll_cons_mk (Below.trod laidOut (by kernel_rfl) (of_decide_eq_true (by kernel_rfl)) k0 bel lt0) trodAll_mk0),rfl,bel.frame _,fun h => by cases h⟩
theorem over : Rows.oddsSumRow.holds Try.pinned (OpenSpec.ofChange Rows.oddsSumSpec) :=
 OpenClaim.holds_of_wide 4 Try.f4 rfl rfl rfl rfl rfl rfl rfl ⟨rfl,rfl,rfl,rfl,rfl⟩ rfl rfl rfl rfl rfl (by kernel_rfl) Try.func4 (by kernel_rfl)
  (of_decide_eq_true (by kernel_rfl)) (by unfold Func.isWrapper;first | (rw [if_pos (by decide +kernel)];kernel_rfl) | (rw [if_neg (by decide +kernel)];exact ⟨rfl,rfl⟩))
  (fun os started H enc _ => lifted os started H enc)
theorem proved : Rows.OddsSumSaid := over
#print axioms proved
end Go.Proofs.Ytldikghldcefcaa.oddsSum
end

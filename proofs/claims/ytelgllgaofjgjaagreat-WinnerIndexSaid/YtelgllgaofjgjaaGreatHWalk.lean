/- Lemmas, merged out of smaller texts (wip/tools/mergedce.py). No condition. -/
import Derived.BigQuiet
import Derived.Test.YtelgllgaofjgjaaGreatHWinC
import Derived.Test.YtelgllgaofjgjaaGreatHTrodB
import Derived.Test.YtelgllgaofjgjaaGreatHIdxB
import Derived.Test.YtelgllgaofjgjaaGreatHIdxA
section
open Go.RowKit
set_option linter.unusedVariables false
set_option linter.unusedSimpArgs false
namespace Go.Proofs.YtelgllgaofjgjaaGreat
set_option maxHeartbeats 16000000 in
set_option maxRecDepth 100000 in
theorem index34_walk (g : GameD) (av tv : Value) (ms : List AddonM) (v : Value) (tm : List TickM) (nn : Int) (mv bv xv : Value) (r : ResD) (w : World) (rg : GameR w av tv ms g) (rt : TicketsR w v tm) (rd : ResR w mv bv xv r) (hin : InI nn) :
  Calls Tryz.prog 3 #[gameVal g av tv,v,drawVal nn mv bv xv r] w (BoolB true w) := by
 have cG := hide (fun X (hX : Below w.heap.size w X) => small25_any g av tv ms w X rg hX)
 have cF := hide (fun X (hX : Below w.heap.size w X) => few34_any v tm 6 w X rt hX (by decide))
 have cR := hide (fun X (hX : Below w.heap.size w X) => result34_any mv bv xv r w X rd hX)
 obtain ⟨aa,ac,rfl,-,-⟩ := rg.1.1.shape
 obtain ⟨ta,tc,rfl,-,-⟩ := rg.2.2.shape
 obtain ⟨ka,kc,rfl,-,-⟩ := rt.1.shape
 obtain ⟨ma,mc,rfl,-,-,-⟩ := rd.1.form
 obtain ⟨ba,bc,rfl,-,-,-⟩ := rd.2.1.form
 obtain ⟨xa,xc,rfl,-,-,-⟩ := rd.2.2.form
 obtain ⟨kn,hkn⟩ : ∃ n,n = tm.length := ⟨_,rfl⟩
 rw [← hkn] at cF ⊢
 clear rg rt rd hkn
 unfold gameVal at cG
 unfold resVal at cR
 unfold gameVal drawVal
 go_enter Tryz.func3,Tryz.ntmps3
 go_upto_region 1 with (fail)
 obtain ⟨W,hW⟩ : ∃ W,W = ((w.alloc (Obj.cells #[.string g.name,.int .i64 g.kind,.int .i64 g.price,.int .i64 g.main,.int .i64 g.of,.int .i64 g.bonus,.int .i64 g.bonusOf,.int .i64 g.extra,.int .i64 g.draws,.int .i64 g.system,.int .i64 g.days,.int .i64 g.at_,.int .i64 g.close,.int .i64 g.cancel,.int .i64 g.expiry,.int .i64 g.pool,.int .i64 g.reserve,.int .i64 g.round,.int .i64 g.cap,.int .i64 g.rolls,(.slice aa ms.length ac),(.slice ta g.tiers.length tc)] 25)).alloc (Obj.cells #[.int .i64 nn,.slice ma r.main.length mc,.slice ba r.bonus.length bc,.slice xa r.extra.length xc,.int .i64 r.factor,.string r.serial] 31)) := ⟨_,rfl⟩
 have bW : Below w.heap.size w W := by rw [hW];exact Bel.al (Bel.al (Below.refl _ _) _) _
 have r0 : GameAt W (w.heap.size) g ((.slice aa ms.length ac)) ((.slice ta g.tiers.length tc)) := by rw [hW];exact Row.alloc (Row.new _ _ _) _
 have r1 : Row W ((w.heap.size + 1)) 31 [.int .i64 nn,.slice ma r.main.length mc,.slice ba r.bonus.length bc,.slice xa r.extra.length xc,.int .i64 r.factor,.string r.serial] := by rw [hW];exact Row.at2 _ _ _ _
 have sW : w.heap.size + 1 < W.heap.size := by rw [hW];simp
 rw [← hW]
 clear hW
 go_wp2_with (first | (refine wpList_load_row rfl 25 _ rfl _ rfl _ _ _ _ r0 Tryz.underlying25 rfl (by kernel_rfl) ?_) | fail)
 refine (cG.out _ bW).mono ?_
 rintro e w1 ⟨g1,av1,tv1,ms1,rfl,K1,hgt,hb1⟩
 obtain ⟨aa1,ac1,rfl,-,-⟩ := (K1.now hb1 bW).1.1.shape
 obtain ⟨ta1,tc1,rfl,-,-⟩ := (K1.now hb1 bW).2.2.shape
 have B1 := Bel.to bW hb1
 go_wp2_with fail
 refine (cF.out _ B1).mono ?_
 rintro e w2 ⟨u2,tm1,rfl,K2,htm,hb2⟩
 obtain ⟨ka1,kc1,rfl,-,-⟩ := (K2.now hb2 B1).1.shape
 have B2 := Bel.to B1 hb2
 have q0 := Row.keep (Row.keep r0 hb1) hb2
 have q1 := Row.keep (Row.keep r1 hb1) hb2
 go_upto_region 2 with (first | ((with_reducible refine wpList_store_game rfl _ _ rfl w.heap.size g1 _ _ rfl rfl ⟨_,_,_,rfl⟩ ⟨_,_,_,rfl⟩ _ q0 ?_ ?_);(rfl);intro A rA gA) | fail)
 have bA : Below w.heap.size w A := B2.grown gA B2.size (fun q hq => by injection hq with hq;omega)
 have HG : ∀ X,Below A.heap.size A X → GameR X (.slice aa1 ms1.length ac1) (.slice ta1 g1.tiers.length tc1) ms1 g1 := fun X hX =>
  K1 X (Bel.to bA hX) (((SameR.refl W.heap.size w1).keep hb2 |>.then gA (fun q hq => by injection hq with hq;omega)).keep hX)
 have HT : ∀ X,Below A.heap.size A X → TicketsR X (.slice ka1 tm1.length kc1) tm1 := fun X hX =>
  K2 X (Bel.to bA hX) (((SameR.refl w1.heap.size w2).then gA (fun q hq => by injection hq with hq;have := hb1.size;omega)).keep hX)
 have rD := Row.grown q1 gA (by simp)
 clear K1 K2 q0 q1 r0 r1 gA hb1 hb2 B1 B2 bW cG cF
 have hrD : A.rangeAt (w.heap.size + 1) 1 [.slice ma r.main.length mc,.slice ba r.bonus.length bc,.slice xa r.extra.length xc,.int .i64 r.factor,.string r.serial] := by
  intro j u hu
  have h9 : ([.int .i64 nn,.slice ma r.main.length mc,.slice ba r.bonus.length bc,.slice xa r.extra.length xc,.int .i64 r.factor,.string r.serial] : List Value)[1 + j]? = some u := by rw [Nat.add_comm,List.getElem?_cons_succ];exact hu
  rw [rD.cell?]
  exact h9
 go_wp2_with (first | (refine wpList_load_mid rfl 29 _ rfl (w.heap.size + 1) 1 rfl [.slice ma r.main.length mc,.slice ba r.bonus.length bc,.slice xa r.extra.length xc,.int .i64 r.factor,.string r.serial] _ hrD Tryz.underlying29 rfl (by kernel_rfl) ?_) | fail)
 refine (cR.out _ bA).mono ?_
 rintro e w3 ⟨mv1,bv1,xv1,r2,rfl,K3,hs20,hb3⟩
 have B3 := Bel.to bA hb3
 obtain ⟨ma1,mc1,rfl,-,-,-⟩ := (K3 w3 B3).1.form
 obtain ⟨ba1,bc1,rfl,-,-,-⟩ := (K3 w3 B3).2.1.form
 obtain ⟨xa1,xc1,rfl,-,-,-⟩ := (K3 w3 B3).2.2.form
 unfold resVal
 have hthere := hide (show (w3.alloc (.cells #[.slice none 0 0,.slice none 0 0,.slice none 0 0,.int .i64 0,.string ⟨#[]⟩] 29)).there w3.heap.size 0 5 from Row.there (Row.newOf (cs := [.slice none 0 0,.slice none 0 0,.slice none 0 0,.int .i64 0,.string ⟨#[]⟩]) _ rfl))
 go_upto_region 3 with (first | (refine wpList_store_mid rfl 29 _ _ rfl w3.heap.size 0 _ rfl rfl hthere.out (by kernel_rfl) (by rfl) ?_) | fail)
 obtain ⟨Z,hZ⟩ : ∃ Z,Z = w3.alloc (.cells #[.slice ma1 r2.main.length mc1,.slice ba1 r2.bonus.length bc1,.slice xa1 r2.extra.length xc1,.int .i64 r2.factor,.string r2.serial] 29) := ⟨_,rfl⟩
 have bZ : Below w3.heap.size w3 Z := by rw [hZ];exact Bel.al (Below.refl _ _) _
 have rR : Row Z w3.heap.size 29 [.slice ma1 r2.main.length mc1,.slice ba1 r2.bonus.length bc1,.slice xa1 r2.extra.length xc1,.int .i64 r2.factor,.string r2.serial] := by rw [hZ];exact Row.newOf _ rfl
 rw [← hZ]
 have bAZ := Bel.to hb3 bZ
 have rA := Row.keep rA bAZ
 have rD := Row.keep rD bAZ
 have BZ := Bel.to bA bAZ
 have HR : ∀ X,Below Z.heap.size Z X → ResR X (.slice ma1 r2.main.length mc1) (.slice ba1 r2.bonus.length bc1) (.slice xa1 r2.extra.length xc1) r2 := fun X hX => K3 X (Bel.to BZ hX)
 have HG2 : ∀ X,Below Z.heap.size Z X → GameR X (.slice aa1 ms1.length ac1) (.slice ta1 g1.tiers.length tc1) ms1 g1 := fun X hX => HG X (Bel.to bAZ hX)
 have HT2 : ∀ X,Below Z.heap.size Z X → TicketsR X (.slice ka1 tm1.length kc1) tm1 := fun X hX => HT X (Bel.to bAZ hX)
 obtain ⟨rb,hrb⟩ : ∃ rb,rb = w3.heap.size := ⟨_,rfl⟩
 rw [← hrb] at rR ⊢
 obtain ⟨tn1,htn1⟩ : ∃ n,n = tm1.length := ⟨_,rfl⟩
 rw [← htn1] at HT2 ⊢
 have hgE : True := trivial
 clear hZ bZ bAZ hb3 bA hthere hrD HG HT K3 hrb cR
 have xD : Z.cell? ⟨w.heap.size + 1,0,none⟩ = some (.int .i64 nn) := (rD.cell? 0).trans rfl
 have cW := fun (ts : Value) (tl : List TickM) (X : World) (hX : Below Z.heap.size Z X) (ht : TicketsR X ts tl) (hn : tl.length ≤ 900) => wins_any g1 _ _ ts _ _ _ ms1 tl nn r2 X (HG2 X hX) ht (HR X hX) (by omega) hin hn
 have cW1 := cW _ tm1 Z (Below.refl _ _) (HT2 Z (Below.refl _ _)) (by omega)
 obtain ⟨ts,hts⟩ : ∃ ts,ts = tm1.map (·.d) := ⟨_,rfl⟩
 rw [← hts] at cW1
 replace hts := hide hts
 replace htn1 := hide htn1
 replace HR := hide HR
 replace HG2 := hide HG2
 replace HT2 := hide HT2
 unfold gameVal resVal at cW1 cW
 replace cW := hide cW
 replace cW1 := hide cW1
 go_wp2_with (first | (refine wpList_load_row rfl 25 _ rfl _ rfl _ _ _ _ rA Tryz.underlying25 rfl (by kernel_rfl) ?_) | (refine wpList_load_row rfl 29 _ rfl _ rfl _ _ _ _ rR Tryz.underlying29 rfl (by kernel_rfl) ?_) | fail)
 refine (cW1.out).mono ?_
 rintro e w4 ⟨v4,rfl,hoW,hb4⟩
 have B4 := Bel.to BZ hb4
 have rA4 := Row.keep rA hb4
 have rR4 := Row.keep rR hb4
 have rD4 := Row.keep rD hb4
 obtain ⟨P,hP⟩ : ∃ P,P = winsP g1 ts nn r2 := ⟨_,rfl⟩
 rw [← hP] at hoW ⊢
 have hPo := fun h => winsP_ok (g := g1) (ts := ts) (draw := nn) (r := r2) h
 have hPf := fun h => winsP_facts (g := g1) (ts := ts) (draw := nn) (r := r2) h
 rw [← hP] at hPo hPf
 obtain ⟨E0,c⟩ := P
 simp only [] at hoW hPo hPf ⊢
 have rE0 := hide (fun X (hX : Below w4.heap.size w4 X) => RdS.below (OwnWin.rd hoW) hX)
 obtain ⟨ea0,ec0,rfl⟩ := OwnS.shape hoW
 have htsl : ts.length = tn1 := by rw [hts.out,List.length_map,htn1.out]
 clear rA rR rD xD hoW hP
 by_cases hc : c = 0
 rotate_left
 ·have hcb : (c != 0) = true := by simpa using hc
  replace hc := hide hc
  clear hPo hPf
  go_wp2_with fail
  refine (works34_any _).mono ?_
  rintro e w99 ⟨rfl,hb99⟩
  go_wp2
  go_ret
  exact ⟨rfl,Bel.to (B4) hb99⟩
 subst hc
 obtain ⟨-,-,hE0⟩ := hPo rfl
 injection hE0 with hE0 _
 obtain ⟨hg0,hre,hbok⟩ := hPf rfl
 have ht8 : tn1 ≤ 6 := by have := htn1.out;omega
 have cE := hide (fun X (hX : Below w4.heap.size w4 X) => eligible_any _ tm1 g1.name nn X (HT2.out X (Bel.to hb4 hX)) hin (by have := htn1.out;omega))
 rw [← hts.out] at cE
 obtain ⟨el,hel⟩ : ∃ el,el = eligT ts g1.name nn := ⟨_,rfl⟩
 have hep : eligP ts g1.name nn = el.map fun p => (p.1 : Int) := by rw [hel];rfl
 have helat : ∀ k (hk : k < el.length),∃ hk2 : el[k].1 < ts.length,ts[el[k].1] = el[k].2 := by intro k hk;subst hel;exact eligT_at hk
 have hell : el.length ≤ 6 := by have := eligT_len ts g1.name nn;rw [← hel] at this;omega
 have hrise : el.Pairwise fun a b => a.1 < b.1 := by rw [hel];exact eligGo_rise _ _ _
 rw [hep] at cE
 rw [← hel] at hbok hE0
 have hval : ∀ p ∈ el,∀ x ∈ linesB g1 p.2.bet,lineE g1 x.1 x.2 = 0 := fun p hp x hx => (linesB_valid (hbok p hp) x hx).1
 have hlenB : ∀ p ∈ el,(linesB g1 p.2.bet).length ≤ 1024 := fun p hp => linesB_len (hbok p hp)
 have hAdd := hide (fun (k : Nat) (hk : k < el.length) (q : Nat) (hq : q = el[k].1) (T : List LineD) (hT : T = linesB g1 el[k].2.bet) (j : Nat) (hj : j < T.length) => esI_addT hrise hval hk hq hT hj)
 have hEl := hide (fun (k : Nat) (hk : k < el.length) (q : Nat) (hq : q = el[k].1) (T : List LineD) (hT : T = linesB g1 el[k].2.bet) (j : Nat) => Nat.le_trans (esI_lenT hlenB hk hq hT j) (Nat.mul_le_mul_right 1024 hell))
 have hFull := hide (fun (k : Nat) (hk : k < el.length) (q : Nat) (hq : q = el[k].1) (T : List LineD) (hT : T = linesB g1 el[k].2.bet) => esI_fullT g1 hk hq hT)
 have hPl := hide (Nat.le_trans (preI_len hlenB) (Nat.mul_le_mul_right 1024 hell))
 have hix := (index_wins (g := g1) (r := r2) hrise (List.reverse_perm el) hval).2
 rw [← hE0] at hix
 have hwQ : Hid (winsQ g1 r2 (preI g1 el 0) = E0) := by show _ = _;unfold winsQ;rw [if_neg (by simpa using hre),preI_zero];exact hix
 have hcQ : Hid (cntQ g1 r2 (preI g1 el 0) = cntGo g1.tiers.length E0) := by show _ = _;unfold cntQ;rw [if_neg (by simpa using hre),preI_zero,hix]
 have hE0l : E0.length ≤ 6 * 1024 := by rw [hE0];have h9 := winsF_len (r := r2) hbok;omega
 have htl := hide (game_tiers hg0)
 obtain ⟨m0,hm0⟩ : ∃ m,m = E0.length := ⟨_,rfl⟩
 have hm8 : (m0 : Int) ≤ 6144 := by omega
 rw [← hm0] at rE0 ⊢
 obtain ⟨n,hnn⟩ : ∃ n,n = el.length := ⟨_,rfl⟩
 have hn6 : (n : Int) ≤ 6 := by omega
 have hreh := hide hre
 have hbokh := hide hbok
 have helath := hide helat
 have hnnh := hide hnn
 have hrT4 := hide (fun X (hX : Below w4.heap.size w4 X) => HT2.out X (Bel.to hb4 hX))
 have hrG4 := hide (fun X (hX : Below w4.heap.size w4 X) => HG2.out X (Bel.to hb4 hX))
 have hrR4 := hide (fun X (hX : Below w4.heap.size w4 X) => HR.out X (Bel.to hb4 hX))
 have hrA4 := hide (fun X (hX : Below w4.heap.size w4 X) => show Row X w.heap.size 25 (gameCells g1 (.slice aa1 ms1.length ac1) (.slice ta1 g1.tiers.length tc1)) from Row.keep rA4 hX)
 have hrRR4 := hide (fun X (hX : Below w4.heap.size w4 X) => show Row X rb 29 [.slice ma1 r2.main.length mc1,.slice ba1 r2.bonus.length bc1,.slice xa1 r2.extra.length xc1,.int .i64 r2.factor,.string r2.serial] from Row.keep rR4 hX)
 have hrD4 := hide (fun X (hX : Below w4.heap.size w4 X) => show X.cell? ⟨w.heap.size + 1,0,none⟩ = some (.int .i64 nn) from Bel.cellOf hX ((rD4.cell? 0).trans rfl))
 have htslh := hide htsl
 have hs20h := hide hs20
 have B4h := hide B4
 have cN := hide (inew_ok g1 _ _ ms1 w4 (hrG4.out w4 (Below.refl _ _)) hg0)
 have hg0h := hide hg0
 unfold gameVal at cN
 clear hPo hPf hE0 hE0l hm0 hre hbok helat hnn hell hel hep htsl hrise hval hlenB hix hg0 B4
 go_wp2_with (first | (refine wpList_load_row rfl 25 _ rfl _ rfl _ _ _ _ rA4 Tryz.underlying25 rfl (by kernel_rfl) ?_) | fail)
 refine cN.out.mono ?_
 intro e w5 hN
 obtain ⟨ib,col,rfl,hI5,-,-⟩ := NewO.idxB (w := w4) hg0h.out (Below.refl _ _) hN
 have b5 := hide hI5.bel
 have c0 : w5.cell? ⟨w.heap.size,0,none⟩ = some (.string g1.name) := ((hrA4.out w5 b5.out).cell? 0).trans rfl
 have xD5 := hrD4.out w5 b5.out
 have cE5 := hide (cE.out w5 b5.out)
 replace hI5 := hide hI5
 clear hN cN cE rA4 rR4 rD4
 go_wp2_with fail
 refine cE5.out.mono ?_
 rintro e w6 ⟨u0,rfl,hoE,hb6⟩
 have hHW : Hold col 6 w6 fun X => Rd I64 X u0 (el.map fun p => (p.1 : Int)) := hoE.rd.hold hoE.fr fun k h1 _ => hI5.out.new6 k h1
 have hI6 := hide (hI5.out.below hb6)
 obtain ⟨la,lc,rfl,-,-,-⟩ := hoE.rd.form
 rw [show (el.map fun p => (p.1 : Int)).length = n by rw [List.length_map];exact hnnh.out.symm] at hHW ⊢
 obtain ⟨PW,hPW⟩ : ∃ P : World → Prop,P = fun X => Rd I64 X (.slice la n lc) (el.map fun p => (p.1 : Int)) := ⟨_,rfl⟩
 rw [← hPW] at hHW
 replace hHW := hide hHW
 replace hPW := hide hPW
 have hIe : Hid (preI g1 el n = []) := by show _ = _;rw [hnnh.out];exact preI_end _ _
 rw [← hIe.out] at hI6
 clear hoE hb6 cE5 c0 xD5 hI5 b5
 go_wp2
 go_loopg [13] n (fun gh t13 wr => ∃ (k : Nat) (y : Int) (col : Nat → Nat),gh = k ∧ k ≤ n ∧ t13 = .int .i64 y ∧ Hid (y = (k : Int) - 1) ∧ Hid (IdxB w4 wr col ib g1 (preI g1 el k)) ∧ Hid (Hold col 6 wr PW))
 case atStart => exact ⟨n,(n : Int) - 1,col,rfl,Nat.le_refl _,by first | rfl | go_num,rfl,hI6,hHW⟩
 case round =>
  clear hI6 hHW col
  obtain ⟨k,y,col,hgh,hk,rfl,hy,hI,hHW⟩ := hrel
  replace hgh := hide hgh
  have b4w := hI.out.bel
  cases k with
  | succ j =>
   have hyj : y = (j : Int) := by have := hy.out;omega
   subst hyj
   have R0 := hrA4.out wr b4w
   have hke : j < el.length := by rw [← hnnh.out];omega
   obtain ⟨b0,off0,hla,hb0,hcell⟩ := (show Rd I64 wr (.slice la n lc) (el.map fun p => (p.1 : Int)) by have h := hHW.out.now;rw [hPW.out] at h;exact h).at_ (k := j) (by rw [List.length_map];exact hke)
   subst hla
   obtain ⟨q,hq⟩ : ∃ q,q = el[j].1 := ⟨_,rfl⟩
   have e1 : wr.cell? ⟨b0,off0 + j,none⟩ = some (.int .i64 (q : Int)) := by rw [hcell j (by rw [List.length_map];exact hke),hq,List.getElem_map]
   have hPWc : Hid (∀ X,PW X → X.cell? ⟨b0,off0 + j,none⟩ = some (.int .i64 (q : Int))) := fun X hX => by
    rw [hPW.out] at hX
    obtain ⟨b',off',e,-,hc⟩ := Rd.at_ hX (k := j) (by rw [List.length_map];exact hke)
    injection e with e
    injection e with e1 e2
    subst e1 e2
    rw [hc j (by rw [List.length_map];exact hke),hq,List.getElem_map]
   obtain ⟨hq2,hq3⟩ := helath.out j hke
   have hqN : q < tn1 := by rw [← htslh.out,hq];exact hq2
   have hq4 : q < tm1.length := by rw [← htn1.out];exact hqN
   obtain ⟨m,hm⟩ : ∃ m,m = tm1[q] := ⟨_,rfl⟩
   have hmd : m.d = el[j].2 := by
    have h9 : ts[q]? = some m.d := by rw [hts.out,List.getElem?_map,List.getElem?_eq_getElem hq4,← hm];rfl
    have h8 : ts[q]? = some el[j].2 := by rw [← hq3,hq,List.getElem?_eq_getElem hq2]
    rw [h9] at h8
    injection h8
   have hTk := hrT4.out wr b4w
   obtain ⟨b1,off1,rfl,hb1,hcl⟩ := hTk.1.at_ hq4
   have hmi : tm1[q]? = some m := by rw [hm];exact List.getElem?_eq_getElem hq4
   have hcl2 := hcl q m hmi
   have hlr := (hTk.2 m (by rw [hm];exact List.getElem_mem hq4)).1
   clear hcell hcl hTk hmi hm hq3 hb0 hb1
   obtain ⟨⟨t1,t2,Bt,t3,t4,t5,t6,t7,t8,t9,t10⟩,lv⟩ := m
   simp only [] at hmd hlr hcl2
   obtain ⟨sa,sc,rfl,hsl1,hsl2⟩ := hlr.shape
   obtain ⟨sn,hsn⟩ : ∃ sn,sn = Bt.lines.length := ⟨_,rfl⟩
   rw [← hsn] at hlr hcl2
   have hrange : wr.rangeAt b1 (off1 + q * 14 + 2) [.slice sa sn sc,.bool Bt.sys,.int .i64 Bt.draws,.int .i64 Bt.addons] := by
    intro j u hu
    match j,hu with
    | 0,hu => exact hcl2 2 u hu
    | 1,hu => exact hcl2 3 u hu
    | 2,hu => exact hcl2 4 u hu
    | 3,hu => exact hcl2 5 u hu
   have hbet : el[j].2.bet = Bt := by rw [← hmd]
   have hbk : (betP g1 Bt).2 = 0 := by rw [← hbet];exact hbokh.out _ (List.getElem_mem hke)
   clear hcl2 hsl1 hsl2
   have j1 : (0 : Int) ≤ (j : Int) := by omega
   have j2 : (j : Int) < (n : Int) := by omega
   have j3 : (0 : Int) ≤ (q : Int) := by omega
   have j4 : (q : Int) < (tn1 : Int) := by omega
   have bd : Below wr.heap.size wr wr.drew := Below.drewSelf wr
   have cL1 := hide (blines_ok g1 _ _ (.slice sa sn sc) ms1 Bt wr.drew (hrG4.out wr.drew (b4w.trans (bd.mono b4w.size))) (hlr.below bd) hbk)
   unfold gameVal betVal at cL1
   have hTlen := linesB_len hbk
   obtain ⟨T,hT⟩ : ∃ T,T = linesB g1 Bt := ⟨_,rfl⟩
   rw [← hT] at cL1 hTlen
   have hTe : T = linesB g1 el[j].2.bet := by rw [hT,hbet]
   have hAdd2 := hide (fun l hl => hAdd.out j hke q hq T hTe l hl)
   have hEl2 := hide (fun l => hEl.out j hke q hq T hTe l)
   have hFull2 := hide (hFull.out j hke q hq T hTe)
   have hIz : Hid (esI g1 el j (q : Int) T 0 = preI g1 el (j + 1)) := esI_zero _ _ _ _ _
   have hq6 : q ≤ 100 := by omega
   replace hq := hide hq
   replace hsn := hide hsn
   have hTlen2 := hide hTlen
   clear hq2 hq4 hmd hbet hbk hT hTe hlr hTlen
   go_upto_region 13 with (fail)
   refine wp_region_held_drew (S := fun X => Rng X [(w.heap.size,gameCells g1 (.slice aa1 ms1.length ac1) (.slice ta1 g1.tiers.length tc1))] ∧ X.rangeAt b1 (off1 + q * 14 + 2) [.slice sa sn sc,.bool Bt.sys,.int .i64 Bt.draws,.int .i64 Bt.addons] ∧ X.cell? ⟨b0,off0 + j,none⟩ = some (.int .i64 (q : Int))) (by kernel_rfl) (⟨Rng.drew (Rng.cons R0 (Rng.nil _)),hrange,e1⟩) (fun hHeld => ?_)
   refine' wpAnyH_take (i := 0) (oi := _) (v := _) rfl (by kernel_rfl) (by kernel_rfl) (by kernel_rfl) (fun _ _ _ h => h) (yieldsIf_load_mid (by first | (go_simp;done) | rfl) 25 (.tmp 3) rfl (w.heap.size) (0) rfl (gameCells g1 (.slice aa1 ms1.length ac1) (.slice ta1 g1.tiers.length tc1)) _ (fun X h => Rng.at0 h.1) Tryz.underlying25 rfl (by kernel_rfl)) hHeld ?_
   try simp only [Act.put,zsA,zsB,zsC]
   refine' wpAnyH_take (i := 1) (oi := _) (v := .slice (some ⟨b1,off1,none⟩) tn1 kc1) rfl (by kernel_rfl) (by kernel_rfl) (by kernel_rfl) (fun _ _ _ h => h) (Or.inl ⟨by first | (go_simp;done) | rfl,fun X _ => by go_simp⟩) hHeld ?_
   try simp only [Act.put,zsA,zsB,zsC]
   refine' wpAnyH_take (i := 2) (oi := _) (v := .slice (some ⟨b0,off0,none⟩) n lc) rfl (by kernel_rfl) (by kernel_rfl) (by kernel_rfl) (fun _ _ _ h => h) (Or.inl ⟨by first | (go_simp;done) | rfl,fun X _ => by go_simp⟩) hHeld ?_
   try simp only [Act.put,zsA,zsB,zsC]
   refine' wpAnyH_take (i := 3) (oi := _) (v := .int .i64 (j : Int)) rfl (by kernel_rfl) (by kernel_rfl) (by kernel_rfl) (fun _ _ _ h => h) (Or.inl ⟨by first | (go_simp;done) | rfl,fun X _ => by go_simp⟩) hHeld ?_
   try simp only [Act.put,zsA,zsB,zsC]
   refine' wpAnyH_take (i := 4) (oi := _) (v := .pointer (some ⟨b0,off0 + j,none⟩)) rfl (by kernel_rfl) (by kernel_rfl) (by kernel_rfl) (fun _ _ _ h => h) (Or.inl ⟨by first | (go_simp;done) | rfl,fun X _ => by go_simp⟩) hHeld ?_
   try simp only [Act.put,zsA,zsB,zsC]
   refine' wpAnyH_take (i := 5) (oi := _) (v := .int .i64 (q : Int)) rfl (by kernel_rfl) (by kernel_rfl) (by kernel_rfl) (fun _ _ _ h => h) (Or.inl ⟨by first | (go_simp;done) | rfl,fun X hX => by have h0 := hX.2.2;go_simp⟩) hHeld ?_
   try simp only [Act.put,zsA,zsB,zsC]
   refine' wpAnyH_take (i := 6) (oi := _) (v := .pointer (some ⟨b1,off1 + q * 14,none⟩)) rfl (by kernel_rfl) (by kernel_rfl) (by kernel_rfl) (fun _ _ _ h => h) (Or.inl ⟨by first | (go_simp;done) | rfl,fun X _ => by go_simp⟩) hHeld ?_
   try simp only [Act.put,zsA,zsB,zsC]
   refine' wpAnyH_take (i := 7) (oi := _) (v := .pointer (some ⟨b1,off1 + q * 14 + 2,none⟩)) rfl (by kernel_rfl) (by kernel_rfl) (by kernel_rfl) (fun _ _ _ h => h) (Or.inl ⟨by first | (go_simp;done) | rfl,fun X _ => by go_simp⟩) hHeld ?_
   try simp only [Act.put,zsA,zsB,zsC]
   refine' wpAnyH_take (i := 8) (oi := _) (v := .agg #[.slice sa sn sc,.bool Bt.sys,.int .i64 Bt.draws,.int .i64 Bt.addons]) rfl (by kernel_rfl) (by kernel_rfl) (by kernel_rfl) (fun _ _ _ h => h) (by refine (yieldsIf_load_mid ?_ 48 (.tmp 74) rfl b1 (off1 + q * 14 + 2) ?_ ([.slice sa sn sc,.bool Bt.sys,.int .i64 Bt.draws,.int .i64 Bt.addons]) _ (fun X h => h.2.1) Tryz.underlying48 rfl (by kernel_rfl)) <;> go_simp) hHeld ?_
   try simp only [Act.put,zsA,zsB,zsC]
   refine wpAnyH_ready (rs := [9]) (by kernel_rfl) (by simp) ?_
   refine AllReadyH.cons (o := _) rfl (fun K hK => ?_) AllReadyH.nil
   go_simp
   refine (cL1.out).mono ?_
   rintro e w6 ⟨u,rfl,hu,hb6⟩
   obtain ⟨ua,uc,rfl⟩ := hu.shape
   go_wp2_with fail
   refine hK.out _ _ (⟨Rng.keep hHeld.1 hb6,fun j u hu => Bel.cellOf hb6 (hHeld.2.1 j u hu),Bel.cellOf hb6 hHeld.2.2⟩) (fun hHeld => ?_)
   clear hK K
   try simp only [Act.put,zsA,zsB,zsC]
   refine' wpAnyH_take (i := 10) (oi := _) (v := .tuple #[.slice ua T.length uc,.int .i64 0]) rfl (by kernel_rfl) (by kernel_rfl) (by kernel_rfl) (fun _ _ _ h => h) (Or.inl ⟨by first | (go_simp;done) | rfl,fun X _ => by go_simp⟩) hHeld ?_
   try simp only [Act.put,zsA,zsB,zsC]
   refine' wpAnyH_take (i := 11) (oi := _) (v := .slice ua T.length uc) rfl (by kernel_rfl) (by kernel_rfl) (by kernel_rfl) (fun _ _ _ h => h) (Or.inl ⟨by first | (go_simp;done) | rfl,fun X _ => by go_simp⟩) hHeld ?_
   try simp only [Act.put,zsA,zsB,zsC]
   refine' wpAnyH_take (i := 12) (oi := _) (v := .int .i64 0) rfl (by kernel_rfl) (by kernel_rfl) (by kernel_rfl) (fun _ _ _ h => h) (Or.inl ⟨by first | (go_simp;done) | rfl,fun X _ => by go_simp⟩) hHeld ?_
   try simp only [Act.put,zsA,zsB,zsC]
   refine' wpAnyH_take (i := 13) (oi := _) (v := .slice ua T.length uc) rfl (by kernel_rfl) (by kernel_rfl) (by kernel_rfl) (fun _ _ _ h => h) (Or.inl ⟨by first | (go_simp;done) | rfl,fun X _ => by go_simp⟩) hHeld ?_
   try simp only [Act.put,zsA,zsB,zsC]
   refine' wpAnyH_take (i := 14) (oi := _) (v := .int .i64 0) rfl (by kernel_rfl) (by kernel_rfl) (by kernel_rfl) (fun _ _ _ h => h) (Or.inl ⟨by first | (go_simp;done) | rfl,fun X _ => by go_simp⟩) hHeld ?_
   try simp only [Act.put,zsA,zsB,zsC]
   refine wpAnyH_done (by kernel_rfl) ?_ _
   go_simp
   clear hHeld
   have hI6 := (hI.out.below bd).below hb6
   have hHW6 := hide ((hHW.out.below bd).below hb6)
   obtain ⟨vs,hvl,hHL⟩ := OwnLn.holdV (col := col) (c := 6) hu fun k h1 _ => hI.out.new6 k h1
   obtain ⟨M,hM⟩ : ∃ M,M = T.length := ⟨_,rfl⟩
   rw [← hM] at hHL ⊢
   have hMh := hide hM
   have hM9 : (M : Int) ≤ 1024 := by have := hTlen2.out;omega
   obtain ⟨PL,hPL⟩ : ∃ P : World → Prop,P = fun X => RdS 2 LnV X (.slice ua M uc) vs ∧ EachR X vs T := ⟨_,rfl⟩
   rw [← hPL] at hHL
   replace hHL := hide hHL
   replace hPL := hide hPL
   replace hvl := hide hvl
   rw [← hIz.out] at hI6
   replace hI6 := hide hI6
   clear hu cL1 hb6 bd hrange e1 R0 hI hHW b4w hM
   go_wp2
   go_loopg [83] M (fun gh2 t83 wr => ∃ (l : Nat) (col : Nat → Nat),gh2 = M - l ∧ l ≤ M ∧ t83 = .int .i64 (l : Int) ∧ Hid (IdxB w4 wr col ib g1 (esI g1 el j (q : Int) T l)) ∧ Hid (Hold col 6 wr PW) ∧ Hid (Hold col 6 wr PL))
   case atStart => exact ⟨0,col,rfl,Nat.zero_le _,rfl,hI6,hHW6,hHL⟩
   case round =>
    clear hI6 hHW6 hHL col
    obtain ⟨l,col,hgh2,hl,rfl,hI,hHW,hHL⟩ := hrel
    replace hgh2 := hide hgh2
    by_cases hll : l < M
    ·have hll2 := hide hll
     have hlT : l < T.length := by rw [← hMh.out];exact hll
     have hlv : l < vs.length := by rw [hvl.out];exact hlT
     obtain ⟨b2,off2,hua,-,-⟩ := RdS.at_ (show RdS 2 LnV wr (.slice ua M uc) vs by have h := hHL.out.now;rw [hPL.out] at h;exact h.1) hlv
     subst hua
     obtain ⟨x,hx⟩ : ∃ x,x = T[l] := ⟨_,rfl⟩
     obtain ⟨p,hp⟩ : ∃ p,p = vs[l] := ⟨_,rfl⟩
     have hxi : T[l]? = some x := by rw [hx];exact List.getElem?_eq_getElem hlT
     have hpi : vs[l]? = some p := by rw [hp];exact List.getElem?_eq_getElem hlv
     obtain ⟨ha,hpt⟩ := hAdd2.out l hlT
     rw [← hx] at ha hpt
     have hlr : LineR wr p.1 p.2 x.1 x.2 := by have h := hHL.out.now;rw [hPL.out] at h;exact h.2 l p x hpi hxi
     obtain ⟨p1,p2⟩ := p
     obtain ⟨s1,m1,k1,rfl⟩ := Rd.shape hlr.1
     obtain ⟨s2,m2,k2,rfl⟩ := Rd.shape hlr.2
     have hPLc : Hid (∀ X,PL X → X.rangeAt b2 (off2 + l * 2) [.slice s1 m1 k1,.slice s2 m2 k2] ∧ LineR X (.slice s1 m1 k1) (.slice s2 m2 k2) x.1 x.2) := fun X hX => by
      rw [hPL.out] at hX
      obtain ⟨b',off',e,-,hc⟩ := RdS.at_ hX.1 hlv
      injection e with e
      injection e with e1 e2
      subst e1 e2
      exact ⟨fun i u hu => hc l _ hpi i u hu,hX.2 l _ x hpi hxi⟩
     have bd : Below wr.heap.size wr wr.drew := Below.drewSelf wr
     have hHLd := hide (hHL.out.below bd)
     have hHWd := hide (hHW.out.below bd)
     have hlen := hEl2.out l
     have cAd := iadd_any (d := (⟨(q : Int),(l : Int),x⟩ : EntD)) (hI.out.below bd) (fun Y hY => (hPLc.out Y (hHLd.out Y (hY.mono fun k _ hk e => by unfold Mine at hk;omega))).2) (by omega) (by show (q : Int) ≤ _;omega) (by show (l : Int) ≤ _;omega)
     rw [ha,hpt] at cAd
     simp only [] at cAd
     unfold lineVal at cAd
     replace cAd := hide cAd
     have i1 : (0 : Int) ≤ (l : Int) := by omega
     have i2 : (l : Int) < (M : Int) := by omega
     clear hx hp hxi hpi hlr hlv hlT hll ha hpt hlen hI hHW hHL bd
     go_upto_region 19 with (fail)
     refine wp_region_held_drew (S := fun X => X.rangeAt b2 (off2 + l * 2) [.slice s1 m1 k1,.slice s2 m2 k2] ∧ X.cell? ⟨b0,off0 + j,none⟩ = some (.int .i64 (q : Int))) (by kernel_rfl) (⟨(hPLc.out _ hHLd.out.now).1,hPWc.out _ hHWd.out.now⟩) (fun hHeld => ?_)
     refine' wpAnyH_take (i := 0) (oi := _) (v := .pointer (some ⟨ib,0,none⟩)) rfl (by kernel_rfl) (by kernel_rfl) (by kernel_rfl) (fun _ _ _ h => h) (Or.inl ⟨by first | (go_simp;done) | rfl,fun X _ => by go_simp⟩) hHeld ?_
     try simp only [Act.put,zsA,zsB,zsC]
     refine' wpAnyH_take (i := 1) (oi := _) (v := .slice (some ⟨b0,off0,none⟩) n lc) rfl (by kernel_rfl) (by kernel_rfl) (by kernel_rfl) (fun _ _ _ h => h) (Or.inl ⟨by first | (go_simp;done) | rfl,fun X _ => by go_simp⟩) hHeld ?_
     try simp only [Act.put,zsA,zsB,zsC]
     refine' wpAnyH_take (i := 2) (oi := _) (v := .int .i64 (j : Int)) rfl (by kernel_rfl) (by kernel_rfl) (by kernel_rfl) (fun _ _ _ h => h) (Or.inl ⟨by first | (go_simp;done) | rfl,fun X _ => by go_simp⟩) hHeld ?_
     try simp only [Act.put,zsA,zsB,zsC]
     refine' wpAnyH_take (i := 3) (oi := _) (v := .pointer (some ⟨b0,off0 + j,none⟩)) rfl (by kernel_rfl) (by kernel_rfl) (by kernel_rfl) (fun _ _ _ h => h) (Or.inl ⟨by first | (go_simp;done) | rfl,fun X _ => by go_simp⟩) hHeld ?_
     try simp only [Act.put,zsA,zsB,zsC]
     refine' wpAnyH_take (i := 4) (oi := _) (v := .int .i64 (q : Int)) rfl (by kernel_rfl) (by kernel_rfl) (by kernel_rfl) (fun _ _ _ h => h) (Or.inl ⟨by first | (go_simp;done) | rfl,fun X hX => by have h0 := hX.2;go_simp⟩) hHeld ?_
     try simp only [Act.put,zsA,zsB,zsC]
     refine' wpAnyH_take (i := 5) (oi := _) (v := .int .i64 (l : Int)) rfl (by kernel_rfl) (by kernel_rfl) (by kernel_rfl) (fun _ _ _ h => h) (Or.inl ⟨by first | (go_simp;done) | rfl,fun X _ => by go_simp⟩) hHeld ?_
     try simp only [Act.put,zsA,zsB,zsC]
     refine' wpAnyH_take (i := 6) (oi := _) (v := .slice (some ⟨b2,off2,none⟩) M uc) rfl (by kernel_rfl) (by kernel_rfl) (by kernel_rfl) (fun _ _ _ h => h) (Or.inl ⟨by first | (go_simp;done) | rfl,fun X _ => by go_simp⟩) hHeld ?_
     try simp only [Act.put,zsA,zsB,zsC]
     refine' wpAnyH_take (i := 7) (oi := _) (v := .int .i64 (l : Int)) rfl (by kernel_rfl) (by kernel_rfl) (by kernel_rfl) (fun _ _ _ h => h) (Or.inl ⟨by first | (go_simp;done) | rfl,fun X _ => by go_simp⟩) hHeld ?_
     try simp only [Act.put,zsA,zsB,zsC]
     refine' wpAnyH_take (i := 8) (oi := _) (v := .pointer (some ⟨b2,off2 + l * 2,none⟩)) rfl (by kernel_rfl) (by kernel_rfl) (by kernel_rfl) (fun _ _ _ h => h) (Or.inl ⟨by first | (go_simp;done) | rfl,fun X _ => by go_simp⟩) hHeld ?_
     try simp only [Act.put,zsA,zsB,zsC]
     refine' wpAnyH_take (i := 9) (oi := _) (v := .agg #[.slice s1 m1 k1,.slice s2 m2 k2]) rfl (by kernel_rfl) (by kernel_rfl) (by kernel_rfl) (fun _ _ _ h => h) (by refine (yieldsIf_load_mid ?_ 53 (.tmp 94) rfl b2 (off2 + l * 2) ?_ ([.slice s1 m1 k1,.slice s2 m2 k2]) _ (fun X h => h.1) Tryz.underlying53 rfl (by kernel_rfl)) <;> go_simp) hHeld ?_
     try simp only [Act.put,zsA,zsB,zsC]
     refine wpAnyH_ready (rs := [10]) (by kernel_rfl) (by simp) ?_
     refine AllReadyH.cons (o := _) rfl (fun K hK => ?_) AllReadyH.nil
     go_simp
     refine (cAd.out).mono ?_
     rintro e w7 ⟨rfl,col',hL7,hI7,hC7⟩
     have hHL7 : Hold col' 6 w7 PL := hHLd.out.step hC7 (fun k _ hp e => by unfold Mine at hp;omega) hL7
     have hHW7 : Hold col' 6 w7 PW := hHWd.out.step hC7 (fun k _ hp e => by unfold Mine at hp;omega) hL7
     replace hI7 := hide hI7
     replace hHL7 := hide hHL7
     replace hHW7 := hide hHW7
     clear hC7 hL7
     go_wp2_with fail
     refine hK.out _ _ (⟨(hPLc.out _ hHL7.out.now).1,hPWc.out _ hHW7.out.now⟩) (fun hHeld => ?_)
     clear hK K
     try simp only [Act.put,zsA,zsB,zsC]
     refine' wpAnyH_take (i := 11) (oi := _) (v := .bool false) rfl (by kernel_rfl) (by kernel_rfl) (by kernel_rfl) (fun _ _ _ h => h) (Or.inl ⟨by first | (go_simp;done) | rfl,fun X _ => by go_simp⟩) hHeld ?_
     try simp only [Act.put,zsA,zsB,zsC]
     refine wpAnyH_done (by kernel_rfl) ?_ _
     go_simp
     clear hHeld
     clear cAd hHLd hHWd hPLc
     go_wp2
     go_roundg (M - (l + 1))
     case measure => have := hgh2.out;have := hll2.out;omega
     case rel => exact ⟨l + 1,col',rfl,by have := hll2.out;omega,by go_num,hI7,hHW7,hHL7⟩
    ·have hlM : l = T.length := by have := hMh.out;omega
     have hI8 : Hid (IdxB w4 wr col ib g1 (preI g1 el j)) := by have h := hI.out;rw [hlM,hFull2.out] at h;exact h
     have i2 : ¬ (l : Int) < (M : Int) := by omega
     replace hlM := hide hlM
     clear hI hHL
     go_wp2
     go_roundg j
     case measure => have := hgh.out;omega
     case rel => exact ⟨j,(j : Int) - 1,col,rfl,by omega,by first | rfl | go_num,rfl,hI8,hHW⟩
  | zero =>
   have hyj : y = -1 := by have := hy.out;omega
   subst hyj
   have RR := hrRR4.out wr b4w
   have hsz := hPl.out
   have cWn := iwins_any ib col g1 (preI g1 el 0) _ _ _ r2 wr hI.out.1 (hrR4.out wr b4w) (by have := hs20h.out;omega) (by omega)
   rw [hwQ.out,hreh.out] at cWn
   unfold resVal at cWn
   replace cWn := hide cWn
   clear hHW hPW
   go_wp2_with (first | (refine wpList_load_row rfl 29 _ rfl _ rfl _ _ _ _ RR Tryz.underlying29 rfl (by kernel_rfl) ?_) | fail)
   refine cWn.out.mono ?_
   rintro e w7 ⟨v7,rfl,ho7,hb7⟩
   have hI7 := hI.out.below hb7
   have b47 := hI7.bel
   have RR7 := hrRR4.out w7 b47
   have cCn := icounts_any ib col g1 (preI g1 el 0) _ _ _ r2 w7 hI7.1 (hrR4.out w7 b47) (by have := hs20h.out;omega) (by omega)
   rw [hcQ.out,hreh.out] at cCn
   unfold resVal at cCn
   replace cCn := hide cCn
   obtain ⟨a7,c7,rfl⟩ := OwnS.shape ho7
   have hr7 := hide (fun X (hX : Below w7.heap.size w7 X) => RdS.below (OwnWin.rd ho7) hX)
   clear RR cWn hI ho7 hb7 b4w
   go_wp2_with (first | (refine wpList_load_row rfl 29 _ rfl _ rfl _ _ _ _ RR7 Tryz.underlying29 rfl (by kernel_rfl) ?_) | fail)
   refine cCn.out.mono ?_
   rintro e w8 ⟨v8,rfl,ho8,hb8⟩
   have b48 := hide (Bel.to b47 hb8)
   have RA8 := hrA4.out w8 b48.out
   have cCw := wcounts_any g1 _ _ (.slice ea0 m0 ec0) ms1 E0 w8 (hrG4.out w8 b48.out) (rE0.out w8 b48.out) (by have := htl.out;omega)
   unfold gameVal at cCw
   replace cCw := hide cCw
   obtain ⟨A,hA⟩ : ∃ A,A = cntGo g1.tiers.length E0 := ⟨_,rfl⟩
   rw [← hA] at ho8 cCw
   have hAl : A.length ≤ 12 := by rw [hA,cntGo_len];exact htl.out
   obtain ⟨a8,c8,rfl,-,-,hr8⟩ := Rd.form ho8
   obtain ⟨L,hL⟩ : ∃ L,L = A.length := ⟨_,rfl⟩
   rw [← hL] at hr8 ⊢
   have hr8h := hide hr8
   clear RR7 cCn hI7 ho8 hr8 b47 hA
   go_wp2_with (first | (refine wpList_load_row rfl 25 _ rfl _ rfl _ _ _ _ RA8 Tryz.underlying25 rfl (by kernel_rfl) ?_) | fail)
   refine cCw.out.mono ?_
   rintro e w9 ⟨v9,rfl,ho9,hb9⟩
   have b49 := hide (Bel.to b48.out hb9)
   obtain ⟨a9,c9,rfl,-,-,hr9⟩ := Rd.form ho9
   rw [← hL] at hr9 ⊢
   have hr89 := hide (Rd.below hr8h.out hb9)
   have cS := samewins_any _ _ _ _ w9 (hr7.out w9 (Bel.to hb8 hb9)) (rE0.out w9 b49.out)
   rw [decide_eq_true rfl] at cS
   replace cS := hide cS
   have hLL : ((L : Int) != (L : Int)) = false := by simp
   have hL12 : (L : Int) ≤ 12 := by omega
   have hr9h := hide hr9
   replace hL := hide hL
   clear RA8 cCw ho9 hb9 hb8 hr9 hr8h
   go_wp2_with fail
   refine cS.out.mono ?_
   rintro e w10 ⟨rfl,hb10⟩
   have hrA := hide (Rd.below hr9h.out hb10)
   have hrB := hide (Rd.below hr89.out hb10)
   have B10 := hide (Bel.to b49.out hb10)
   clear cS hb10 hr9h hr89 b49 b48
   go_wp2
   go_loopg [135] L (fun gh t wr => ∃ (i d : Nat),gh = L - i ∧ i ≤ L ∧ t = .int .i64 (i : Int) ∧ wr = w10.drewN d)
   case atStart => exact ⟨0,0,rfl,Nat.zero_le _,rfl,rfl⟩
   case round =>
    obtain ⟨i,d,hgi,hi,rfl,rfl⟩ := hrel
    replace hgi := hide hgi
    by_cases hil : i < L
    ·have hil2 := hide hil
     have hiA : i < A.length := by rw [← hL.out];exact hil
     obtain ⟨b8,o8,rfl,-,hc8⟩ := hrB.out.at_ hiA
     obtain ⟨b9,o9,rfl,-,hc9⟩ := hrA.out.at_ hiA
     obtain ⟨x,hx⟩ : ∃ x,x = A[i] := ⟨_,rfl⟩
     have d8 := hc8 i hiA
     have d9 := hc9 i hiA
     rw [← hx] at d8 d9
     clear hc8 hc9 hx
     have i1 : (0 : Int) ≤ (i : Int) := by omega
     have i2 : (i : Int) < (L : Int) := by omega
     have hxx : (x != x) = false := by simp
     go_wp2
     go_quiet (fail)
     go_wp2
     go_roundg (L - (i + 1))
     case measure => have := hgi.out;have := hil2.out;omega
     case rel => exact ⟨i + 1,_,rfl,by have := hil2.out;omega,by go_num,rfl⟩
    ·have i2 : ¬ (i : Int) < (L : Int) := by omega
     go_wp2_with fail
     refine (works34_any _).mono ?_
     rintro e w99 ⟨rfl,hb99⟩
     go_wp2
     go_ret
     exact ⟨rfl,Bel.to (Bel.drN (Bel.to B4h.out B10.out) _) hb99⟩
end Go.Proofs.YtelgllgaofjgjaaGreat
end

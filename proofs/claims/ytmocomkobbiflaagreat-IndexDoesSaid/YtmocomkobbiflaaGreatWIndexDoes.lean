/- IndexDoes: for every input the Go function lotterylaw33.IndexDoes returns true, and each argument reads afterwards as before. Conditions: none. -/
import Derived.Deep.MidRow
import Derived.Test.YtmocomkobbiflaaGreatRows
import Derived.WalkKit
import Derived.ProofKit
import Derived.OpenShut
import Derived.ChangeOld
import Derived.Below
import Derived.Test.YtmocomkobbiflaaGreatHRix
import Derived.Test.YtmocomkobbiflaaGreatHIdxD
import Derived.Test.YtmocomkobbiflaaGreatHIdxB
import Derived.Test.YtmocomkobbiflaaGreatHLine
import Derived.Test.YtmocomkobbiflaaGreatHIdxC
import Derived.Test.YtmocomkobbiflaaGreatHTrod
section
open Go.RowKit
set_option linter.unusedVariables false
set_option linter.unusedSimpArgs false
namespace Go.Proofs.YtmocomkobbiflaaGreat
theorem samewins33_self (va vb : Value) (l : List WinD) (w : World) (ha : WinsR w va l) (hb : WinsR w vb l) : Calls Tryz.prog 22 #[va,vb] w (BoolB true w) := by
 have h := samewins33_any va vb l l w ha hb
 rwa [decide_eq_true (rfl : l = l)] at h
theorem ints13_self (va vb : Value) (l : List Int) (w : World) (ha : Rd I64 w va l) (hb : Rd I64 w vb l) : Calls Tryz.prog 23 #[va,vb] w (BoolB true w) := by
 have h := ints13 va vb l l w ha hb
 rwa [decide_eq_true (rfl : l = l)] at h
set_option maxHeartbeats 16000000 in
set_option maxRecDepth 100000 in
theorem does33_walk (g : GameD) (av tv : Value) (ims : List AddonM) (v : Value) (ds : List DoM) (mv bv xv : Value) (r : ResD) (w : World) (rg : GameR w av tv ims g) (rd : DosR w v ds) (rr : ResR w mv bv xv r) (hs : r.serial.size ≤ 9223372036854775807) :
  Calls Tryz.prog 3 #[gameVal g av tv,v,resVal mv bv xv r] w (BoolB true w) := by
 have cA := hide (fun X => awake33_any X)
 have cF := hide (fun X (hX : Below w.heap.size w X) => few33_any v ds 60 X (rd.below hX))
 have cXb := hide (fun X (hX : Below w.heap.size w X) (he : gameE g ≠ 0) => inew_bad g av tv ims X (rg.below hX) he)
 have cYb := hide (fun X (hX : Below w.heap.size w X) (he : gameE g ≠ 0) => rnew_bad g av tv ims X (rg.below hX) he)
 have cXo := hide (fun X (hX : Below w.heap.size w X) (he : gameE g = 0) => inew_ok g av tv ims X (rg.below hX) he)
 have cYo := hide (fun X (hX : Below w.heap.size w X) (he : gameE g = 0) => rnew_ok g av tv ims X (rg.below hX) he)
 have rrh := hide rr
 have hrd := hide rd
 have rgh := hide rg
 obtain ⟨aa,ac,rfl,hal,ham⟩ := rg.1.1.shape
 obtain ⟨ta,tc,rfl,htl,htm⟩ := rg.2.2.shape
 obtain ⟨an,han⟩ : ∃ an,an = ims.length := ⟨_,rfl⟩
 obtain ⟨tn,htn⟩ : ∃ tn,tn = g.tiers.length := ⟨_,rfl⟩
 rw [← han,← htn] at cXb cYb cXo cYo rgh ⊢
 replace htn := hide htn
 obtain ⟨ra,rn,rc,rfl⟩ := rr.1.shape
 obtain ⟨sa,sn,sc,rfl⟩ := rr.2.1.shape
 obtain ⟨xa,xn,xc,rfl⟩ := rr.2.2.shape
 obtain ⟨va,vc,rfl,-,-⟩ := RdS.shape rd.1
 obtain ⟨vn,hvn⟩ : ∃ vn,vn = ds.length := ⟨_,rfl⟩
 rw [← hvn] at cF hrd ⊢
 replace hvn := hide hvn
 replace hs := hide hs
 clear rg rd rr hal ham htl htm han
 unfold gameVal at cXb cYb cXo cYo
 unfold gameVal resVal
 go_enter Tryz.func3,Tryz.ntmps3
 go_upto_region 1 with (fail)
 obtain ⟨W,hW⟩ : ∃ W,W = (w.alloc (Obj.cells #[.string g.name,.int .i64 g.kind,.int .i64 g.price,.int .i64 g.main,.int .i64 g.of,.int .i64 g.bonus,.int .i64 g.bonusOf,.int .i64 g.extra,.int .i64 g.draws,.int .i64 g.system,.int .i64 g.days,.int .i64 g.at_,.int .i64 g.close,.int .i64 g.cancel,.int .i64 g.expiry,.int .i64 g.pool,.int .i64 g.reserve,.int .i64 g.round,.int .i64 g.cap,.int .i64 g.rolls,(.slice aa an ac),(.slice ta tn tc)] 25)).alloc (Obj.cells #[.slice ra rn rc,.slice sa sn sc,.slice xa xn xc,.int .i64 r.factor,.string r.serial] 29) := ⟨_,rfl⟩
 have bW : Below w.heap.size w W := by rw [hW];exact Bel.al (Bel.al (Below.refl _ _) _) _
 have r0 : GameAt W w.heap.size g (.slice aa an ac) (.slice ta tn tc) := by rw [hW];exact Row.alloc (Row.new _ _ _) _
 have r1 : Row W (w.heap.size + 1) 29 [.slice ra rn rc,.slice sa sn sc,.slice xa xn xc,.int .i64 r.factor,.string r.serial] := by rw [hW];exact Row.at2 _ _ _ _
 rw [← hW]
 clear hW
 have hrdW := hide (hrd.out.below bW)
 have rgW := hide (rgh.out.below bW)
 have rrW := hide (rrh.out.below bW)
 have r1h := hide r1
 clear r1 hrd rgh rrh
 by_cases hg : gameE g = 0
 rotate_left
 ·have cX2 := hide (cXb.out W bW hg)
  obtain ⟨c,hc⟩ : ∃ c,c = gameE g := ⟨_,rfl⟩
  rw [← hc] at cX2
  have hcc : (c != c) = false := by simp
  go_wp2_with (first | (refine wpList_load_row rfl 25 _ rfl _ rfl _ _ _ _ r0 Tryz.underlying25 rfl (by kernel_rfl) ?_) | fail)
  refine cX2.out.mono ?_
  rintro e w1 ⟨rfl,b1⟩
  have bW1 := Bel.to bW b1
  have r0 := r0.keep b1
  have cY2 := hide (cYb.out w1 bW1 hg)
  rw [← hc] at cY2
  clear cXb cYb cXo cYo hg hc cX2 b1 bW
  go_wp2_with (first | (refine wpList_load_row rfl 25 _ rfl _ rfl _ _ _ _ r0 Tryz.underlying25 rfl (by kernel_rfl) ?_) | fail)
  refine cY2.out.mono ?_
  rintro e w2 ⟨rfl,b2⟩
  have bW2 := Bel.to bW1 b2
  clear cY2 r0 b2
  go_wp2_with fail
  refine (cA.out _).mono ?_
  rintro e wz ⟨rfl,hz⟩
  go_wp2
  go_ret
  exact ⟨rfl,Bel.to bW2 hz⟩
 have cX2 := hide (cXo.out W bW hg)
 have heh := hide hg
 clear cXb cYb cXo
 go_wp2_with (first | (refine wpList_load_row rfl 25 _ rfl _ rfl _ _ _ _ r0 Tryz.underlying25 rfl (by kernel_rfl) ?_) | fail)
 refine cX2.out.mono ?_
 intro e w1 hN
 obtain ⟨ib,col0,rfl,hI0,hb1,hc5⟩ := NewO.idxB (w := W) hg (Below.refl _ _) hN
 have bW1 := hI0.bel
 have r0 := r0.keep hb1
 have cY2 := hide (cYo.out w1 (Bel.to bW bW1) hg)
 clear cX2 cYo hN hg
 go_wp2_with (first | (refine wpList_load_row rfl 25 _ rfl _ rfl _ _ _ _ r0 Tryz.underlying25 rfl (by kernel_rfl) ?_) | fail)
 refine cY2.out.mono ?_
 rintro e w2 ⟨yb,rfl,hR0,hyn,hb2⟩
 have hI2 := hide (hI0.below hb2)
 have bW2 := hide (Bel.to bW hI2.out.bel)
 have bWh := hide bW
 have hy60 : Hid (col0 yb = 6) := hI0.new6 yb hyn
 have hyw : Hid (W.heap.size ≤ yb) := by show _ ≤ _;have := bW1.size;omega
 have hyl2 : Hid (yb < w2.heap.size) := hR0.ylt
 have cF2 := hide (cF.out w2 bW2.out)
 have hR0h := hide hR0
 clear r0 cY2 cF bW1 bW hb1 hb2 hc5 hI0 hyn hR0
 go_wp2_with fail
 refine cF2.out.mono ?_
 rintro e w3 ⟨bb,rfl,hbb,rfl⟩
 clear cF2
 cases bb
 ·clear hbb
  have bW2 := bW2.out
  go_wp2_with fail
  refine (cA.out _).mono ?_
  rintro e wz ⟨rfl,hz⟩
  go_wp2
  go_ret
  exact ⟨rfl,Bel.to bW2 hz⟩
 have h60 : Hid (vn ≤ 60) := by show _ ≤ _;have := hbb rfl;have := hvn.out;omega
 have i60 : (vn : Int) ≤ 60 := by have := h60.out;omega
 clear hbb
 go_wp2
 go_loopg [11] vn (fun gh t wr => ∃ (i : Nat) (col : Nat → Nat) (C : Nat → Prop) (ys : List DoM),gh = vn - i ∧ i ≤ vn ∧ t = .int .i64 (i : Int) ∧ Hid (IdxB W wr col ib g (buildX g ((ds.take i).map (·.d)))) ∧ Hid (RefR wr C yb g (.slice aa an ac) (.slice ta tn tc) ys) ∧ Hid (∀ k,C k → col k = 6) ∧ Hid (col yb = 6) ∧ Hid (ys.map (·.d) = refX g (buildX g ((ds.take i).map (·.d)))))
 case atStart => exact ⟨0,col0,fun _ => False,[],rfl,Nat.zero_le _,rfl,hI2.out,hR0h.out,fun k hk => hk.elim,hy60.out,rfl⟩
 case round =>
  clear hI2 hR0h hy60
  obtain ⟨i,col,C,ys,hgh,hi,rfl,hI,hR,h6,hy6,hmy⟩ := hrel
  replace hgh := hide hgh
  by_cases hlt : i < vn
  ·have hlt2 := hide hlt
   have hil : i < ds.length := by rw [← hvn.out];exact hlt
   obtain ⟨b,off,rfl,hbb,hcell⟩ := hrdW.out.1.at_ hil
   obtain ⟨m,hm⟩ : ∃ m,m = ds[i] := ⟨_,rfl⟩
   have hmi : ds[i]? = some m := by rw [hm];exact List.getElem?_eq_getElem hil
   have hmem : m ∈ ds := by rw [hm];exact List.getElem_mem _
   have hd := hrdW.out.2 m hmem
   have htk : (ds.take (i + 1)).map (·.d) = (ds.take i).map (·.d) ++ [m.d] := by rw [List.take_succ_eq_append_getElem hil,List.map_append,hm];rfl
   have hbx : Hid (buildX g ((ds.take (i + 1)).map (·.d)) = putX g (buildX g ((ds.take i).map (·.d))) m.d) := by show _ = _;rw [htk,build_snoc]
   have hdf := build_diff g ((ds.take i).map (·.d))
   have hbl : (buildX g ((ds.take i).map (·.d))).length ≤ 60 := by
    have h1 := build_len g ((ds.take i).map (·.d))
    rw [List.length_map,List.length_take] at h1
    have := h60.out
    omega
   obtain ⟨es,hes⟩ : ∃ es,es = buildX g ((ds.take i).map (·.d)) := ⟨_,rfl⟩
   rw [← hes] at hI hmy hbx hbl hdf
   clear hes
   have hys : Hid ((ys.map (·.d)).Pairwise fun a b => ltK (keyD a) (keyD b)) := by rw [hmy.out];exact refX_sorted hdf
   have hyl : Hid (ys.length ≤ 900) := by
    show _ ≤ _
    have h9 := congrArg List.length hmy.out
    rw [List.length_map,refX_len] at h9
    omega
   have hClt : Hid (∀ k,C k → k < wr.heap.size) := by obtain ⟨_,_,_,-,-,h9,-⟩ := hR.out;exact h9
   have cAd := iadd_old (X := wr.drew) (mv := m.mv) (bv := m.bv) (d := m.d) (hI.out.below (Below.drew (Below.refl _ _))) hd.1 (by omega) (by have := hd.2.1.2;exact this) (by have := hd.2.2.2;exact this)
   have hwf := hide hd
   obtain ⟨ax,hax⟩ : ∃ ax,ax = addX g es m.d := ⟨_,rfl⟩
   rw [← hax] at cAd
   replace hax := hide hax
   have hall : ∀ (X : World),Below W.heap.size W X → ∀ j u,m.cells[j]? = some u → X.cell? ⟨b,off + i * 4 + j,none⟩ = some u := fun X hX j u hu => Bel.cellOf hX (hcell i _ hmi j u hu)
   clear hcell hm hmi hd htk hbl hmem hdf
   obtain ⟨⟨t,k2,⟨la,lb⟩⟩,mv,bv⟩ := m
   obtain ⟨a1,a2,a3,rfl⟩ := hwf.out.1.1.shape
   obtain ⟨b1,b2,b3,rfl⟩ := hwf.out.1.2.shape
   have c0 := hide (fun X (hX : Below W.heap.size W X) => show X.cell? ⟨b,off + i * 4,none⟩ = some (.int .i64 t) from hall X hX 0 _ rfl)
   have c1 := hide (fun X (hX : Below W.heap.size W X) => show X.cell? ⟨b,off + i * 4 + 1,none⟩ = some (.int .i64 k2) from hall X hX 1 _ rfl)
   have c2 := hide (fun X (hX : Below W.heap.size W X) => show X.rangeAt b (off + i * 4 + 2) [.slice a1 a2 a3,.slice b1 b2 b3] from fun j u hu => by
    match j,hu with
    | 0,hu => exact hall X hX 2 u hu
    | 1,hu => exact hall X hX 3 u hu)
   unfold lineVal at cAd
   simp only [] at cAd
   replace cAd := hide cAd
   clear hall
   have i1 : (0 : Int) ≤ (i : Int) := by omega
   have i2 : (i : Int) < (vn : Int) := by omega
   have bD : Below W.heap.size W wr.drew := Below.drew hI.out.bel
   go_upto_region 10 with (fail)
   refine wp_region_held_drew (S := fun X => X.cell? ⟨b,off + i * 4,none⟩ = some (.int .i64 t) ∧ X.cell? ⟨b,off + i * 4 + 1,none⟩ = some (.int .i64 k2) ∧ X.rangeAt b (off + i * 4 + 2) [.slice a1 a2 a3,.slice b1 b2 b3]) (by kernel_rfl) ⟨c0.out _ bD,c1.out _ bD,c2.out _ bD⟩ (fun hHeld => ?_)
   refine' wpAnyH_take (i := 0) (oi := _) (v := .pointer (some ⟨ib,0,none⟩)) rfl (by kernel_rfl) (by kernel_rfl) (by kernel_rfl) (fun _ _ _ h => h) (Or.inl ⟨by first | (go_simp;done) | rfl,fun X hX => by go_simp⟩) hHeld ?_
   try simp only [Act.put,zsA,zsB,zsC]
   refine' wpAnyH_take (i := 1) (oi := _) (v := .slice (some ⟨b,off,none⟩) vn vc) rfl (by kernel_rfl) (by kernel_rfl) (by kernel_rfl) (fun _ _ _ h => h) (Or.inl ⟨by first | (go_simp;done) | rfl,fun X hX => by go_simp⟩) hHeld ?_
   try simp only [Act.put,zsA,zsB,zsC]
   refine' wpAnyH_take (i := 2) (oi := _) (v := .int .i64 (i : Int)) rfl (by kernel_rfl) (by kernel_rfl) (by kernel_rfl) (fun _ _ _ h => h) (Or.inl ⟨by first | (go_simp;done) | rfl,fun X hX => by go_simp⟩) hHeld ?_
   try simp only [Act.put,zsA,zsB,zsC]
   refine' wpAnyH_take (i := 3) (oi := _) (v := .pointer (some ⟨b,off + i * 4,none⟩)) rfl (by kernel_rfl) (by kernel_rfl) (by kernel_rfl) (fun _ _ _ h => h) (Or.inl ⟨by first | (go_simp;done) | rfl,fun X hX => by go_simp⟩) hHeld ?_
   try simp only [Act.put,zsA,zsB,zsC]
   refine' wpAnyH_take (i := 4) (oi := _) (v := .pointer (some ⟨b,off + i * 4,none⟩)) rfl (by kernel_rfl) (by kernel_rfl) (by kernel_rfl) (fun _ _ _ h => h) (Or.inl ⟨by first | (go_simp;done) | rfl,fun X hX => by go_simp⟩) hHeld ?_
   try simp only [Act.put,zsA,zsB,zsC]
   refine' wpAnyH_take (i := 5) (oi := _) (v := .int .i64 t) rfl (by kernel_rfl) (by kernel_rfl) (by kernel_rfl) (fun _ _ _ h => h) (Or.inl ⟨by first | (go_simp;done) | rfl,fun X hX => by have h0 := hX.1;go_simp⟩) hHeld ?_
   try simp only [Act.put,zsA,zsB,zsC]
   refine' wpAnyH_take (i := 6) (oi := _) (v := .slice (some ⟨b,off,none⟩) vn vc) rfl (by kernel_rfl) (by kernel_rfl) (by kernel_rfl) (fun _ _ _ h => h) (Or.inl ⟨by first | (go_simp;done) | rfl,fun X hX => by go_simp⟩) hHeld ?_
   try simp only [Act.put,zsA,zsB,zsC]
   refine' wpAnyH_take (i := 7) (oi := _) (v := .int .i64 (i : Int)) rfl (by kernel_rfl) (by kernel_rfl) (by kernel_rfl) (fun _ _ _ h => h) (Or.inl ⟨by first | (go_simp;done) | rfl,fun X hX => by go_simp⟩) hHeld ?_
   try simp only [Act.put,zsA,zsB,zsC]
   refine' wpAnyH_take (i := 8) (oi := _) (v := .pointer (some ⟨b,off + i * 4,none⟩)) rfl (by kernel_rfl) (by kernel_rfl) (by kernel_rfl) (fun _ _ _ h => h) (Or.inl ⟨by first | (go_simp;done) | rfl,fun X hX => by go_simp⟩) hHeld ?_
   try simp only [Act.put,zsA,zsB,zsC]
   refine' wpAnyH_take (i := 9) (oi := _) (v := .pointer (some ⟨b,off + i * 4 + 1,none⟩)) rfl (by kernel_rfl) (by kernel_rfl) (by kernel_rfl) (fun _ _ _ h => h) (Or.inl ⟨by first | (go_simp;done) | rfl,fun X hX => by go_simp⟩) hHeld ?_
   try simp only [Act.put,zsA,zsB,zsC]
   refine' wpAnyH_take (i := 10) (oi := _) (v := .int .i64 k2) rfl (by kernel_rfl) (by kernel_rfl) (by kernel_rfl) (fun _ _ _ h => h) (Or.inl ⟨by first | (go_simp;done) | rfl,fun X hX => by have h0 := hX.2.1;go_simp⟩) hHeld ?_
   try simp only [Act.put,zsA,zsB,zsC]
   refine' wpAnyH_take (i := 11) (oi := _) (v := .slice (some ⟨b,off,none⟩) vn vc) rfl (by kernel_rfl) (by kernel_rfl) (by kernel_rfl) (fun _ _ _ h => h) (Or.inl ⟨by first | (go_simp;done) | rfl,fun X hX => by go_simp⟩) hHeld ?_
   try simp only [Act.put,zsA,zsB,zsC]
   refine' wpAnyH_take (i := 12) (oi := _) (v := .int .i64 (i : Int)) rfl (by kernel_rfl) (by kernel_rfl) (by kernel_rfl) (fun _ _ _ h => h) (Or.inl ⟨by first | (go_simp;done) | rfl,fun X hX => by go_simp⟩) hHeld ?_
   try simp only [Act.put,zsA,zsB,zsC]
   refine' wpAnyH_take (i := 13) (oi := _) (v := .pointer (some ⟨b,off + i * 4,none⟩)) rfl (by kernel_rfl) (by kernel_rfl) (by kernel_rfl) (fun _ _ _ h => h) (Or.inl ⟨by first | (go_simp;done) | rfl,fun X hX => by go_simp⟩) hHeld ?_
   try simp only [Act.put,zsA,zsB,zsC]
   refine' wpAnyH_take (i := 14) (oi := _) (v := .pointer (some ⟨b,off + i * 4 + 2,none⟩)) rfl (by kernel_rfl) (by kernel_rfl) (by kernel_rfl) (fun _ _ _ h => h) (Or.inl ⟨by first | (go_simp;done) | rfl,fun X hX => by go_simp⟩) hHeld ?_
   try simp only [Act.put,zsA,zsB,zsC]
   refine' wpAnyH_take (i := 15) (oi := _) (v := .agg #[.slice a1 a2 a3,.slice b1 b2 b3]) rfl (by kernel_rfl) (by kernel_rfl) (by kernel_rfl) (fun _ _ _ h => h) (by refine (yieldsIf_load_mid ?_ 41 (.tmp 68) rfl (b) (off + i * 4 + 2) ?_ [.slice a1 a2 a3,.slice b1 b2 b3] _ (fun X h => h.2.2) Tryz.underlying41 rfl (by kernel_rfl)) <;> go_simp) hHeld ?_
   try simp only [Act.put,zsA,zsB,zsC]
   refine' wpAnyH_take (i := 17) (oi := _) (v := .pointer (some ⟨yb,0,none⟩)) rfl (by kernel_rfl) (by kernel_rfl) (by kernel_rfl) (fun _ _ _ h => h) (Or.inl ⟨by first | (go_simp;done) | rfl,fun X hX => by go_simp⟩) hHeld ?_
   try simp only [Act.put,zsA,zsB,zsC]
   refine' wpAnyH_take (i := 18) (oi := _) (v := .slice (some ⟨b,off,none⟩) vn vc) rfl (by kernel_rfl) (by kernel_rfl) (by kernel_rfl) (fun _ _ _ h => h) (Or.inl ⟨by first | (go_simp;done) | rfl,fun X hX => by go_simp⟩) hHeld ?_
   try simp only [Act.put,zsA,zsB,zsC]
   refine' wpAnyH_take (i := 19) (oi := _) (v := .int .i64 (i : Int)) rfl (by kernel_rfl) (by kernel_rfl) (by kernel_rfl) (fun _ _ _ h => h) (Or.inl ⟨by first | (go_simp;done) | rfl,fun X hX => by go_simp⟩) hHeld ?_
   try simp only [Act.put,zsA,zsB,zsC]
   refine' wpAnyH_take (i := 20) (oi := _) (v := .pointer (some ⟨b,off + i * 4,none⟩)) rfl (by kernel_rfl) (by kernel_rfl) (by kernel_rfl) (fun _ _ _ h => h) (Or.inl ⟨by first | (go_simp;done) | rfl,fun X hX => by go_simp⟩) hHeld ?_
   try simp only [Act.put,zsA,zsB,zsC]
   refine' wpAnyH_take (i := 21) (oi := _) (v := .pointer (some ⟨b,off + i * 4,none⟩)) rfl (by kernel_rfl) (by kernel_rfl) (by kernel_rfl) (fun _ _ _ h => h) (Or.inl ⟨by first | (go_simp;done) | rfl,fun X hX => by go_simp⟩) hHeld ?_
   try simp only [Act.put,zsA,zsB,zsC]
   refine' wpAnyH_take (i := 22) (oi := _) (v := .int .i64 t) rfl (by kernel_rfl) (by kernel_rfl) (by kernel_rfl) (fun _ _ _ h => h) (Or.inl ⟨by first | (go_simp;done) | rfl,fun X hX => by have h0 := hX.1;go_simp⟩) hHeld ?_
   try simp only [Act.put,zsA,zsB,zsC]
   refine' wpAnyH_take (i := 23) (oi := _) (v := .slice (some ⟨b,off,none⟩) vn vc) rfl (by kernel_rfl) (by kernel_rfl) (by kernel_rfl) (fun _ _ _ h => h) (Or.inl ⟨by first | (go_simp;done) | rfl,fun X hX => by go_simp⟩) hHeld ?_
   try simp only [Act.put,zsA,zsB,zsC]
   refine' wpAnyH_take (i := 24) (oi := _) (v := .int .i64 (i : Int)) rfl (by kernel_rfl) (by kernel_rfl) (by kernel_rfl) (fun _ _ _ h => h) (Or.inl ⟨by first | (go_simp;done) | rfl,fun X hX => by go_simp⟩) hHeld ?_
   try simp only [Act.put,zsA,zsB,zsC]
   refine' wpAnyH_take (i := 25) (oi := _) (v := .pointer (some ⟨b,off + i * 4,none⟩)) rfl (by kernel_rfl) (by kernel_rfl) (by kernel_rfl) (fun _ _ _ h => h) (Or.inl ⟨by first | (go_simp;done) | rfl,fun X hX => by go_simp⟩) hHeld ?_
   try simp only [Act.put,zsA,zsB,zsC]
   refine' wpAnyH_take (i := 26) (oi := _) (v := .pointer (some ⟨b,off + i * 4 + 1,none⟩)) rfl (by kernel_rfl) (by kernel_rfl) (by kernel_rfl) (fun _ _ _ h => h) (Or.inl ⟨by first | (go_simp;done) | rfl,fun X hX => by go_simp⟩) hHeld ?_
   try simp only [Act.put,zsA,zsB,zsC]
   refine' wpAnyH_take (i := 27) (oi := _) (v := .int .i64 k2) rfl (by kernel_rfl) (by kernel_rfl) (by kernel_rfl) (fun _ _ _ h => h) (Or.inl ⟨by first | (go_simp;done) | rfl,fun X hX => by have h0 := hX.2.1;go_simp⟩) hHeld ?_
   try simp only [Act.put,zsA,zsB,zsC]
   refine' wpAnyH_take (i := 28) (oi := _) (v := .slice (some ⟨b,off,none⟩) vn vc) rfl (by kernel_rfl) (by kernel_rfl) (by kernel_rfl) (fun _ _ _ h => h) (Or.inl ⟨by first | (go_simp;done) | rfl,fun X hX => by go_simp⟩) hHeld ?_
   try simp only [Act.put,zsA,zsB,zsC]
   refine' wpAnyH_take (i := 29) (oi := _) (v := .int .i64 (i : Int)) rfl (by kernel_rfl) (by kernel_rfl) (by kernel_rfl) (fun _ _ _ h => h) (Or.inl ⟨by first | (go_simp;done) | rfl,fun X hX => by go_simp⟩) hHeld ?_
   try simp only [Act.put,zsA,zsB,zsC]
   refine' wpAnyH_take (i := 30) (oi := _) (v := .pointer (some ⟨b,off + i * 4,none⟩)) rfl (by kernel_rfl) (by kernel_rfl) (by kernel_rfl) (fun _ _ _ h => h) (Or.inl ⟨by first | (go_simp;done) | rfl,fun X hX => by go_simp⟩) hHeld ?_
   try simp only [Act.put,zsA,zsB,zsC]
   refine' wpAnyH_take (i := 31) (oi := _) (v := .pointer (some ⟨b,off + i * 4 + 2,none⟩)) rfl (by kernel_rfl) (by kernel_rfl) (by kernel_rfl) (fun _ _ _ h => h) (Or.inl ⟨by first | (go_simp;done) | rfl,fun X hX => by go_simp⟩) hHeld ?_
   try simp only [Act.put,zsA,zsB,zsC]
   refine' wpAnyH_take (i := 32) (oi := _) (v := .agg #[.slice a1 a2 a3,.slice b1 b2 b3]) rfl (by kernel_rfl) (by kernel_rfl) (by kernel_rfl) (fun _ _ _ h => h) (by refine (yieldsIf_load_mid ?_ 41 (.tmp 85) rfl (b) (off + i * 4 + 2) ?_ [.slice a1 a2 a3,.slice b1 b2 b3] _ (fun X h => h.2.2) Tryz.underlying41 rfl (by kernel_rfl)) <;> go_simp) hHeld ?_
   try simp only [Act.put,zsA,zsB,zsC]
   refine wpAnyH_ready (rs := [16]) (by kernel_rfl) (by simp) ?_
   refine AllReadyH.cons (o := _) rfl (fun K hK => ?_) AllReadyH.nil
   go_simp
   refine cAd.out.mono ?_
   rintro e w5 ⟨rfl,col',hL,hI2,hC2⟩
   go_wp2_with fail
   refine hK.out _ _ ⟨c0.out _ hI2.bel,c1.out _ hI2.bel,c2.out _ hI2.bel⟩ (fun hHeld => ?_)
   clear hK K
   try simp only [Act.put,zsA,zsB,zsC]
   have hRt := (hR.out.below (Below.drew (Below.refl _ _))).turn hC2 (fun k hk hm => ⟨fun hc => by have h9 : col k < 5 := hm;have := h6.out k hc;omega,fun hy => by have h9 : col k < 5 := hm;rw [hy,hy6.out] at h9;exact absurd h9 (by decide)⟩)
   have h6a : Hid (∀ k,C k → col' k = 6) := fun k hk => by rw [hL k (hClt.out k hk)];exact h6.out k hk
   have hy6a : Hid (col' yb = 6) := by show _ = _;rw [hL yb hR.out.ylt];exact hy6.out
   have bI2 := hI2.bel
   have cRd := radd_any yb C g _ _ ims ys ⟨t,k2,(la,lb)⟩ _ _ w5 hRt (rgW.out.below bI2) (hwf.out.1.below bI2) hys.out hyl.out
   unfold lineVal at cRd
   simp only [] at cRd
   replace cRd := hide cRd
   refine wpAnyH_ready (rs := [33]) (by kernel_rfl) (by simp) ?_
   refine AllReadyH.cons (o := _) rfl (fun K hK => ?_) AllReadyH.nil
   go_simp
   refine cRd.out.mono ?_
   rintro e w6 ⟨rfl,C',ys',hR3,hmap3,hC3,hch3⟩
   go_wp2_with fail
   have hI3 := hI2.turn hch3 (fun k hk hpk => by rw [hpk];exact ⟨hy6a.out,hyw.out⟩)
   have bI3 := hI3.bel
   refine hK.out _ _ ⟨c0.out _ bI3,c1.out _ bI3,c2.out _ bI3⟩ (fun hHeld => ?_)
   clear hK K
   try simp only [Act.put,zsA,zsB,zsC]
   have h6b : Hid (∀ k,C' k → col' k = 6) := fun k hk => (hC3 k hk).elim (fun h => h6a.out k h) (fun h => hI2.new6 k h)
   obtain ⟨ay,hay⟩ : ∃ ay,ay = addX g (ys.map (·.d)) ⟨t,k2,(la,lb)⟩ := ⟨_,rfl⟩
   rw [← hay]
   have hxy : ay = ax := by rw [hay,hmy.out,add_refX,← hax.out]
   clear hay
   subst hxy
   refine' wpAnyH_take (i := 34) (oi := _) (v := .bool false) rfl (by kernel_rfl) (by kernel_rfl) (by kernel_rfl) (fun _ _ _ h => h) (Or.inl ⟨by first | (go_simp;done) | rfl,fun X hX => by go_simp⟩) hHeld ?_
   try simp only [Act.put,zsA,zsB,zsC]
   refine' wpAnyH_take (i := 35) (oi := _) (v := .bool false) rfl (by kernel_rfl) (by kernel_rfl) (by kernel_rfl) (fun _ _ _ h => h) (Or.inl ⟨by first | (go_simp;done) | rfl,fun X hX => by go_simp⟩) hHeld ?_
   try simp only [Act.put,zsA,zsB,zsC]
   refine' wpAnyH_take (i := 36) (oi := _) (v := .pointer (some ⟨ib,0,none⟩)) rfl (by kernel_rfl) (by kernel_rfl) (by kernel_rfl) (fun _ _ _ h => h) (Or.inl ⟨by first | (go_simp;done) | rfl,fun X hX => by go_simp⟩) hHeld ?_
   try simp only [Act.put,zsA,zsB,zsC]
   refine' wpAnyH_take (i := 38) (oi := _) (v := .pointer (some ⟨yb,0,none⟩)) rfl (by kernel_rfl) (by kernel_rfl) (by kernel_rfl) (fun _ _ _ h => h) (Or.inl ⟨by first | (go_simp;done) | rfl,fun X hX => by go_simp⟩) hHeld ?_
   try simp only [Act.put,zsA,zsB,zsC]
   have hmy3 : Hid (ys'.map (·.d) = refX g (putX g es ⟨t,k2,(la,lb)⟩)) := by show _ = _;rw [hmap3,hmy.out,put_refX]
   have hly : ys'.length = (putX g es ⟨t,k2,(la,lb)⟩).length := by have h9 := congrArg List.length hmy3.out;rw [List.length_map,refX_len] at h9;exact h9
   have cLx := ilen_any ib col' g _ w6 hI3.1
   have cLy := rlen_any yb C' g _ _ ys' w6 hR3
   rw [hly] at cLy
   obtain ⟨N,hN⟩ : ∃ N,N = (putX g es ⟨t,k2,(la,lb)⟩).length := ⟨_,rfl⟩
   rw [← hN] at cLx cLy
   replace hN := hide hN
   replace cLx := hide cLx
   replace cLy := hide cLy
   refine wpAnyH_ready (rs := [37]) (by kernel_rfl) (by simp) ?_
   refine AllReadyH.cons (o := _) rfl (fun K hK => ?_) AllReadyH.nil
   rw [if_pos (by first | rfl | (go_simp;done))]
   go_simp
   refine cLx.out.mono ?_
   rintro e w7 ⟨rfl,rfl⟩
   go_wp2_with fail
   refine hK.out _ _ hHeld (fun hHeld => ?_)
   clear hK K
   try simp only [Act.put,zsA,zsB,zsC]
   refine wpAnyH_ready (rs := [39]) (by kernel_rfl) (by simp) ?_
   refine AllReadyH.cons (o := _) rfl (fun K hK => ?_) AllReadyH.nil
   rw [if_pos (by first | rfl | (go_simp;done))]
   go_simp
   refine cLy.out.mono ?_
   rintro e w8 ⟨rfl,rfl⟩
   go_wp2_with fail
   refine hK.out _ _ hHeld (fun hHeld => ?_)
   clear hK K
   try simp only [Act.put,zsA,zsB,zsC]
   refine' wpAnyH_take (i := 40) (oi := _) (v := .bool false) rfl (by kernel_rfl) (by kernel_rfl) (by kernel_rfl) (fun _ _ _ h => h) (Or.inl ⟨by first | (go_simp;done) | rfl,fun X hX => by go_simp⟩) hHeld ?_
   try simp only [Act.put,zsA,zsB,zsC]
   refine' wpAnyH_take (i := 41) (oi := _) (v := .bool false) rfl (by kernel_rfl) (by kernel_rfl) (by kernel_rfl) (fun _ _ _ h => h) (Or.inl ⟨by first | (go_simp;done) | rfl,fun X hX => by go_simp⟩) hHeld ?_
   try simp only [Act.put,zsA,zsB,zsC]
   refine wpAnyH_done (by kernel_rfl) ?_ _
   go_simp
   clear hHeld cLx cLy
   have hI4 : Hid (IdxB W w6 col' ib g (buildX g ((ds.take (i + 1)).map (·.d)))) := by rw [hbx.out];exact hI3
   have hmy4 : Hid (ys'.map (·.d) = refX g (buildX g ((ds.take (i + 1)).map (·.d)))) := by rw [hbx.out];exact hmy3
   have hR4 := hide hR3
   clear hI3 hR3 hI hR hL hI2 hC2 hRt bI2 bI3 hC3 hch3 hmap3 hly cRd cAd
   go_wp2
   go_roundg (vn - (i + 1))
   case measure => have := hgh.out;have := hlt2.out;omega
   case rel => exact ⟨i + 1,col',C',ys',rfl,by have := hlt2.out;omega,by (have := hlt2.out;go_num),hI4,hR4,h6b,hy6a,hmy4⟩
  ·obtain rfl : vn = i := by omega
   obtain ⟨es,hes⟩ : ∃ es,es = buildX g ((ds.take vn).map (·.d)) := ⟨_,rfl⟩
   have hel : es.length ≤ 60 := by
    have h1 := build_len g ((ds.take vn).map (·.d))
    rw [List.length_map,List.length_take,← hes] at h1
    have := h60.out
    omega
   rw [← hes] at hI hmy
   have hyl : ys.length ≤ 60 := by
    have h9 := congrArg List.length hmy.out
    rw [List.length_map,refX_len] at h9
    omega
   have hok : ∀ m ∈ ys,lineE g m.d.l.1 m.d.l.2 = 0 := fun m hm => refX_ok (fun e he => (hI.out.1.ok e he).2.2) m.d (by rw [← hmy.out];exact List.mem_map_of_mem hm)
   have bI := hI.out.bel
   have r1 := Row.keep r1h.out bI
   have cW := hide (iwins_any ib col g es (.slice ra rn rc) (.slice sa sn sc) (.slice xa xn xc) r wr hI.out.1 (rrW.out.below bI) hs.out (by omega))
   have cC := hide (fun X (hX : Below wr.heap.size wr X) => icounts_any ib col g es (.slice ra rn rc) (.slice sa sn sc) (.slice xa xn xc) r X (hI.out.below hX).1 (rrW.out.below (Bel.to bI hX)) hs.out (by omega))
   have cY := hide (fun X (hX : Below wr.heap.size wr X) => rwins33_any yb C g _ _ ims ys (.slice ra rn rc) (.slice sa sn sc) (.slice xa xn xc) r X (hR.out.below hX) (rgW.out.below (Bel.to bI hX)) heh.out (rrW.out.below (Bel.to bI hX)) hs.out hok (by omega))
   have cZ := hide (fun X (hX : Below wr.heap.size wr X) => rcounts33_any yb C g _ _ ims ys (.slice ra rn rc) (.slice sa sn sc) (.slice xa xn xc) r X (hR.out.below hX) (rgW.out.below (Bel.to bI hX)) heh.out (rrW.out.below (Bel.to bI hX)) hs.out hok (by omega))
   unfold winsQ at cW
   unfold cntQ at cC
   rw [hmy.out,refX_wins] at cY cZ
   obtain ⟨L,hL⟩ : ∃ L,L = (if resE g r ≠ 0 then [] else winsX g r (sortE es)) := ⟨_,rfl⟩
   obtain ⟨K2,hK2⟩ : ∃ K2,K2 = (if resE g r ≠ 0 then [] else cntGo g.tiers.length (winsX g r (sortE es))) := ⟨_,rfl⟩
   rw [← hL] at cW cY
   rw [← hK2] at cC cZ
   obtain ⟨c,hc⟩ : ∃ c,c = resE g r := ⟨_,rfl⟩
   rw [← hc] at cW cY cC cZ
   have hcc : (c == c) = true := by simp
   obtain ⟨n,hn0⟩ : ∃ n,n = L.length := ⟨_,rfl⟩
   have hn := hide hn0
   obtain ⟨k,hk0⟩ : ∃ k,k = K2.length := ⟨_,rfl⟩
   have hk := hide hk0
   unfold resVal at cW cC cY cZ
   have bE0 := hide (Bel.to bWh.out bI)
   clear hn0 hk0 hL hK2 hc hok hyl hel hes hmy hI hR h6 hy6 bI hgh
   go_wp2_with (first | (refine wpList_load_row rfl 29 _ rfl _ rfl _ _ _ _ r1 Tryz.underlying29 rfl (by kernel_rfl) ?_) | fail)
   refine cW.out.mono ?_
   rintro e w3 ⟨v3,rfl,ov3,bv3⟩
   obtain ⟨pv3,qv3,rfl⟩ := OwnS.shape ov3
   have ov3 := OwnWin.rd ov3
   rw [← hn.out] at ov3 ⊢
   replace ov3 := hide ov3
   have r1 := Row.keep r1 bv3
   have Bv3 := bv3
   have cY2 := hide (cY.out w3 Bv3)
   clear cW cY bv3
   go_wp2_with (first | (refine wpList_load_row rfl 29 _ rfl _ rfl _ _ _ _ r1 Tryz.underlying29 rfl (by kernel_rfl) ?_) | fail)
   refine cY2.out.mono ?_
   rintro e w4 ⟨v4,rfl,ov4,bv4⟩
   obtain ⟨pv4,qv4,rfl⟩ := OwnS.shape ov4
   have ov4 := OwnWin.rd ov4
   rw [← hn.out] at ov4 ⊢
   replace ov4 := hide ov4
   have r1 := Row.keep r1 bv4
   have Bv4 := Bel.to Bv3 bv4
   have cC2 := hide (cC.out w4 Bv4)
   clear cY2 cC
   have o3 := hide (WinsR.below ov3.out bv4)
   clear ov3 bv4
   go_wp2_with (first | (refine wpList_load_row rfl 29 _ rfl _ rfl _ _ _ _ r1 Tryz.underlying29 rfl (by kernel_rfl) ?_) | fail)
   refine cC2.out.mono ?_
   rintro e w5 ⟨v5,rfl,ov5,bv5⟩
   obtain ⟨pv5,qv5,rfl,-,-,-⟩ := ov5.form
   rw [← hk.out] at ov5 ⊢
   replace ov5 := hide ov5
   have r1 := Row.keep r1 bv5
   have Bv5 := Bel.to Bv4 bv5
   have cZ2 := hide (cZ.out w5 Bv5)
   have o3 := hide (WinsR.below o3.out bv5)
   have o4 := hide (WinsR.below ov4.out bv5)
   clear cC2 cZ ov4 bv5
   go_wp2_with (first | (refine wpList_load_row rfl 29 _ rfl _ rfl _ _ _ _ r1 Tryz.underlying29 rfl (by kernel_rfl) ?_) | fail)
   refine cZ2.out.mono ?_
   rintro e w6 ⟨v6,rfl,ov6,bv6⟩
   obtain ⟨pv6,qv6,rfl,-,-,-⟩ := ov6.form
   rw [← hk.out] at ov6 ⊢
   replace ov6 := hide ov6
   have r1 := Row.keep r1 bv6
   have Bv6 := Bel.to Bv5 bv6
   have o3 := hide (WinsR.below o3.out bv6)
   have o4 := hide (WinsR.below o4.out bv6)
   have o5 := hide (Rd.below ov5.out bv6)
   have bE := Bel.to bE0.out Bv6
   have cS := hide (samewins33_self _ _ L w6 o3.out o4.out)
   have cI := hide (fun X (hX : Below w6.heap.size w6 X) => ints13_self _ _ K2 X (Rd.below o5.out hX) (Rd.below ov6.out hX))
   clear cZ2 ov5 bv6 Bv3 Bv4 Bv5 Bv6 r1 o3 o4 o5 ov6 bE0
   go_wp2_with fail
   refine cS.out.mono ?_
   rintro e w7 ⟨rfl,hz7⟩
   have bE := Bel.to bE hz7
   have cI2 := hide (cI.out w7 hz7)
   clear cI cS hz7
   go_wp2_with fail
   refine cI2.out.mono ?_
   rintro e w8 ⟨rfl,hz8⟩
   have bE := Bel.to bE hz8
   clear cI2 hz8
   go_wp2_with fail
   refine (cA.out _).mono ?_
   rintro e wz ⟨rfl,hz⟩
   go_wp2
   go_ret
   exact ⟨rfl,Bel.to bE hz⟩
end Go.Proofs.YtmocomkobbiflaaGreat
end
section
namespace Go.Proofs.YtmocomkobbiflaaGreat.indexDoes
open Go.ChangeShapes Go.WideShapes Go.ChangeAt Go.RowKit
set_option linter.unusedVariables false
theorem own : ownKnob Tryz.prog.godebug = none := by kernel_rfl
theorem laidOut : laidOutB Tryz.prog = true := by kernel_rfl
set_option maxRecDepth 100000 in
theorem lifted (os : Os) (started : os.Started) (H : Type) (enc : TypeId × Value → H) :
  ReturnsInHanded {} Tryz.checked os 3 .any (Rows.indexDoesSpec.pre6 enc Tryz.prog Tryz.f3 Rows.indexDoesRow.domain false) (Rows.indexDoesSpec.post enc Tryz.prog Tryz.f3 false true false false) := by
 refine returnsInHanded_of_change (C := Tryz.checked) own started (by kernel_rfl) Tryz.func3
  (ChangeSpec.witness6 (enc := enc) (C := Tryz.checked) false ⟨#[],#[.agg #[.string ⟨#[]⟩,.int .i64 0,.int .i64 0,.int .i64 0,.int .i64 0,.int .i64 0,.int .i64 0,.int .i64 0,.int .i64 0,.int .i64 0,.int .i64 0,.int .i64 0,.int .i64 0,.int .i64 0,.int .i64 0,.int .i64 0,.int .i64 0,.int .i64 0,.int .i64 0,.int .i64 0,.slice none 0 0,.slice none 0 0],.slice none 0 0,.agg #[.slice none 0 0,.slice none 0 0,.slice none 0 0,.int .i64 0,.string ⟨#[]⟩]],[]⟩ 8 (by kernel_rfl) (by kernel_rfl) (by kernel_rfl) (by kernel_rfl)) ?_
 intro W base args ds gs before hval0 hW hcnd _
 have hval : ∀ (j : Nat) t v,Tryz.f3.params[j]? = some t → args[j]? = some v → Value.okWide Tryz.prog W .any base t v := hval0
 have hW' := hW
 obtain ⟨p,q,hA0,hV,rfl,hfz,hnd⟩ := hW
 have hA : DataW.TrodAll enc Tryz.prog W 0 (fun _ => true) true Tryz.f3.params.toList args.toList ds p := hA0
 rw [Tryz.params3] at hA hval
 obtain ⟨v0,vs0,d0,ds0,p0,q0,hargs,rfl,rfl,h0,r0⟩ := trodAll_cons hA
 obtain ⟨v1,vs1,d1,ds1,p1,q1,rfl,rfl,rfl,h1,r1⟩ := trodAll_cons r0
 obtain ⟨v2,vs2,d2,ds2,p2,q2,rfl,rfl,rfl,h2,r2⟩ := trodAll_cons r1
 obtain ⟨rfl,rfl,rfl⟩ := trodAll_nil r2
 obtain rfl : args = #[v0,v1,v2] := by cases args;simp_all
 obtain ⟨rfl,rfl⟩ := trodVars_none hV
 obtain ⟨cs0,rfl,hsz0⟩ := okWide_struct Tryz.underlying25 (hval 0 25 v0 rfl rfl)
 have k0 := h0
 have lt0 : ∀ x ∈ p0,x.block < W.heap.size := by obtain ⟨m,hm⟩ := k0;exact DataW.trod_lt m _ _ _ hm
 obtain ⟨g0,av0,tv0,ms0,eg0,rg0⟩ := game_trod h0
 rw [eg0] at k0 hW' ⊢
 obtain ⟨a1,len1,cap1,rfl⟩ := okWide_slice Tryz.underlying26 (hval 1 26 v1 rfl rfl)
 have k1 := h1
 have lt1 : ∀ x ∈ p1,x.block < W.heap.size := by obtain ⟨m,hm⟩ := k1;exact DataW.trod_lt m _ _ _ hm
 obtain ⟨ms1,rg1⟩ := dos_open h1
 obtain ⟨cs2,rfl,hsz2⟩ := okWide_struct Tryz.underlying29 (hval 2 29 v2 rfl rfl)
 have k2 := h2
 have lt2 : ∀ x ∈ p2,x.block < W.heap.size := by obtain ⟨m,hm⟩ := k2;exact DataW.trod_lt m _ _ _ hm
 obtain ⟨dm2,db2,dx2,dr2,eg2,rg2,sz2⟩ := resI_open h2
 rw [eg2] at k2 hW' ⊢
 clear hA0 hval0
 refine (does33_walk g0 av0 tv0 ms0 _ ms1 dm2 db2 dx2 dr2 W rg0 rg1 rg2 sz2).mono fun e W' ⟨he,bel⟩ => ?_
 subst he
 exact ⟨_,rfl,_,_,_,[],_,[],hW',trodAll_mk1 (shut_bool Tryz.underlying4 _),(trodAll_cons_mk (Below.trod laidOut (by kernel_rfl) (of_decide_eq_true (by kernel_rfl)) k0 bel lt0) (trodAll_cons_mk (Below.trod laidOut (by kernel_rfl) (of_decide_eq_true (by kernel_rfl)) k1 bel lt1) (trodAll_cons_mk (Below.trod laidOut (by kernel_rfl) (of_decide_eq_true (by kernel_rfl)) k2 bel lt2) trodAll_mk0))),rfl,bel.frame _,fun h => by cases h⟩
theorem over : Rows.indexDoesRow.holds Tryz.pinned (OpenSpec.ofChange Rows.indexDoesSpec) :=
 OpenClaim.holds_of_wide 3 Tryz.f3 rfl rfl rfl rfl rfl rfl rfl ⟨rfl,rfl,rfl,rfl,rfl⟩ rfl rfl rfl rfl rfl (by kernel_rfl) Tryz.func3 (by kernel_rfl)
  (of_decide_eq_true (by kernel_rfl)) (by unfold Func.isWrapper;first | (rw [if_pos (by decide +kernel)];kernel_rfl) | (rw [if_neg (by decide +kernel)];exact ⟨rfl,rfl⟩))
  (fun os started H enc _ => lifted os started H enc)
theorem proved : Rows.IndexDoesSaid := over
#print axioms proved
end Go.Proofs.YtmocomkobbiflaaGreat.indexDoes
end

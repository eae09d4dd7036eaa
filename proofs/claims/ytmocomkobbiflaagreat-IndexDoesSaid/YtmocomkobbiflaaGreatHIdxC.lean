/- Lemmas, merged out of smaller texts (wip/tools/mergedce.py). No condition. -/
import Derived.Test.YtmocomkobbiflaaGreatHIdxB
import Derived.Test.YtmocomkobbiflaaGreatHLine
import Derived.Test.YtmocomkobbiflaaGreatHNat
import Derived.Test.YtmocomkobbiflaaGreatHWin
section
open Go.RowKit
set_option linter.unusedVariables false
set_option linter.unusedSimpArgs false
namespace Go.Proofs.YtmocomkobbiflaaGreat
def exH : GameD := ⟨⟨#[97]⟩,1,100,2,5,0,0,0,4,2,1,0,0,0,1,0,0,1,0,0,[],[⟨2,0,0,0,1,0⟩,⟨1,0,0,0,1,0⟩]⟩
theorem exh_game : gameE exH = 0 := by decide
def exD1 : EntD := ⟨4,0,([1,2],[])⟩
def exD2 : EntD := ⟨0,1,([2,3],[])⟩
def exD3 : EntD := ⟨0,0,([4,5],[])⟩
def exD4 : EntD := ⟨4,0,([3,4],[])⟩
def exD5 : EntD := ⟨-1,0,([1,2],[])⟩
def exD6 : EntD := ⟨5,0,([1,1],[])⟩
theorem exh_l12 : lineE exH [1,2] [] = 0 := by unfold lineE dupB;decide
theorem exh_l23 : lineE exH [2,3] [] = 0 := by unfold lineE dupB;decide
theorem exh_l45 : lineE exH [4,5] [] = 0 := by unfold lineE dupB;decide
theorem exh_l34 : lineE exH [3,4] [] = 0 := by unfold lineE dupB;decide
theorem exh_l11 : lineE exH [1,1] [] = 6 := by unfold lineE dupB;decide
theorem exh_a1 : addX exH [] exD1 = 0 := by unfold addX;rw [if_neg (by decide),if_neg (by show ¬ lineE exH [1,2] [] ≠ 0;rw [exh_l12];simp),if_neg (by decide)]
theorem exh_p1 : putX exH [] exD1 = [exD1] := by unfold putX;rw [if_pos exh_a1];rfl
theorem exh_a2 : addX exH [exD1] exD2 = 0 := by unfold addX;rw [if_neg (by decide),if_neg (by show ¬ lineE exH [2,3] [] ≠ 0;rw [exh_l23];simp),if_neg (by decide)]
theorem exh_p2 : putX exH [exD1] exD2 = [exD1,exD2] := by unfold putX;rw [if_pos exh_a2];rfl
theorem exh_a3 : addX exH [exD1,exD2] exD3 = 0 := by unfold addX;rw [if_neg (by decide),if_neg (by show ¬ lineE exH [4,5] [] ≠ 0;rw [exh_l45];simp),if_neg (by decide)]
theorem exh_p3 : putX exH [exD1,exD2] exD3 = [exD1,exD2,exD3] := by unfold putX;rw [if_pos exh_a3];rfl
theorem exh_a4 : addX exH [exD1,exD2,exD3] exD4 = 6 := by unfold addX;rw [if_neg (by decide),if_neg (by show ¬ lineE exH [3,4] [] ≠ 0;rw [exh_l34];simp),if_pos (by decide)]
theorem exh_p4 : putX exH [exD1,exD2,exD3] exD4 = [exD1,exD2,exD3] := by unfold putX;rw [if_neg (by rw [exh_a4];decide)]
theorem exh_a5 : addX exH [exD1,exD2,exD3] exD5 = 2 := by unfold addX;rw [if_pos (by decide)]
theorem exh_p5 : putX exH [exD1,exD2,exD3] exD5 = [exD1,exD2,exD3] := by unfold putX;rw [if_neg (by rw [exh_a5];decide)]
theorem exh_a6 : addX exH [exD1,exD2,exD3] exD6 = 6 := by
 unfold addX
 have h : lineE exH exD6.l.1 exD6.l.2 = 6 := exh_l11
 rw [if_neg (by decide),h,if_pos (by decide)]
theorem exh_p6 : putX exH [exD1,exD2,exD3] exD6 = [exD1,exD2,exD3] := by unfold putX;rw [if_neg (by rw [exh_a6];decide)]
def exR : ResD := ⟨[2,3],[],[],0,⟨#[]⟩⟩
def exR2 : ResD := ⟨[2],[],[],0,⟨#[]⟩⟩
theorem exh_order : orderE true 1 5 none [2,3] = 0 := by
 simp [orderE]
theorem exh_num : numE exH exR = 0 := by
 unfold numE
 rw [if_neg (by decide),if_neg (by decide),if_neg (by show ¬ orderE true 1 5 none [2,3] ≠ 0;rw [exh_order];simp),if_neg (by decide),if_neg (by decide),if_neg (by decide)]
theorem exh_res : resE exH exR = 0 := by
 unfold resE
 rw [if_neg (by rw [exh_game];simp),if_neg (by rw [exh_num];simp),if_neg (by decide),if_pos (by decide)]
theorem exh_res2 : resE exH exR2 = 3 := by
 have h : numE exH exR2 = 3 := by unfold numE;rw [if_pos (by decide)]
 unfold resE
 rw [if_neg (by rw [exh_game];simp),h,if_pos (by decide)]
theorem exh_sort : sortE [exD1,exD2,exD3] = [exD3,exD2,exD1] := by rfl
theorem exh_wins : winsX exH exR (sortE [exD1,exD2,exD3]) = [⟨0,1,0⟩,⟨4,0,1⟩] := by
 rw [exh_sort]
 rfl
theorem exh_cnt : cntGo exH.tiers.length (winsX exH exR (sortE [exD1,exD2,exD3])) = [1,1] := by
 rw [exh_wins]
 rfl
theorem rdS_row {α : Type} {sz : Nat} {V : α → List Value} (hV : ∀ x,(V x).length = sz) {w : World} {b : Nat} {t : TypeId} {l : List α} {n c : Nat} (hr : Row w b t (l.flatMap V)) (hn : n = l.length) (hc : n ≤ c) (hm : c ≤ 9223372036854775807) : RdS sz V w (.slice (some ⟨b,0,none⟩) n c) l := by
 subst hn
 refine ⟨_,c,rfl,hc,by unfold maxLen;omega,fun _ => ⟨b,0,rfl,hr.lt,fun i x hx j u hu => ?_⟩⟩
 rw [Nat.zero_add,hr.cell?]
 exact flatS_at hV l i j x u hx hu
set_option maxHeartbeats 4000000 in
set_option maxRecDepth 100000 in
theorem line33_any (v : Value) (a : List Int) (w : World) (h : Rd I64 w v a) :
  Calls Tryz.prog 42 #[v] w (fun e w' => e = .returned (lineVal v (.slice none 0 0)) ∧ Below w.heap.size w w') := by
 obtain ⟨a1,n1,k1,rfl⟩ := Rd.shape h
 clear h
 go_enter Tryz.func42,Tryz.ntmps42
 go_upto_region 1 with (fail)
 obtain ⟨W,hW⟩ : ∃ W,W = (w.alloc (Obj.cells #[(.slice none 0 0),(.slice none 0 0)] 41)) := ⟨_,rfl⟩
 have bW : Below w.heap.size w W := by rw [hW];exact Bel.al (Below.refl _ _) _
 have r0 : LineAt W (w.heap.size) ((.slice none 0 0)) ((.slice none 0 0)) := by rw [hW];exact Row.new _ _ _
 have sW : w.heap.size < W.heap.size := by rw [hW];simp
 rw [← hW]
 clear hW
 have x0 := LineAt.main r0
 have x1 := LineAt.bonus r0
 have x2 := Row.frozen r0 0
 have x3 := Row.frozen r0 1
 have rL : LineAt ((W.setCell ⟨w.heap.size,0,none⟩ (.slice a1 n1 k1)).setCell ⟨w.heap.size,1,none⟩ (.slice none 0 0)) w.heap.size (.slice a1 n1 k1) (.slice none 0 0) := LineAt.store r0 _ _
 have y0 := hide rL.main
 have y1 := hide rL.bonus
 have B9 := Bel.st (Bel.st bW (p := ⟨w.heap.size,0,none⟩) (Nat.le_refl _) (.slice a1 n1 k1)) (p := ⟨w.heap.size,1,none⟩) (Nat.le_refl _) (.slice none 0 0)
 clear rL
 go_wp2
 exact bodyPost_ret (v := .agg #[.slice a1 n1 k1,.slice none 0 0]) (by simp [results,Tryz.results42,go_sem,y0.out,y1.out]) rfl ⟨rfl,B9⟩
set_option maxHeartbeats 4000000 in
set_option maxRecDepth 100000 in
theorem example33_any (w : World) : Calls Tryz.prog 41 #[] w (GameB exH w) := by
 go_enter Tryz.func41,Tryz.ntmps41
 go_upto_region 1 with (fail)
 obtain ⟨W,hW⟩ : ∃ W,W = (w.alloc (Obj.cells #[.string ⟨#[]⟩,.int .i64 0,.int .i64 0,.int .i64 0,.int .i64 0,.int .i64 0,.int .i64 0,.int .i64 0,.int .i64 0,.int .i64 0,.int .i64 0,.int .i64 0,.int .i64 0,.int .i64 0,.int .i64 0,.int .i64 0,.int .i64 0,.int .i64 0,.int .i64 0,.int .i64 0,.slice none 0 0,.slice none 0 0] 25)) := ⟨_,rfl⟩
 have bW : Below w.heap.size w W := by rw [hW];exact Bel.al (Below.refl _ _) _
 have r0 : Row W ((w.heap.size)) 25 [.string ⟨#[]⟩,.int .i64 0,.int .i64 0,.int .i64 0,.int .i64 0,.int .i64 0,.int .i64 0,.int .i64 0,.int .i64 0,.int .i64 0,.int .i64 0,.int .i64 0,.int .i64 0,.int .i64 0,.int .i64 0,.int .i64 0,.int .i64 0,.int .i64 0,.int .i64 0,.int .i64 0,.slice none 0 0,.slice none 0 0] := by rw [hW];exact Row.new _ _ _
 have sW : w.heap.size < W.heap.size := by rw [hW];simp
 rw [← hW]
 clear hW
 go_wp2_with (first | (with_reducible refine wpList_store_whole rfl 25 _ _ rfl w.heap.size _ rfl rfl 25 _ (Row.alloc r0 _) ?_ ?_ ?_ ?_) | fail)
 case refine_1 => kernel_rfl
 case refine_2 => rfl
 case refine_3 => simp [Value.oneCell']
 intro W2 hrow hgr
 obtain ⟨Wd,hWd⟩ : ∃ Wd,Wd = W.alloc (Obj.cells #[.int .i64 2,.int .i64 0,.int .i64 0,.int .i64 0,.int .i64 1,.int .i64 0,.int .i64 1,.int .i64 0,.int .i64 0,.int .i64 0,.int .i64 1,.int .i64 0] 82) := ⟨_,rfl⟩
 have rt : Row Wd W.heap.size 82 (exH.tiers.flatMap tierCells) := by rw [hWd];exact Row.newOf _ rfl
 have bd : Below W.heap.size W Wd := by rw [hWd];exact Bel.al (Below.refl _ _) _
 rw [← hWd] at hgr
 clear hWd
 have hne : ∀ k,W.heap.size ≤ k → some k ≠ some w.heap.size := by intro k hk e;injection e with e;omega
 have rt2 : Row W2 W.heap.size 82 (exH.tiers.flatMap tierCells) := Row.grown rt hgr (hne _ (Nat.le_refl _))
 have hw : Below w.heap.size w W2 := Below.grown (Bel.to bW bd) hgr (Bel.to bW bd).size (fun k hk => by injection hk with hk;omega)
 have hG : GameR W2 (.slice none 0 0) (.slice (some ⟨W.heap.size,0,none⟩) 2 2) [] exH := ⟨⟨⟨none,0,rfl,Nat.le_refl _,by decide,fun h => absurd h (by simp)⟩,fun i m hm => by simp at hm⟩,rfl,rdS_row tier_len rt2 rfl (Nat.le_refl _) (by decide)⟩
 clear rt rt2 bd hgr
 go_wp2
 exact bodyPost_ret (v := gameVal exH (.slice none 0 0) (.slice (some ⟨W.heap.size,0,none⟩) 2 2)) (results_cell_row rfl _ _ w.heap.size 25 _ (0,0) _ rfl hrow Tryz.underlying25 rfl (by kernel_rfl)) rfl ⟨_,_,_,rfl,hG,hw⟩
instance decWin33 : DecidableEq WinD := fun a b => decidable_of_iff (a.ticket = b.ticket ∧ a.line = b.line ∧ a.tier = b.tier) (by cases a;cases b;simp)
set_option maxHeartbeats 2000000 in
set_option maxRecDepth 100000 in
theorem samewins33_any (va vb : Value) (la lb : List WinD) (w : World) (ha : WinsR w va la) (hb : WinsR w vb lb) :
  Calls Tryz.prog 22 #[va,vb] w (BoolB (decide (la = lb)) w) := by
 have hra := hide ha
 have hrb := hide hb
 obtain ⟨aa,ca,rfl,hla,hca⟩ := RdS.shape ha
 obtain ⟨ab,cb,rfl,hlb,hcb⟩ := RdS.shape hb
 clear ha hb
 obtain ⟨P,hP⟩ : ∃ P,P = decide (la = lb) := ⟨_,rfl⟩
 rw [← hP]
 replace hP := hide hP
 obtain ⟨n,hn⟩ : ∃ n,n = la.length := ⟨_,rfl⟩
 obtain ⟨m,hm⟩ : ∃ m,m = lb.length := ⟨_,rfl⟩
 have hn63 : n ≤ 9223372036854775807 := by unfold maxLen at hca;omega
 rw [← hn] at hra ⊢
 rw [← hm] at hrb ⊢
 replace hn := hide hn
 replace hm := hide hm
 clear hla hlb hca hcb
 by_cases hl : n = m
 ·subst hl
  have l3 : ((n : Int) != (n : Int)) = false := by simp
  go_enter Tryz.func22,Tryz.ntmps22
  go_wp2
  go_loopg [5] n (fun gh i wr => ∃ (k d : Nat),gh = n - k ∧ k ≤ n ∧ i = .int .i64 k ∧ wr = w.drewN d ∧ Hid (la.take k = lb.take k))
  case atStart => exact ⟨0,0,rfl,Nat.zero_le _,rfl,rfl,rfl⟩
  case round =>
   obtain ⟨k,d,hgh,hk,rfl,rfl,htk⟩ := hrel
   replace hgh := hide hgh
   by_cases hkl : k < n
   ·have hkl2 := hide hkl
    have k1 : k < la.length := by rw [← hn.out];exact hkl
    have k2 : k < lb.length := by rw [← hm.out];exact hkl
    obtain ⟨ba,offa,rfl,hba,hcella⟩ := hra.out.at_ k1
    obtain ⟨bb,offb,rfl,hbb,hcellb⟩ := hrb.out.at_ k2
    obtain ⟨x,hx⟩ : ∃ x,x = la[k] := ⟨_,rfl⟩
    obtain ⟨y,hy⟩ : ∃ y,y = lb[k] := ⟨_,rfl⟩
    have hxk : la[k]? = some x := by rw [hx];exact List.getElem?_eq_getElem k1
    have hyk : lb[k]? = some y := by rw [hy];exact List.getElem?_eq_getElem k2
    have hrA : (w.drewN d).drew.rangeAt ba (offa + k * 3) [.int .i64 x.ticket,.int .i64 x.line,.int .i64 x.tier] := fun j u hu => hcella k x hxk j u hu
    have hrB : (w.drewN d).drew.rangeAt bb (offb + k * 3) [.int .i64 y.ticket,.int .i64 y.line,.int .i64 y.tier] := fun j u hu => hcellb k y hyk j u hu
    have i1 : (0 : Int) ≤ (k : Int) := by omega
    have i2 : (k : Int) < (n : Int) := by omega
    have hsa : la.take (k + 1) = la.take k ++ [x] := by rw [List.take_succ_eq_append_getElem k1,hx]
    have hsb : lb.take (k + 1) = lb.take k ++ [y] := by rw [List.take_succ_eq_append_getElem k2,hy]
    by_cases he : x = y
    ·have ht2 : Hid (la.take (k + 1) = lb.take (k + 1)) := by show _ = _;rw [hsa,hsb,htk.out,he]
     clear hcella hcellb hx hy hxk hyk hsa hsb htk
     subst he
     go_upto_region 6 with (fail)
     refine wp_region_held_drew (S := fun X => X.rangeAt ba (offa + k * 3) [.int .i64 x.ticket,.int .i64 x.line,.int .i64 x.tier] ∧ X.rangeAt bb (offb + k * 3) [.int .i64 x.ticket,.int .i64 x.line,.int .i64 x.tier]) (by kernel_rfl) (⟨hrA,hrB⟩) (fun hHeld => ?_)
     refine' wpAnyH_take (i := 0) (oi := _) (v := .slice (some ⟨ba,offa,none⟩) n ca) rfl (by kernel_rfl) (by kernel_rfl) (by kernel_rfl) (fun _ _ _ h => h) (Or.inl ⟨by first | (go_simp;done) | rfl,fun X _ => by go_simp⟩) hHeld ?_
     try simp only [Act.put,zsA,zsB,zsC]
     refine' wpAnyH_take (i := 1) (oi := _) (v := .int .i64 (k : Int)) rfl (by kernel_rfl) (by kernel_rfl) (by kernel_rfl) (fun _ _ _ h => h) (Or.inl ⟨by first | (go_simp;done) | rfl,fun X _ => by go_simp⟩) hHeld ?_
     try simp only [Act.put,zsA,zsB,zsC]
     refine' wpAnyH_take (i := 2) (oi := _) (v := .pointer (some ⟨ba,offa + k * 3,none⟩)) rfl (by kernel_rfl) (by kernel_rfl) (by kernel_rfl) (fun _ _ _ h => h) (Or.inl ⟨by first | (go_simp;done) | rfl,fun X _ => by go_simp⟩) hHeld ?_
     try simp only [Act.put,zsA,zsB,zsC]
     refine' wpAnyH_take (i := 3) (oi := _) (v := .agg #[.int .i64 x.ticket,.int .i64 x.line,.int .i64 x.tier]) rfl (by kernel_rfl) (by kernel_rfl) (by kernel_rfl) (fun _ _ _ h => h) (by refine (yieldsIf_load_mid ?_ 59 (.tmp 19) rfl ba (offa + k * 3) ?_ ([.int .i64 x.ticket,.int .i64 x.line,.int .i64 x.tier]) _ (fun X h => h.1) Tryz.underlying59 rfl (by kernel_rfl)) <;> go_simp) hHeld ?_
     try simp only [Act.put,zsA,zsB,zsC]
     refine' wpAnyH_take (i := 4) (oi := _) (v := .slice (some ⟨bb,offb,none⟩) n cb) rfl (by kernel_rfl) (by kernel_rfl) (by kernel_rfl) (fun _ _ _ h => h) (Or.inl ⟨by first | (go_simp;done) | rfl,fun X _ => by go_simp⟩) hHeld ?_
     try simp only [Act.put,zsA,zsB,zsC]
     refine' wpAnyH_take (i := 5) (oi := _) (v := .int .i64 (k : Int)) rfl (by kernel_rfl) (by kernel_rfl) (by kernel_rfl) (fun _ _ _ h => h) (Or.inl ⟨by first | (go_simp;done) | rfl,fun X _ => by go_simp⟩) hHeld ?_
     try simp only [Act.put,zsA,zsB,zsC]
     refine' wpAnyH_take (i := 6) (oi := _) (v := .pointer (some ⟨bb,offb + k * 3,none⟩)) rfl (by kernel_rfl) (by kernel_rfl) (by kernel_rfl) (fun _ _ _ h => h) (Or.inl ⟨by first | (go_simp;done) | rfl,fun X _ => by go_simp⟩) hHeld ?_
     try simp only [Act.put,zsA,zsB,zsC]
     refine' wpAnyH_take (i := 7) (oi := _) (v := .agg #[.int .i64 x.ticket,.int .i64 x.line,.int .i64 x.tier]) rfl (by kernel_rfl) (by kernel_rfl) (by kernel_rfl) (fun _ _ _ h => h) (by refine (yieldsIf_load_mid ?_ 59 (.tmp 23) rfl bb (offb + k * 3) ?_ ([.int .i64 x.ticket,.int .i64 x.line,.int .i64 x.tier]) _ (fun X h => h.2) Tryz.underlying59 rfl (by kernel_rfl)) <;> go_simp) hHeld ?_
     try simp only [Act.put,zsA,zsB,zsC]
     refine' wpAnyH_take (i := 8) (oi := _) (v := .bool false) rfl (by kernel_rfl) (by kernel_rfl) (by kernel_rfl) (fun _ _ _ h => h) (Or.inl ⟨by first | (go_simp;done) | rfl,fun X _ => by go_simp⟩) hHeld ?_
     try simp only [Act.put,zsA,zsB,zsC]
     refine wpAnyH_done (by kernel_rfl) ?_ _
     go_simp
     clear hHeld
     go_wp2
     go_roundg (n - (k + 1))
     case measure => have := hgh.out;have := hkl2.out;omega
     case rel => exact ⟨k + 1,_,rfl,by have := hkl2.out;omega,by go_num,rfl,ht2⟩
    ·have hPf : Hid (P = false) := by
      show _ = _
      rw [hP.out]
      refine decide_eq_false (fun e => he ?_)
      subst e
      rw [hx,hy]
     have hb1 : x.ticket = y.ticket → x.line = y.line → ¬x.tier = y.tier := by
      rcases x with ⟨x1,x2,x3⟩
      rcases y with ⟨y1,y2,y3⟩
      simpa only [WinD.mk.injEq,not_and] using he
     replace he := hide he
     replace hb1 := hide hb1
     clear hcella hcellb hx hy hxk hyk hsa hsb htk
     go_upto_region 6 with (fail)
     refine wp_region_held_drew (S := fun X => X.rangeAt ba (offa + k * 3) [.int .i64 x.ticket,.int .i64 x.line,.int .i64 x.tier] ∧ X.rangeAt bb (offb + k * 3) [.int .i64 y.ticket,.int .i64 y.line,.int .i64 y.tier]) (by kernel_rfl) (⟨hrA,hrB⟩) (fun hHeld => ?_)
     refine' wpAnyH_take (i := 0) (oi := _) (v := .slice (some ⟨ba,offa,none⟩) n ca) rfl (by kernel_rfl) (by kernel_rfl) (by kernel_rfl) (fun _ _ _ h => h) (Or.inl ⟨by first | (go_simp;done) | rfl,fun X _ => by go_simp⟩) hHeld ?_
     try simp only [Act.put,zsA,zsB,zsC]
     refine' wpAnyH_take (i := 1) (oi := _) (v := .int .i64 (k : Int)) rfl (by kernel_rfl) (by kernel_rfl) (by kernel_rfl) (fun _ _ _ h => h) (Or.inl ⟨by first | (go_simp;done) | rfl,fun X _ => by go_simp⟩) hHeld ?_
     try simp only [Act.put,zsA,zsB,zsC]
     refine' wpAnyH_take (i := 2) (oi := _) (v := .pointer (some ⟨ba,offa + k * 3,none⟩)) rfl (by kernel_rfl) (by kernel_rfl) (by kernel_rfl) (fun _ _ _ h => h) (Or.inl ⟨by first | (go_simp;done) | rfl,fun X _ => by go_simp⟩) hHeld ?_
     try simp only [Act.put,zsA,zsB,zsC]
     refine' wpAnyH_take (i := 3) (oi := _) (v := .agg #[.int .i64 x.ticket,.int .i64 x.line,.int .i64 x.tier]) rfl (by kernel_rfl) (by kernel_rfl) (by kernel_rfl) (fun _ _ _ h => h) (by refine (yieldsIf_load_mid ?_ 59 (.tmp 19) rfl ba (offa + k * 3) ?_ ([.int .i64 x.ticket,.int .i64 x.line,.int .i64 x.tier]) _ (fun X h => h.1) Tryz.underlying59 rfl (by kernel_rfl)) <;> go_simp) hHeld ?_
     try simp only [Act.put,zsA,zsB,zsC]
     refine' wpAnyH_take (i := 4) (oi := _) (v := .slice (some ⟨bb,offb,none⟩) n cb) rfl (by kernel_rfl) (by kernel_rfl) (by kernel_rfl) (fun _ _ _ h => h) (Or.inl ⟨by first | (go_simp;done) | rfl,fun X _ => by go_simp⟩) hHeld ?_
     try simp only [Act.put,zsA,zsB,zsC]
     refine' wpAnyH_take (i := 5) (oi := _) (v := .int .i64 (k : Int)) rfl (by kernel_rfl) (by kernel_rfl) (by kernel_rfl) (fun _ _ _ h => h) (Or.inl ⟨by first | (go_simp;done) | rfl,fun X _ => by go_simp⟩) hHeld ?_
     try simp only [Act.put,zsA,zsB,zsC]
     refine' wpAnyH_take (i := 6) (oi := _) (v := .pointer (some ⟨bb,offb + k * 3,none⟩)) rfl (by kernel_rfl) (by kernel_rfl) (by kernel_rfl) (fun _ _ _ h => h) (Or.inl ⟨by first | (go_simp;done) | rfl,fun X _ => by go_simp⟩) hHeld ?_
     try simp only [Act.put,zsA,zsB,zsC]
     refine' wpAnyH_take (i := 7) (oi := _) (v := .agg #[.int .i64 y.ticket,.int .i64 y.line,.int .i64 y.tier]) rfl (by kernel_rfl) (by kernel_rfl) (by kernel_rfl) (fun _ _ _ h => h) (by refine (yieldsIf_load_mid ?_ 59 (.tmp 23) rfl bb (offb + k * 3) ?_ ([.int .i64 y.ticket,.int .i64 y.line,.int .i64 y.tier]) _ (fun X h => h.2) Tryz.underlying59 rfl (by kernel_rfl)) <;> go_simp) hHeld ?_
     try simp only [Act.put,zsA,zsB,zsC]
     refine' wpAnyH_take (i := 8) (oi := _) (v := .bool true) rfl (by kernel_rfl) (by kernel_rfl) (by kernel_rfl) (fun _ _ _ h => h) (Or.inl ⟨by first | (go_simp;done) | rfl,fun X _ => by go_simp;exact hb1.out⟩) hHeld ?_
     try simp only [Act.put,zsA,zsB,zsC]
     refine wpAnyH_done (by kernel_rfl) ?_ _
     go_simp
     clear hHeld
     go_wp2
     go_ret
     exact ⟨by rw [hPf.out];rfl,Bel.drN (Below.refl _ _) _⟩
   ·have hke : k = n := by omega
    subst hke
    have hPt : Hid (P = true) := by
     show _ = _
     rw [hP.out]
     refine decide_eq_true ?_
     have h9 := htk.out
     rw [List.take_of_length_le (by rw [hn.out];exact Nat.le_refl _),List.take_of_length_le (by rw [hm.out];exact Nat.le_refl _)] at h9
     exact h9
    have i2 : ¬ (k : Int) < (k : Int) := by omega
    go_wp2
    go_ret
    exact ⟨by rw [hPt.out];rfl,Bel.drN (Below.refl _ _) _⟩
 ·have hPf : Hid (P = false) := by
   show _ = _
   rw [hP.out]
   refine decide_eq_false (fun e => hl ?_)
   rw [hn.out,hm.out,e]
  have l3 : ((n : Int) != (m : Int)) = true := by simp;omega
  replace hl := hide hl
  go_enter Tryz.func22,Tryz.ntmps22
  go_wp2
  go_ret
  exact ⟨by rw [hPf.out];rfl,Below.refl _ _⟩
theorem exh_winsQ : winsQ exH exR [exD1,exD2,exD3] = [⟨0,1,0⟩,⟨4,0,1⟩] := by unfold winsQ;rw [if_neg (by rw [exh_res];simp),exh_wins]
theorem exh_cntQ : cntQ exH exR [exD1,exD2,exD3] = [1,1] := by unfold cntQ;rw [if_neg (by rw [exh_res];simp),exh_cnt]
set_option maxHeartbeats 8000000 in
set_option maxRecDepth 100000 in
theorem awake33_any (w : World) : Calls Tryz.prog 13 #[] w (BoolB true w) := by
 have cE := hide (example33_any w)
 go_enter Tryz.func13,Tryz.ntmps13
 go_wp2_with fail
 refine cE.out.mono ?_
 rintro e w1 ⟨av,tv,ms,rfl,hG,hb1⟩
 have cN := hide (inew_ok exH av tv ms w1 hG exh_game)
 go_wp2_with fail
 refine cN.out.mono ?_
 intro e w2 hN
 obtain ⟨ib,col,rfl,hI,-,-⟩ := NewO.idxB (w := w) exh_game hb1 hN
 clear hN cN hG cE hb1
 go_wp2_with fail
 obtain ⟨y0,hy0⟩ : ∃ y0,y0 = w2.alloc (Obj.cells #[.int .i64 1,.int .i64 2] 3) := ⟨_,rfl⟩
 have ry0 : Row y0 w2.heap.size 3 (([1,2] : List Int).map I64) := by rw [hy0];exact Row.newOf _ rfl
 have by0 : Below w2.heap.size w2 y0 := by rw [hy0];exact Bel.al (Below.refl _ _) _
 rw [← hy0]
 clear hy0
 refine (line33_any _ [1,2] y0 (Row.rdAll ry0 rfl (Nat.le_refl _) (by decide))).mono ?_
 rintro e z0 ⟨rfl,bz0⟩
 have c0 := iadd_lit (t := 4) (k := 0) ((hI.below by0).below bz0) (Row.keep ry0 bz0) rfl (by decide) (hI.new6 _ (Nat.le_refl _)) (by decide) (by decide) (by decide)
 rw [show addX exH [] ⟨4,0,([1,2],[])⟩ = 0 from exh_a1,show putX exH [] ⟨4,0,([1,2],[])⟩ = [exD1] from exh_p1] at c0
 clear ry0 by0 bz0 hI
 replace c0 := hide c0
 go_wp2_with fail
 refine c0.out.mono ?_
 rintro e x0 ⟨rfl,col0,hL,hI,hC⟩
 clear hL hC c0
 go_wp2_with fail
 obtain ⟨y1,hy1⟩ : ∃ y1,y1 = x0.alloc (Obj.cells #[.int .i64 2,.int .i64 3] 3) := ⟨_,rfl⟩
 have ry1 : Row y1 x0.heap.size 3 (([2,3] : List Int).map I64) := by rw [hy1];exact Row.newOf _ rfl
 have by1 : Below x0.heap.size x0 y1 := by rw [hy1];exact Bel.al (Below.refl _ _) _
 rw [← hy1]
 clear hy1
 refine (line33_any _ [2,3] y1 (Row.rdAll ry1 rfl (Nat.le_refl _) (by decide))).mono ?_
 rintro e z1 ⟨rfl,bz1⟩
 have c1 := iadd_lit (t := 0) (k := 1) ((hI.below by1).below bz1) (Row.keep ry1 bz1) rfl (by decide) (hI.new6 _ (Nat.le_refl _)) (by decide) (by decide) (by decide)
 rw [show addX exH [exD1] ⟨0,1,([2,3],[])⟩ = 0 from exh_a2,show putX exH [exD1] ⟨0,1,([2,3],[])⟩ = [exD1,exD2] from exh_p2] at c1
 clear ry1 by1 bz1 hI
 replace c1 := hide c1
 go_wp2_with fail
 refine c1.out.mono ?_
 rintro e x1 ⟨rfl,col1,hL,hI,hC⟩
 clear hL hC c1
 go_wp2_with fail
 obtain ⟨y2,hy2⟩ : ∃ y2,y2 = x1.alloc (Obj.cells #[.int .i64 4,.int .i64 5] 3) := ⟨_,rfl⟩
 have ry2 : Row y2 x1.heap.size 3 (([4,5] : List Int).map I64) := by rw [hy2];exact Row.newOf _ rfl
 have by2 : Below x1.heap.size x1 y2 := by rw [hy2];exact Bel.al (Below.refl _ _) _
 rw [← hy2]
 clear hy2
 refine (line33_any _ [4,5] y2 (Row.rdAll ry2 rfl (Nat.le_refl _) (by decide))).mono ?_
 rintro e z2 ⟨rfl,bz2⟩
 have c2 := iadd_lit (t := 0) (k := 0) ((hI.below by2).below bz2) (Row.keep ry2 bz2) rfl (by decide) (hI.new6 _ (Nat.le_refl _)) (by decide) (by decide) (by decide)
 rw [show addX exH [exD1,exD2] ⟨0,0,([4,5],[])⟩ = 0 from exh_a3,show putX exH [exD1,exD2] ⟨0,0,([4,5],[])⟩ = [exD1,exD2,exD3] from exh_p3] at c2
 clear ry2 by2 bz2 hI
 replace c2 := hide c2
 go_wp2_with fail
 refine c2.out.mono ?_
 rintro e x2 ⟨rfl,col2,hL,hI,hC⟩
 clear hL hC c2
 go_wp2_with fail
 obtain ⟨y3,hy3⟩ : ∃ y3,y3 = x2.alloc (Obj.cells #[.int .i64 3,.int .i64 4] 3) := ⟨_,rfl⟩
 have ry3 : Row y3 x2.heap.size 3 (([3,4] : List Int).map I64) := by rw [hy3];exact Row.newOf _ rfl
 have by3 : Below x2.heap.size x2 y3 := by rw [hy3];exact Bel.al (Below.refl _ _) _
 rw [← hy3]
 clear hy3
 refine (line33_any _ [3,4] y3 (Row.rdAll ry3 rfl (Nat.le_refl _) (by decide))).mono ?_
 rintro e z3 ⟨rfl,bz3⟩
 have c3 := iadd_lit (t := 4) (k := 0) ((hI.below by3).below bz3) (Row.keep ry3 bz3) rfl (by decide) (hI.new6 _ (Nat.le_refl _)) (by decide) (by decide) (by decide)
 rw [show addX exH [exD1,exD2,exD3] ⟨4,0,([3,4],[])⟩ = 6 from exh_a4,show putX exH [exD1,exD2,exD3] ⟨4,0,([3,4],[])⟩ = [exD1,exD2,exD3] from exh_p4] at c3
 clear ry3 by3 bz3 hI
 replace c3 := hide c3
 go_wp2_with fail
 refine c3.out.mono ?_
 rintro e x3 ⟨rfl,col3,hL,hI,hC⟩
 clear hL hC c3
 go_wp2_with fail
 obtain ⟨y4,hy4⟩ : ∃ y4,y4 = x3.alloc (Obj.cells #[.int .i64 1,.int .i64 2] 3) := ⟨_,rfl⟩
 have ry4 : Row y4 x3.heap.size 3 (([1,2] : List Int).map I64) := by rw [hy4];exact Row.newOf _ rfl
 have by4 : Below x3.heap.size x3 y4 := by rw [hy4];exact Bel.al (Below.refl _ _) _
 rw [← hy4]
 clear hy4
 refine (line33_any _ [1,2] y4 (Row.rdAll ry4 rfl (Nat.le_refl _) (by decide))).mono ?_
 rintro e z4 ⟨rfl,bz4⟩
 have c4 := iadd_lit (t := (-1)) (k := 0) ((hI.below by4).below bz4) (Row.keep ry4 bz4) rfl (by decide) (hI.new6 _ (Nat.le_refl _)) (by decide) (by decide) (by decide)
 rw [show addX exH [exD1,exD2,exD3] ⟨-1,0,([1,2],[])⟩ = 2 from exh_a5,show putX exH [exD1,exD2,exD3] ⟨-1,0,([1,2],[])⟩ = [exD1,exD2,exD3] from exh_p5] at c4
 clear ry4 by4 bz4 hI
 replace c4 := hide c4
 go_wp2_with fail
 refine c4.out.mono ?_
 rintro e x4 ⟨rfl,col4,hL,hI,hC⟩
 clear hL hC c4
 go_wp2_with fail
 obtain ⟨y5,hy5⟩ : ∃ y5,y5 = x4.alloc (Obj.cells #[.int .i64 1,.int .i64 1] 3) := ⟨_,rfl⟩
 have ry5 : Row y5 x4.heap.size 3 (([1,1] : List Int).map I64) := by rw [hy5];exact Row.newOf _ rfl
 have by5 : Below x4.heap.size x4 y5 := by rw [hy5];exact Bel.al (Below.refl _ _) _
 rw [← hy5]
 clear hy5
 refine (line33_any _ [1,1] y5 (Row.rdAll ry5 rfl (Nat.le_refl _) (by decide))).mono ?_
 rintro e z5 ⟨rfl,bz5⟩
 have c5 := iadd_lit (t := 5) (k := 0) ((hI.below by5).below bz5) (Row.keep ry5 bz5) rfl (by decide) (hI.new6 _ (Nat.le_refl _)) (by decide) (by decide) (by decide)
 rw [show addX exH [exD1,exD2,exD3] ⟨5,0,([1,1],[])⟩ = 6 from exh_a6,show putX exH [exD1,exD2,exD3] ⟨5,0,([1,1],[])⟩ = [exD1,exD2,exD3] from exh_p6] at c5
 clear ry5 by5 bz5 hI
 replace c5 := hide c5
 go_wp2_with fail
 refine c5.out.mono ?_
 rintro e x5 ⟨rfl,col5,hL,hI,hC⟩
 clear hL hC c5
 go_wp2_with fail
 obtain ⟨u0,hu0⟩ : ∃ u0,u0 = x5.alloc (Obj.cells #[.int .i64 2,.int .i64 3] 3) := ⟨_,rfl⟩
 have ru0 : Row u0 x5.heap.size 3 (([2,3] : List Int).map I64) := by rw [hu0];exact Row.newOf _ rfl
 have bu0 : Below x5.heap.size x5 u0 := by rw [hu0];exact Bel.al (Below.refl _ _) _
 rw [← hu0]
 clear hu0
 have k0 := iwins_any ib _ exH [exD1,exD2,exD3] (.slice (some ⟨x5.heap.size,0,none⟩) 2 2) (.slice none 0 0) (.slice none 0 0) exR u0 (hI.below bu0).1 ⟨Row.rdAll ru0 rfl (Nat.le_refl _) (by decide),Rd.nil,Rd.nil⟩ (by decide) (by decide)
 rw [exh_winsQ,exh_res] at k0
 replace k0 := hide k0
 have hI := hI.below bu0
 refine k0.out.mono ?_
 rintro e v0 ⟨s0,rfl,o0,b0⟩
 obtain ⟨p0,q0,rfl⟩ := OwnS.shape o0
 have hI := hI.below b0
 have o1 := OwnWin.rd o0
 clear k0 ru0 bu0 b0 o0
 go_wp2_with fail
 obtain ⟨u1,hu1⟩ : ∃ u1,u1 = v0.alloc (Obj.cells #[.int .i64 2,.int .i64 3] 3) := ⟨_,rfl⟩
 have ru1 : Row u1 v0.heap.size 3 (([2,3] : List Int).map I64) := by rw [hu1];exact Row.newOf _ rfl
 have bu1 : Below v0.heap.size v0 u1 := by rw [hu1];exact Bel.al (Below.refl _ _) _
 rw [← hu1]
 clear hu1
 have k1 := icounts_any ib _ exH [exD1,exD2,exD3] (.slice (some ⟨v0.heap.size,0,none⟩) 2 2) (.slice none 0 0) (.slice none 0 0) exR u1 (hI.below bu1).1 ⟨Row.rdAll ru1 rfl (Nat.le_refl _) (by decide),Rd.nil,Rd.nil⟩ (by decide) (by decide)
 rw [exh_cntQ,exh_res] at k1
 replace k1 := hide k1
 have hI := hI.below bu1
 refine k1.out.mono ?_
 rintro e v1 ⟨s1,rfl,o2,b1⟩
 obtain ⟨p1,q1,t1,rfl⟩ := o2.shape
 have hI := hI.below b1
 have o3 := RdS.below (RdS.below o1 bu1) b1
 clear k1 ru1 bu1 b1 o1
 go_wp2_with fail
 obtain ⟨u2,hu2⟩ : ∃ u2,u2 = v1.alloc (Obj.cells #[.int .i64 2] 3) := ⟨_,rfl⟩
 have ru2 : Row u2 v1.heap.size 3 (([2] : List Int).map I64) := by rw [hu2];exact Row.newOf _ rfl
 have bu2 : Below v1.heap.size v1 u2 := by rw [hu2];exact Bel.al (Below.refl _ _) _
 rw [← hu2]
 clear hu2
 have k2 := iwins_any ib _ exH [exD1,exD2,exD3] (.slice (some ⟨v1.heap.size,0,none⟩) 1 1) (.slice none 0 0) (.slice none 0 0) exR2 u2 (hI.below bu2).1 ⟨Row.rdAll ru2 rfl (Nat.le_refl _) (by decide),Rd.nil,Rd.nil⟩ (by decide) (by decide)
 rw [exh_res2] at k2
 replace k2 := hide k2
 have hI := hI.below bu2
 refine k2.out.mono ?_
 rintro e v2 ⟨s2,rfl,o4,b2⟩
 obtain ⟨p2,q2,rfl⟩ := OwnS.shape o4
 have hI := hI.below b2
 have o5 := RdS.below (RdS.below o3 bu2) b2
 have o6 := (o2.below bu2).below b2
 clear k2 ru2 bu2 b2 o3 o4 o2
 have kL := hide (ilen_any ib _ exH [exD1,exD2,exD3] v2 hI.1)
 go_wp2_with fail
 refine kL.out.mono ?_
 rintro e v3 ⟨rfl,rfl⟩
 go_wp2_with fail
 obtain ⟨Y,hY⟩ : ∃ Y,Y = v2.alloc (Obj.cells #[.int .i64 0,.int .i64 1,.int .i64 0,.int .i64 4,.int .i64 0,.int .i64 1] 59) := ⟨_,rfl⟩
 have rY : Row Y v2.heap.size 59 (([⟨0,1,0⟩,⟨4,0,1⟩] : List WinD).flatMap winCells) := by rw [hY];exact Row.newOf _ rfl
 have bY : Below v2.heap.size v2 Y := by rw [hY];exact Bel.al (Below.refl _ _) _
 rw [← hY]
 clear hY
 have cS := samewins33_any _ _ _ _ Y (RdS.below o5 bY) (rdS_row win_len rY (n := 2) (c := 2) rfl (Nat.le_refl _) (by decide))
 rw [decide_eq_true (show ([⟨0,1,0⟩,⟨4,0,1⟩] : List WinD) = [⟨0,1,0⟩,⟨4,0,1⟩] from rfl)] at cS
 refine cS.mono ?_
 rintro e v4 ⟨rfl,b4⟩
 have o7 := (o6.below bY).below b4
 have B4 := Bel.to hI.bel (Bel.to bY b4)
 clear cS rY bY b4 o5 o6 kL
 go_wp2_with fail
 obtain ⟨Y2,hY2⟩ : ∃ Y2,Y2 = v4.alloc (Obj.cells #[.int .i64 1,.int .i64 1] 3) := ⟨_,rfl⟩
 have rY2 : Row Y2 v4.heap.size 3 (([1,1] : List Int).map I64) := by rw [hY2];exact Row.newOf _ rfl
 have bY2 : Below v4.heap.size v4 Y2 := by rw [hY2];exact Bel.al (Below.refl _ _) _
 rw [← hY2]
 clear hY2
 have cI := ints13 _ _ _ _ Y2 (o7.below bY2) (Row.rdAll rY2 (n := 2) (c := 2) rfl (Nat.le_refl _) (by decide))
 rw [decide_eq_true (show ([1,1] : List Int) = [1,1] from rfl)] at cI
 refine cI.mono ?_
 rintro e v5 ⟨rfl,b5⟩
 have B5 := Bel.to B4 (Bel.to bY2 b5)
 go_wp2
 go_ret
 exact ⟨rfl,B5⟩
end Go.Proofs.YtmocomkobbiflaaGreat
end

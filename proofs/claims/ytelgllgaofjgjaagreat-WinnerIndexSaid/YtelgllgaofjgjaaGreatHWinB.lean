/- Lemmas, merged out of smaller texts (wip/tools/mergedce.py). No condition. -/
import Derived.BigQuiet
import Derived.Test.YtelgllgaofjgjaaGreatHWinA
import Derived.Test.YtelgllgaofjgjaaGreatHLine
import Derived.Test.YtelgllgaofjgjaaGreatHSysB
import Derived.Test.YtelgllgaofjgjaaGreatHBetA
import Derived.Test.YtelgllgaofjgjaaGreatHCore
section
open Go.RowKit
set_option linter.unusedVariables false
set_option linter.unusedSimpArgs false
namespace Go.Proofs.YtelgllgaofjgjaaGreat
structure Grown2 (w w' : World) (wb : Nat) (row : Option Nat) : Prop where
 os : w'.os = w.os
 tape : w'.tape = w.tape
 output : w'.output = w.output
 size : w.heap.size ≤ w'.heap.size
 block : ∀ k,k < w.heap.size → k ≠ wb → some k ≠ row → w'.heap[k]? = w.heap[k]?
theorem Grown2.ofBelow {w w' : World} (h : Below w.heap.size w w') (wb : Nat) (row : Option Nat) : Grown2 w w' wb row := ⟨h.os,h.tape,h.output,h.size,fun k hk _ _ => h.block k hk⟩
theorem Grown2.below {w w' : World} {wb B : Nat} {row : Option Nat} (h : Grown2 w w' wb row) (hb : B ≤ wb) (hr : ∀ k,row = some k → B ≤ k) (hB : B ≤ w.heap.size) : Below B w w' :=
 ⟨h.os,h.tape,h.output,h.size,fun k hk => h.block k (by omega) (by omega) (fun e => by have := hr k e.symm;omega)⟩
theorem infoWin : (Tryz.prog.info? 67).map (fun i => (i.zero,i.size,i.bytes)) = some (some (.agg #[.int .i64 0,.int .i64 0,.int .i64 0]),3,24) := by kernel_rfl
theorem winOne (x : WinD) : ∀ u ∈ winCells x,u.oneCell' = true := by
 intro u hu
 simp [winCells] at hu
 rcases hu with rfl | rfl | rfl <;> rfl
def addW (g : GameD) (r : ResD) (i j : Int) (x : LineD) (E : List WinD) : List WinD := if (tierP g x r).2 = 0 ∧ (tierP g x r).1 ≠ -1 then E ++ [⟨i,j,(tierP g x r).1⟩] else E
set_option maxHeartbeats 8000000 in
set_option maxRecDepth 100000 in
theorem wins_add (g : GameD) (av tv lm lb mv bv xv : Value) (ms : List AddonM) (x : LineD) (r : ResD) (i j : Int) (gb rb wb base : Nat) (ea : Option Addr) (ec : Nat) (E : List WinD) (w : World) (hg : GameR w av tv ms g) (hl : LineR w lm lb x.1 x.2) (hr : ResR w mv bv xv r) (hs : r.serial.size ≤ 9223372036854775807)
  (hG : GameAt w gb g av tv) (hR : Row w rb 29 (resCells mv bv xv r)) (hW : Row w wb 35 [.slice ea E.length ec]) (hown : OwnWin w base (.slice ea E.length ec) E) (hb : wb < base) (hbs : base ≤ w.heap.size) (hE : E.length ≤ 1000000) :
  Calls Tryz.prog 19 #[.int .i64 i,.int .i64 j,lineVal lm lb,.pointer (some ⟨gb,0,none⟩),.pointer (some ⟨rb,0,none⟩),.pointer (some ⟨wb,0,none⟩)] w
   (fun e w' => e = .returned (.int .i64 (tierP g x r).2) ∧ ∃ ea' ec',Row w' wb 35 [.slice ea' (addW g r i j x E).length ec'] ∧ OwnWin w' base (.slice ea' (addW g r i j x E).length ec') (addW g r i j x E) ∧ Grown2 w w' wb (Value.slice ea E.length ec).ownBlock ∧ ((Value.slice ea' (addW g r i j x E).length ec').ownBlock = (Value.slice ea E.length ec).ownBlock ∨ ∃ k,(Value.slice ea' (addW g r i j x E).length ec').ownBlock = some k ∧ w.heap.size ≤ k)) := by
 have cT := hide (fun X (hX : Below w.heap.size w X) => mtier_any g av tv lm lb mv bv xv ms x r X (hg.below hX) (hl.below hX) (hr.below hX) hs)
 unfold addW
 obtain ⟨Q,hQ⟩ : ∃ Q,Q = tierP g x r := ⟨_,rfl⟩
 rw [← hQ] at cT ⊢
 obtain ⟨t,c⟩ := Q
 simp only [] at cT ⊢
 obtain ⟨E2,hE2⟩ : ∃ E2,E2 = if c = 0 ∧ t ≠ -1 then E ++ [(⟨i,j,t⟩ : WinD)] else E := ⟨_,rfl⟩
 rw [← hE2]
 replace hE2 := hide hE2
 obtain ⟨aa,ac,rfl,hal,ham⟩ := hg.1.1.shape
 obtain ⟨ta,tc,rfl,htl,htm⟩ := hg.2.2.shape
 obtain ⟨a1,n1,k1,rfl⟩ := Rd.shape hl.1
 obtain ⟨a2,n2,k2,rfl⟩ := Rd.shape hl.2
 obtain ⟨ma,mc,rfl,-,-,-⟩ := hr.1.form
 obtain ⟨ba,bc,rfl,-,-,-⟩ := hr.2.1.form
 obtain ⟨xa,xc,rfl,-,-,-⟩ := hr.2.2.form
 clear hg hl hr hal ham htl htm hs hQ
 unfold gameVal lineVal resVal at cT
 unfold lineVal
 go_enter Tryz.func19,Tryz.ntmps19
 go_upto_region 1 with (fail)
 obtain ⟨W,hW⟩ : ∃ W,W = (w.alloc (Obj.cells #[(.slice a1 n1 k1),(.slice a2 n2 k2)] 53)) := ⟨_,rfl⟩
 have bW : Below w.heap.size w W := by rw [hW];exact Bel.al (Below.refl _ _) _
 have r0 : LineAt W (w.heap.size) ((.slice a1 n1 k1)) ((.slice a2 n2 k2)) := by rw [hW];exact Row.new _ _ _
 have sW : w.heap.size < W.heap.size := by rw [hW];simp
 rw [← hW]
 clear hW
 have rG := hG.keep bW
 have rR : Row W rb 29 [.slice ma r.main.length mc,.slice ba r.bonus.length bc,.slice xa r.extra.length xc,.int .i64 r.factor,.string r.serial] := Row.keep hR bW
 have rW := Row.keep hW bW
 have hown1 : OwnWin W base (.slice ea E.length ec) E := OwnS.keep hown bW
 have hlt := OwnS.lt hown
 clear hG hR hW hown
 go_wp2_with (first | (refine wpList_load_row rfl 25 _ rfl _ rfl _ _ _ _ rG Tryz.underlying25 rfl (by kernel_rfl) ?_) | (refine wpList_load_row rfl 53 _ rfl _ rfl _ _ _ _ r0 Tryz.underlying53 rfl (by kernel_rfl) ?_) | (refine wpList_load_row rfl 29 _ rfl _ rfl _ _ _ _ rR Tryz.underlying29 rfl (by kernel_rfl) ?_) | fail)
 refine (cT.out _ bW).mono ?_
 rintro e w1 ⟨rfl,hb1⟩
 have B1 := Bel.to bW hb1
 have rW := Row.keep rW hb1
 have hown2 : OwnWin w1 base (.slice ea E.length ec) E := OwnS.keep hown1 hb1
 clear hown1 rG rR r0 cT hb1 bW
 have cw : w1.cell? ⟨wb,0,none⟩ = some (.slice ea E.length ec) := (rW.cell? 0).trans rfl
 have fw := Row.frozen rW 0
 have hwlt := rW.lt
 by_cases hc : c = 0
 rotate_left
 ·have hcb : (c == 0) = false := by simpa using hc
  have hE3 := hE2.out
  rw [if_neg (fun h => hc h.1)] at hE3
  subst hE3
  replace hc := hide hc
  replace hlt := hide hlt
  go_wp2
  go_ret
  exact ⟨rfl,ea,ec,rW,hown2,Grown2.ofBelow B1 _ _,.inl rfl⟩
 subst hc
 by_cases ht : t = -1
 ·have htb : (t != -1) = false := by simpa using ht
  have hE3 := hE2.out
  rw [if_neg (fun h => h.2 ht)] at hE3
  subst hE3
  replace ht := hide ht
  replace hlt := hide hlt
  go_wp2
  go_ret
  exact ⟨rfl,ea,ec,rW,hown2,Grown2.ofBelow B1 _ _,.inl rfl⟩
 have htb : (t != -1) = true := by simpa using ht
 have hE3 := hE2.out
 rw [if_pos ⟨rfl,ht⟩] at hE3
 replace hE3 := hide hE3
 clear hE2
 replace ht := hide ht
 have hlth := hide hlt
 clear hlt
 go_upto_region 3 with (fail)
 go_wp2_with (with_reducible refine wpList_appendS _ rfl _ _ 35 rfl (sz := 3) (V := winCells) (R := fun _ _ => True) win_len base 67 (.agg #[.int .i64 0,.int .i64 0,.int .i64 0]) 24 Tryz.underlying35 infoWin rfl (by decide) _ E rfl ?_ _ [⟨i,j,t⟩] rfl ?_ ?_ ?_ ?_ ?_ ?_ ?_)
 case refine_1 => exact OwnS.keep hown2 (Bel.al (Below.refl _ _) _)
 case refine_2 => exact rdS_one (V := winCells) (x := (⟨i,j,t⟩ : WinD)) _ (Row.newOf _ rfl) (Nat.le_refl 1) (by unfold maxLen;omega)
 case refine_3 => intro y hy X hX;trivial
 case refine_4 => intro y hy;exact winOne y
 case refine_5 => simp;omega
 case refine_6 => simp;omega
 case refine_7 => have := B1.size;simp;omega
 intro v3 w3 hown3 hg3 hv3
 have hrow : ∀ k,(Value.slice ea E.length ec).ownBlock = some k → base ≤ k := fun k hk => (hlth.out k hk).1
 have rW3 := Row.grown (Row.alloc rW _) hg3 (fun e => by have := hrow wb e.symm;omega)
 obtain ⟨a3,c3,rfl⟩ := OwnS.shape hown3
 rw [← hE3.out] at hown3 hv3 ⊢
 have cw3 : w3.cell? ⟨wb,0,none⟩ = some (.slice ea E.length ec) := (rW3.cell? 0).trans rfl
 have fw3 := Row.frozen rW3 0
 have rW4 := hide (Row.set rW3 0 (.slice a3 E2.length c3))
 have hown4 := hide (OwnS.farR hown3 (p := ⟨wb,0,none⟩) hb (.slice a3 E2.length c3) (fun _ _ _ _ => trivial))
 have hgr : Grown2 w (w3.setCell ⟨wb,0,none⟩ (.slice a3 E2.length c3)) wb (Value.slice ea E.length ec).ownBlock := by
  refine ⟨?_,?_,?_,?_,fun k hk h1 h2 => ?_⟩
  ·exact hg3.os.trans B1.os
  ·exact hg3.tape.trans B1.tape
  ·exact hg3.output.trans B1.output
  ·have := hg3.size;have := B1.size;simp [World.setCell] at *;omega
  ·rw [Below.heap_setCell _ _ _ _ h1]
   have hk1 : k < w1.heap.size := Nat.lt_of_lt_of_le hk B1.size
   have h3 := hg3.block k (by simp;omega) h2
   rw [h3]
   exact ((Bel.al (Below.refl _ w1) _).block k hk1).trans (B1.block k hk)
 have hvb : (Value.slice a3 E2.length c3).ownBlock = (Value.slice ea E.length ec).ownBlock ∨ ∃ k,(Value.slice a3 E2.length c3).ownBlock = some k ∧ w.heap.size ≤ k := by
  rcases hv3 with h | h
  ·exact .inl h
  ·exact .inr ⟨_,h,by have := B1.size;simp;omega⟩
 replace hgr := hide hgr
 replace hvb := hide hvb
 replace hrow := hide hrow
 clear hown3 hv3 hg3 cw fw hown2
 go_wp2
 go_ret
 exact ⟨rfl,a3,c3,rW4.out,hown4.out,hgr.out,hvb.out⟩
def timesL (of : List Int) (x : Int) : Nat := (of.filter fun y => decide (y = x)).length
def cntL (l of : List Int) : Nat := (l.map (timesL of)).sum
end Go.Proofs.YtelgllgaofjgjaaGreat
end
section
set_option linter.unusedVariables false
set_option linter.unusedSimpArgs false
namespace Go.Proofs.YtelgllgaofjgjaaGreat
theorem cntL_cons (x : Int) (l D : List Int) : cntL (x :: l) D = timesL D x + cntL l D := by simp [cntL]
theorem timesL_cons (a : List Int) (x y : Int) : timesL (x :: a) y = (if x = y then 1 else 0) + timesL a y := by
 unfold timesL
 rw [List.filter_cons]
 by_cases h : x = y
 ·simp [h];omega
 ·simp [h]
theorem times_not {a : List Int} {y : Int} (h : y ∉ a) : timesL a y = 0 := by
 unfold timesL
 rw [List.length_eq_zero_iff,List.filter_eq_nil_iff]
 intro x hx hd
 have : x = y := by simpa using hd
 exact h (this ▸ hx)
theorem times_one {a : List Int} {y : Int} (hn : a.Nodup) (h : y ∈ a) : timesL a y = 1 := by
 induction a with
 | nil => cases h
 | cons x t ih =>
  rw [timesL_cons]
  obtain ⟨h1,h2⟩ := List.nodup_cons.1 hn
  by_cases e : x = y
  ·rw [if_pos e,times_not (e ▸ h1)]
  ·rw [if_neg e,ih h2 ((List.mem_cons.1 h).resolve_left (fun h => e h.symm))]
theorem cntL_full {l a : List Int} (hn : a.Nodup) (h : ∀ x ∈ l,x ∈ a) : cntL l a = l.length := by
 induction l with
 | nil => rfl
 | cons x t ih =>
  rw [cntL_cons,times_one hn (h x List.mem_cons_self),ih (fun y hy => h y (List.mem_cons_of_mem x hy)),List.length_cons]
  omega
theorem getD_mem {S : List Int} {x : Int} (h1 : 1 ≤ x) (h2 : x ≤ S.length) : S.getD (x - 1).toNat 0 ∈ S := by
 rw [List.getD_eq_getElem?_getD,List.getElem?_eq_getElem (show (x - 1).toNat < S.length by omega)]
 exact List.getElem_mem _
theorem getD_lt {S : List Int} (hS : S.Pairwise (· < ·)) {x y : Int} (h1 : 1 ≤ x) (h2 : x < y) (h3 : y ≤ S.length) : S.getD (x - 1).toNat 0 < S.getD (y - 1).toNat 0 := by
 rw [List.getD_eq_getElem?_getD,List.getElem?_eq_getElem (show (x - 1).toNat < S.length by omega),List.getD_eq_getElem?_getD,List.getElem?_eq_getElem (show (y - 1).toNat < S.length by omega)]
 exact List.pairwise_iff_getElem.1 hS _ _ _ _ (by omega)
theorem comb_mem {S : List Int} {k r : Nat} (h : r < choose S.length k) : ∀ x ∈ combS S k r,x ∈ S := by
 intro x hx
 unfold combS pickL at hx
 obtain ⟨v,hv,rfl⟩ := List.mem_map.1 hx
 obtain ⟨h1,h2⟩ := places_at h v hv
 exact getD_mem h1 h2
theorem comb_sorted {S : List Int} (hS : S.Pairwise (· < ·)) {k r : Nat} (h : r < choose S.length k) : (combS S k r).Pairwise (· < ·) := by
 unfold combS pickL
 rw [List.pairwise_map]
 have hp := (checkL_pair (check_unrankL (n := S.length) (m := S.length) (w := 1) (r := r) (j := k) (by omega) (by omega) h 0 (by omega))).1
 have hm := places_at h
 rw [List.pairwise_iff_getElem] at hp ⊢
 intro i j hi hj hij
 have h1 := hp i j hi hj hij
 have h2 := hm _ (List.getElem_mem hi)
 have h3 := hm _ (List.getElem_mem hj)
 exact getD_lt hS h2.1 h1 h3.2
theorem pick_less {S : List Int} (hS : S.Pairwise (· < ·)) (p q : List Int) (hp : ∀ x ∈ p,1 ≤ x ∧ x ≤ S.length) (hq : ∀ x ∈ q,1 ≤ x ∧ x ≤ S.length) : lessB (pickL S p) (pickL S q) = lessB p q := by
 induction p generalizing q with
 | nil => cases q <;> rfl
 | cons x p ih =>
  cases q with
  | nil => rfl
  | cons y q =>
   have h1 := ih q (fun v hv => hp v (List.mem_cons_of_mem x hv)) (fun v hv => hq v (List.mem_cons_of_mem y hv))
   obtain ⟨a1,a2⟩ := hp x List.mem_cons_self
   obtain ⟨b1,b2⟩ := hq y List.mem_cons_self
   show lessB (S.getD (x - 1).toNat 0 :: pickL S p) (S.getD (y - 1).toNat 0 :: pickL S q) = _
   rw [lessB,lessB,h1]
   rcases Int.lt_trichotomy x y with h | h | h
   ·have := getD_lt hS a1 h b2
    rw [if_neg (by omega),if_neg (by omega),decide_eq_true h,decide_eq_true this]
   ·subst h;rw [if_pos rfl,if_pos rfl]
   ·have := getD_lt hS b1 h a2
    rw [if_neg (by omega),if_neg (by omega),decide_eq_false (by omega),decide_eq_false (by omega)]
theorem lessB_asymm (a b : List Int) (h : lessB a b = true) : lessB b a = false := by
 induction a generalizing b with
 | nil => cases b <;> cases h
 | cons x a ih =>
  cases b with
  | nil => cases h
  | cons y b =>
   rw [lessB] at h ⊢
   by_cases e : x = y
   ·subst e;rw [if_pos rfl] at h ⊢;exact ih b h
   ·rw [if_neg e] at h
    have := of_decide_eq_true h
    rw [if_neg (fun e2 => e e2.symm)]
    exact decide_eq_false (by omega)
theorem rankL_mono {n : Nat} {a b : List Int} (ha : checkL n 0 a = 0) (hb : checkL n 0 b = 0) (hl : a.length = b.length) (h : lessB a b = true) : rankL n 0 a < rankL n 0 b := by
 have a1 := unrank_rankL (n := n) (last := 0) (by omega) ha
 have b1 := unrank_rankL (n := n) (last := 0) (by omega) hb
 have a2 := rankL_lt (n := n) (last := 0) (by omega) ha
 rw [Nat.sub_zero] at a1 b1 a2
 rw [Nat.zero_add] at a1 b1
 rw [← hl] at b1
 rcases Nat.lt_trichotomy (rankL n 0 a) (rankL n 0 b) with h1 | h1 | h1
 ·exact h1
 ·rw [h1,b1] at a1
  subst a1
  rw [lessB_asymm _ _ h] at h;cases h
 ·have h2 := unrankL_less (n := n) (m := n) (w := 1) (j := a.length) (by omega) a2 h1
  rw [a1,b1,lessB_asymm _ _ h] at h2
  cases h2
structure LnOk (g : GameD) (a b : List Int) (C : Nat) : Prop where
 ok : ∀ r,r < C → lineE g (combS (sortI a) g.main.toNat r) (sortI b) = 0
 less : ∀ r s,r < s → s < C → rankG g (combS (sortI a) g.main.toNat r) (sortI b) < rankG g (combS (sortI a) g.main.toNat s) (sortI b)
 pos : ∀ r,r < C → 0 ≤ rankG g (combS (sortI a) g.main.toNat r) (sortI b)
 cntA : ∀ r,r < C → (cntL (combS (sortI a) g.main.toNat r) a : Int) = g.main
 cntB : (cntL (sortI b) b : Int) = g.bonus
theorem lines_law {g : GameD} {a b : List Int} (he : gameE g = 0) (hk : g.kind = 1) (m1 : 1 ≤ g.main) (m2 : g.main < a.length) (hb : (b.length : Int) = g.bonus) (ra : allB a 1 g.of = true) (rb : allB b 1 g.bonusOf = true) (da : dupB a = false) (db : dupB b = false) :
  LnOk g a b (choose a.length g.main.toNat) := by
 have na := dupB_no.1 da
 have nb := dupB_no.1 db
 have ia := allB_iff.1 ra
 have ib := allB_iff.1 rb
 have hS := sortI_lt na
 have hSl := sortI_len a
 have ha : ∀ r,r < choose a.length g.main.toNat → ∀ x ∈ combS (sortI a) g.main.toNat r,x ∈ a := fun r hr x hx => (sortI_perm a).mem_iff.1 (comb_mem (by rw [hSl];exact hr) x hx)
 have hlen : ∀ r,r < choose a.length g.main.toNat → (combS (sortI a) g.main.toNat r).length = g.main.toNat := fun r hr => combS_len (by rw [hSl];exact hr)
 have hsorted : ∀ r,r < choose a.length g.main.toNat → (combS (sortI a) g.main.toNat r).Pairwise (· < ·) := fun r hr => comb_sorted hS (by rw [hSl];exact hr)
 have hk2 : g.kind ≠ 2 := by omega
 refine ⟨fun r hr => ?_,fun r s hrs hs => ?_,fun r hr => ?_,fun r hr => ?_,?_⟩
 ·refine lineE_ok.2 ⟨he,by rw [hlen r hr];omega,by rw [sortI_len];exact hb,fun x hx => ?_,fun x hx => ib x ((sortI_perm b).mem_iff.1 hx),fun _ => lt_nodup (hsorted r hr),(sortI_perm b).nodup_iff.2 nb⟩
  unfold lowG highG
  rw [if_neg hk2,if_neg hk2]
  exact ia x (ha r hr x hx)
 ·have hr : r < choose a.length g.main.toNat := by omega
  have e1 : ∀ r,r < choose a.length g.main.toNat → sortI (combS (sortI a) g.main.toNat r) = combS (sortI a) g.main.toNat r := fun r hr => sortI_of (lt_le (hsorted r hr))
  have hc : ∀ r,r < choose a.length g.main.toNat → checkL g.of.toNat 0 (combS (sortI a) g.main.toNat r) = 0 := fun r hr => checkL_of (hsorted r hr) (fun x hx => by have := ia x (ha r hr x hx);omega)
  have hl : lessB (combS (sortI a) g.main.toNat r) (combS (sortI a) g.main.toNat s) = true := by
   unfold combS
   rw [pick_less hS _ _ (places_at (by rw [hSl];exact hr)) (places_at (by rw [hSl];exact hs))]
   exact unrankL_less (n := (sortI a).length) (by omega) (by rw [hSl];exact hs) hrs
  have hm := rankL_mono (hc r hr) (hc s hs) (by rw [hlen r hr,hlen s hs]) hl
  unfold rankG
  rw [if_neg hk2,if_neg hk2,e1 r hr,e1 s hs]
  have hbc : checkL g.bonusOf.toNat 0 (sortI (sortI b)) = 0 := by
   rw [sortI_idem]
   exact check_sortI nb (fun x hx => by have := ib x hx;omega)
  have hN : 0 < bonusN g := by
   have := rankL_lt (n := g.bonusOf.toNat) (last := 0) (by omega) hbc
   rw [sortI_idem,sortI_len,Nat.sub_zero,show b.length = g.bonus.toNat by omega] at this
   unfold bonusN
   omega
  have := Nat.mul_lt_mul_of_pos_right hm hN
  omega
 ·unfold rankG
  rw [if_neg hk2]
  exact Int.natCast_nonneg _
 ·rw [cntL_full na (ha r hr),hlen r hr];omega
 ·rw [cntL_full nb (fun x hx => (sortI_perm b).mem_iff.1 hx),sortI_len];exact hb
theorem lineB_valid {g : GameD} {sys : Bool} {l : LineD} (h : (sizeB g sys l).2 = 0) : ∀ x ∈ lineB g sys l,lineE g x.1 x.2 = 0 ∧ (g.kind = 1 → sortI x.1 = x.1 ∧ sortI x.2 = x.2) := by
 cases sys with
 | false =>
  intro x hx
  have hx : x ∈ [formG g l] := hx
  rw [List.mem_singleton] at hx
  subst hx
  have he : lineE g l.1 l.2 = 0 := h
  unfold formG
  by_cases hk : g.kind = 2
  ·rw [if_pos hk];exact ⟨he,fun h => by omega⟩
  ·rw [if_neg hk]
   exact ⟨(lineE_perm (sortI_perm l.1) (sortI_perm l.2)).trans he,fun _ => ⟨sortI_idem _,sortI_idem _⟩⟩
 | true =>
  intro x hx
  have hx : x ∈ expL (sortI l.1) (sortI l.2) g.main.toNat := hx
  have hse := size_sys h
  obtain ⟨g1,g2,g3,g4,g5,g6,g7,g8⟩ := sysE_ok hse
  obtain ⟨f1,f2,f3,f4,f5,f6,f7,f8,f9⟩ := sys_bounds g1
  obtain ⟨ge,gk⟩ := gameS_ok g1
  have hlaw := lines_law ge gk f1 (by omega) g4 g5 g6 g7 g8
  unfold expL at hx
  obtain ⟨r,hr,rfl⟩ := List.mem_map.1 hx
  have hr := List.mem_range.1 hr
  refine ⟨hlaw.ok r (by rw [sortI_len] at hr;exact hr),fun _ => ⟨sortI_of (lt_le (comb_sorted (sortI_lt (dupB_no.1 g7)) hr)),sortI_idem _⟩⟩
theorem linesB_valid {g : GameD} {B : BetD} (h : (betP g B).2 = 0) : ∀ x ∈ linesB g B,lineE g x.1 x.2 = 0 ∧ (g.kind = 1 → sortI x.1 = x.1 ∧ sortI x.2 = x.2) := by
 obtain ⟨p1,p2,p3,p4,p5,p6,p7,p8,p9,p10⟩ := betP_ok h
 intro x hx
 obtain ⟨l,hl,hx⟩ := List.mem_flatMap.1 hx
 exact lineB_valid (p10 l hl) x hx
theorem linesB_len {g : GameD} {B : BetD} (h : (betP g B).2 = 0) : (linesB g B).length ≤ 1024 := by
 obtain ⟨p1,p2,p3,p4,p5,p6,p7,p8,p9,p10⟩ := betP_ok h
 omega
theorem winsF_snoc (g : GameD) (r : ResD) (l : List (Nat × TicketD)) (k : Nat) (h : k < l.length) : winsF g r (l.take (k + 1)) = winsF g r (l.take k) ++ winsL (fun x => tierM g x r) l[k].1 (linesB g l[k].2.bet) 0 := by
 rw [List.take_succ_eq_append_getElem h,winsF_app]
 congr 1
 unfold winsF
 simp
theorem winsE_at {g : GameD} {r : ResD} {l : List (Nat × TicketD)} {k : Nat} (h : k < l.length) (hok : ∀ p ∈ l.take k,(betP g p.2.bet).2 = 0) (hb : (betP g l[k].2.bet).2 ≠ 0) : winsE g r l = ([],(betP g l[k].2.bet).2) := by
 induction l generalizing k with
 | nil => simp at h
 | cons p q ih =>
  cases k with
  | zero =>
   simp only [List.getElem_cons_zero] at hb ⊢
   rw [winsE,if_pos hb]
  | succ k =>
   simp only [List.getElem_cons_succ] at hb ⊢
   have h1 := hok p (by simp)
   have h2 := ih (k := k) (by simpa using h) (fun x hx => hok x (by rw [List.take_succ_cons];exact List.mem_cons_of_mem _ hx)) hb
   rw [winsE,if_neg (by simpa using h1),if_pos (by rw [h2];exact hb),h2]
theorem winsE_full {g : GameD} {r : ResD} {l : List (Nat × TicketD)} (hok : ∀ p ∈ l,(betP g p.2.bet).2 = 0) : winsE g r l = (winsF g r l,0) := winsE_eq (winsE_ok.2 hok)
theorem winsL_len (f : LineD → Int) (i : Int) (l : List LineD) (k : Nat) : (winsL f i l k).length ≤ l.length := by
 induction l generalizing k with
 | nil => simp [winsL]
 | cons x r ih =>
  rw [winsL]
  have := ih (k + 1)
  split
  ·rw [List.length_cons];omega
  ·rw [List.length_cons,List.length_cons];omega
theorem winsF_len {g : GameD} {r : ResD} {l : List (Nat × TicketD)} (hok : ∀ p ∈ l,(betP g p.2.bet).2 = 0) : (winsF g r l).length ≤ l.length * 1024 := by
 induction l with
 | nil => simp [winsF]
 | cons p q ih =>
  have h1 := ih fun x hx => hok x (List.mem_cons_of_mem _ hx)
  have h2 := linesB_len (hok p List.mem_cons_self)
  have h3 := winsL_len (fun x => tierM g x r) p.1 (linesB g p.2.bet) 0
  have e : winsF g r (p :: q) = winsL (fun x => tierM g x r) p.1 (linesB g p.2.bet) 0 ++ winsF g r q := by unfold winsF;rw [List.flatMap_cons]
  rw [e,List.length_append,List.length_cons]
  omega
theorem tierP_valid {g : GameD} {x : LineD} {r : ResD} (hx : lineE g x.1 x.2 = 0) (hr : resE g r = 0) : tierP g x r = (tierM g x r,0) := by
 have h : checkM g x r = 0 := by unfold checkM;rw [if_neg (by simpa using hx)];exact hr
 unfold tierP
 rw [if_neg (by simpa using h)]
theorem eligT_at {ts : List TicketD} {game : ByteArray} {draw : Int} {k : Nat} (h : k < (eligT ts game draw).length) : ∃ hk : (eligT ts game draw)[k].1 < ts.length,ts[(eligT ts game draw)[k].1] = (eligT ts game draw)[k].2 := by
 obtain ⟨h1,hk,h2,-⟩ := eligGo_mem (List.getElem_mem h)
 exact ⟨hk,h2⟩
theorem eligT_len (ts : List TicketD) (game : ByteArray) (draw : Int) : (eligT ts game draw).length ≤ ts.length := eligGo_len _ _ _
end Go.Proofs.YtelgllgaofjgjaaGreat
end
section
open Go.RowKit
set_option linter.unusedVariables false
set_option linter.unusedSimpArgs false
namespace Go.Proofs.YtelgllgaofjgjaaGreat
set_option maxHeartbeats 1000000 in
theorem takesPart_any (first draws draw : Int) (w : World) (hf : InI first) (hd : InI draws) (hr : InI draw) :
  Calls Tryz.prog 26 #[.int .i64 first,.int .i64 draws,.int .i64 draw] w (Pure (.bool (takesB first draws draw)) w) := by
 obtain ⟨f0,f1⟩ := hf
 obtain ⟨d0,d1⟩ := hd
 obtain ⟨r0,r1⟩ := hr
 by_cases h1 : draw < first
 ·have : takesB first draws draw = false := decide_eq_false (by omega)
  rw [this]
  have e1 : decide (draw < first) = true := decide_eq_true h1
  go_enter Tryz.func26,Tryz.ntmps26
  go_wp2
  go_ret
  exact ⟨rfl,rfl⟩
 ·have e1 : decide (draw < first) = false := decide_eq_false h1
  by_cases h2 : draws ≤ 0
  ·have : takesB first draws draw = false := decide_eq_false (by omega)
   rw [this]
   have e2 : decide (draws ≤ 0) = true := decide_eq_true h2
   go_enter Tryz.func26,Tryz.ntmps26
   go_wp2
   go_ret
   exact ⟨rfl,rfl⟩
  ·have e2 : decide (draws ≤ 0) = false := decide_eq_false h2
   have w1 : IntKind.i64.wrap (9223372036854775807 - draws) = 9223372036854775807 - draws := IntWalk.i64_in _ (by omega)
   by_cases h3 : 9223372036854775807 - draws < first
   ·have : takesB first draws draw = true := decide_eq_true (by omega)
    rw [this]
    have e3 : decide (9223372036854775807 - draws < first) = true := decide_eq_true h3
    go_enter Tryz.func26,Tryz.ntmps26
    go_wp2
    go_ret
    exact ⟨rfl,rfl⟩
   ·have e3 : decide (9223372036854775807 - draws < first) = false := decide_eq_false h3
    have w2 : IntKind.i64.wrap (first + draws) = first + draws := IntWalk.i64_in _ (by omega)
    by_cases h4 : draw < first + draws
    ·have : takesB first draws draw = true := decide_eq_true (by omega)
     rw [this]
     have e4 : decide (draw < first + draws) = true := decide_eq_true h4
     go_enter Tryz.func26,Tryz.ntmps26
     go_wp2
     go_ret
     exact ⟨rfl,rfl⟩
    ·have : takesB first draws draw = false := decide_eq_false (by omega)
     rw [this]
     have e4 : decide (draw < first + draws) = false := decide_eq_false h4
     go_enter Tryz.func26,Tryz.ntmps26
     go_wp2
     go_ret
     exact ⟨rfl,rfl⟩
set_option maxHeartbeats 8000000 in
set_option maxRecDepth 100000 in
theorem eligible_any (v : Value) (ms : List TickM) (game : ByteArray) (draw : Int) (w : World) (h : TicketsR w v ms) (hd : InI draw) (hs : ms.length ≤ 1000) :
  Calls Tryz.prog 10 #[v,.string game,.int .i64 draw] w (CloneP (eligP (ms.map (·.d)) game draw) w) := by
 obtain ⟨ts,hts⟩ : ∃ ts,ts = ms.map (·.d) := ⟨_,rfl⟩
 rw [← hts]
 obtain ⟨R,hR⟩ : ∃ R,R = eligP ts game draw := ⟨_,rfl⟩
 rw [← hR]
 obtain ⟨ao,cap,rfl,hle,hmax⟩ := h.1.shape
 have hlen : ms.length = ts.length := by rw [hts,List.length_map]
 obtain ⟨n,hn⟩ : ∃ n,n = ms.length := ⟨_,rfl⟩
 have hnm : n ≤ 1000 := by omega
 have hh := hide (fun X (hX : Below w.heap.size w X) => h.below hX)
 rw [← hn] at hh ⊢
 have hnh := hide hn
 replace hts := hide hts
 replace hR := hide hR
 replace hlen := hide hlen
 clear h hle hmax hn hs
 go_enter Tryz.func10,Tryz.ntmps10
 go_wp2
 go_loopg [7,8,9,12] n (fun gh v7 _ _ t wr => ∃ (i : Nat) (E : List Int) (ea : Option Addr) (ec : Nat),gh = n - i ∧ i ≤ n ∧ t = .int .i64 (i : Int) ∧ v7 = .slice ea E.length ec ∧ E.length ≤ i ∧ Own I64 wr w.heap.size 3 (.slice ea E.length ec) E ∧ Hid (E = (eligGo (eligB game draw) (ts.take i) 0).map fun p => (p.1 : Int)) ∧ Below w.heap.size w wr)
 case atStart => exact ⟨0,[],none,0,rfl,Nat.zero_le _,rfl,rfl,Nat.le_refl _,Own.nil _ _ _,rfl,Below.refl _ _⟩
 case round =>
  obtain ⟨i,E,ea,ec,hgh,hi,rfl,rfl,hEi,hown,hE,hB⟩ := hrel
  replace hgh := hide hgh
  by_cases hlt : i < n
  ·have hlt2 := hide hlt
   have him : i < ms.length := by rw [← hnh.out];exact hlt
   have hit : i < ts.length := by rw [← hlen.out];exact him
   have hhw := hh.out wr hB
   obtain ⟨b,off,rfl,hbb,hcell⟩ := hhw.1.at_ him
   obtain ⟨m,hm⟩ : ∃ m,m = ms[i] := ⟨_,rfl⟩
   have hmi : ms[i]? = some m := by rw [hm];exact List.getElem?_eq_getElem him
   have htm : ts[i] = m.d := by
    have h9 : ts[i]? = some m.d := by rw [hts.out,List.getElem?_map,hmi];rfl
    rw [List.getElem?_eq_getElem hit] at h9
    injection h9
   have hR9 := hhw.2 m (by rw [hm];exact List.getElem_mem him)
   have hsn := eligGo_snoc (eligB game draw) ts i hit
   rw [htm] at hsn
   have hE2 : (eligGo (eligB game draw) (ts.take (i + 1)) 0).map (fun p => (p.1 : Int)) = E ++ (if eligB game draw m.d then [(i : Int)] else []) := by
    rw [hsn,List.map_append,hE.out]
    split <;> rfl
   have hrange : wr.rangeAt b (off + i * 14) m.cells := fun j u hu => hcell i m hmi j u hu
   obtain ⟨hl9,hif,hid⟩ := hR9
   clear hcell hmi htm hsn hhw hm
   obtain ⟨⟨t1,gm,⟨tl,t4,t5,t6⟩,t7,t8,t9,t10,t11,t12,t13,t14⟩,lv⟩ := m
   unfold TickM.cells at hrange
   simp only [] at hrange hl9 hif hid hE2
   obtain ⟨l1,l3,rfl,-,-⟩ := hl9.shape
   obtain ⟨l2,hl2⟩ : ∃ x,x = tl.length := ⟨_,rfl⟩
   rw [← hl2] at hrange
   clear hl9 hl2
   have hthere := hide (show (wr.alloc (.cells #[.string ⟨#[]⟩,.string ⟨#[]⟩,.slice none 0 0,.bool false,.int .i64 0,.int .i64 0,.string ⟨#[]⟩,.int .i64 0,.int .i64 0,.int .i64 0,.int .i64 0,.int .i64 0,.int .i64 0,.bool false] 50)).there wr.heap.size 0 14 from Row.there (Row.newOf (cs := [.string ⟨#[]⟩,.string ⟨#[]⟩,.slice none 0 0,.bool false,.int .i64 0,.int .i64 0,.string ⟨#[]⟩,.int .i64 0,.int .i64 0,.int .i64 0,.int .i64 0,.int .i64 0,.int .i64 0,.bool false]) _ rfl))
   have i1 : (0 : Int) ≤ (i : Int) := by omega
   have i2 : (i : Int) < (n : Int) := by omega
   go_upto_region 5 with (first | (refine wpList_load_mid rfl 50 _ rfl b (off + i * 14) rfl [.string t1,.string gm,.slice l1 l2 l3,.bool t4,.int .i64 t5,.int .i64 t6,.string t7,.int .i64 t8,.int .i64 t9,.int .i64 t10,.int .i64 t11,.int .i64 t12,.int .i64 t13,.bool t14] _ hrange Tryz.underlying50 rfl (by kernel_rfl) ?_) | (refine wpList_store_mid rfl 50 _ _ rfl wr.heap.size 0 _ rfl rfl hthere.out (by kernel_rfl) (by rfl) ?_) | fail)
   obtain ⟨W1,hW1⟩ : ∃ W1,W1 = wr.alloc (.cells #[.string t1,.string gm,.slice l1 l2 l3,.bool t4,.int .i64 t5,.int .i64 t6,.string t7,.int .i64 t8,.int .i64 t9,.int .i64 t10,.int .i64 t11,.int .i64 t12,.int .i64 t13,.bool t14] 50) := ⟨_,rfl⟩
   have hb1 : Below wr.heap.size wr W1 := by rw [hW1];exact Bel.al (Below.refl _ _) _
   have hw1 : Row W1 wr.heap.size 50 [.string t1,.string gm,.slice l1 l2 l3,.bool t4,.int .i64 t5,.int .i64 t6,.string t7,.int .i64 t8,.int .i64 t9,.int .i64 t10,.int .i64 t11,.int .i64 t12,.int .i64 t13,.bool t14] := by rw [hW1];exact Row.newOf _ rfl
   rw [← hW1]
   clear hW1 hthere hrange
   have q1 : W1.cell? ⟨wr.heap.size,1,none⟩ = some (.string gm) := (hw1.cell? 1).trans rfl
   have q4 : W1.cell? ⟨wr.heap.size,4,none⟩ = some (.int .i64 t5) := (hw1.cell? 4).trans rfl
   have q7 : W1.cell? ⟨wr.heap.size,7,none⟩ = some (.int .i64 t8) := (hw1.cell? 7).trans rfl
   have q10 : W1.cell? ⟨wr.heap.size,13,none⟩ = some (.bool t14) := (hw1.cell? 13).trans rfl
   have hown1 := hown.keep hb1
   have B9 := Bel.to hB hb1
   clear hw1 hb1 hown hB hE
   have hel : eligB game draw ⟨t1,gm,⟨tl,t4,t5,t6⟩,t7,t8,t9,t10,t11,t12,t13,t14⟩ = (decide (gm = game) && !t14 && takesB t8 t5 draw) := rfl
   rw [hel] at hE2
   clear hel
   have hno : (decide (gm = game) && !t14 && takesB t8 t5 draw) = false → Hid (E = (eligGo (eligB game draw) (ts.take (i + 1)) 0).map fun p => (p.1 : Int)) := by
    intro h
    show _ = _
    rw [hE2,h]
    simp
   by_cases hgm : gm = game
   rotate_left
   ·have hnb := bytes_ne hgm
    have hE3 := hno (by rw [decide_eq_false hgm];rfl)
    replace hgm := hide hgm
    clear hno hE2
    go_wp2
    go_roundg (n - (i + 1))
    case measure => have := hgh.out;have := hlt2.out;omega
    case rel => exact ⟨i + 1,E,ea,ec,rfl,by have := hlt2.out;omega,by go_num,rfl,by omega,hown1,hE3,B9⟩
   subst hgm
   cases t14 with
   | true =>
    have hE3 := hno (by simp)
    clear hno hE2
    go_wp2
    go_roundg (n - (i + 1))
    case measure => have := hgh.out;have := hlt2.out;omega
    case rel => exact ⟨i + 1,E,ea,ec,rfl,by have := hlt2.out;omega,by go_num,rfl,by omega,hown1,hE3,B9⟩
   | false =>
    have cT := hide (takesPart_any t8 t5 draw W1 hif hid hd)
    obtain ⟨q,hq⟩ : ∃ q,q = takesB t8 t5 draw := ⟨_,rfl⟩
    rw [← hq] at cT hE2 hno
    clear hq
    cases q with
    | false =>
     have hE3 := hno (by simp)
     clear hno hE2
     go_wp2_with fail
     refine cT.out.mono ?_
     rintro e w2 ⟨rfl,rfl⟩
     go_wp2
     go_roundg (n - (i + 1))
     case measure => have := hgh.out;have := hlt2.out;omega
     case rel => exact ⟨i + 1,E,ea,ec,rfl,by have := hlt2.out;omega,by go_num,rfl,by omega,hown1,hE3,B9⟩
    | true =>
     have hE3 : Hid (E ++ [(i : Int)] = (eligGo (eligB gm draw) (ts.take (i + 1)) 0).map fun p => (p.1 : Int)) := by
      show _ = _
      rw [hE2]
      simp
     clear hno hE2
     go_wp2_with fail
     refine cT.out.mono ?_
     rintro e w2 ⟨rfl,rfl⟩
     go_wp2_with (with_reducible refine wpList_append_rd _ rfl _ _ 27 rfl (V := I64) (fun _ => rfl) w.heap.size 3 (.int .i64 0) 8 Tryz.underlying27 infoInt rfl _ E rfl ?_ _ [(i : Int)] rfl ?_ ?_ ?_ ?_ ?_)
     case refine_1 => exact Own.alloc hown1 _
     case refine_2 => exact Rd.new [(i : Int)] rfl rfl (Nat.le_refl _) (by decide) rfl
     case refine_3 => simp;omega
     case refine_4 => simp;omega
     case refine_5 => have := B9.size;simp;omega
     intro v3 w3 hown3 hg3 hv3
     have B3 : Below w.heap.size w w3 := (Bel.al B9 _).grown hg3 (Bel.al B9 _).size (fun k hk => (hown1.lt k hk).1)
     obtain ⟨a3,c3,rfl⟩ := hown3.shape
     clear hg3 hv3 hown1
     go_wp2
     go_roundg (n - (i + 1))
     case measure => have := hgh.out;have := hlt2.out;omega
     case rel => exact ⟨i + 1,E ++ [(i : Int)],a3,c3,rfl,by have := hlt2.out;omega,by go_num,rfl,by simp;omega,hown3,hE3,B3⟩
  ·have hin : i = ts.length := by have := hnh.out;have := hlen.out;omega
   have hE2 := hE.out
   rw [hin,List.take_length] at hE2
   have hER : E = R := hE2.trans hR.out.symm
   subst hER
   replace hin := hide hin
   have i2 : ¬ (i : Int) < (n : Int) := by omega
   clear hE hE2
   go_wp2
   go_ret
   exact ⟨_,rfl,hown,hB⟩
def SameIn (lo hi : Nat) (w X : World) : Prop := (∀ k,lo ≤ k → k < hi → X.heap[k]? = w.heap[k]?) ∧ hi ≤ X.heap.size
section
variable {w X Y : World} {lo hi wb : Nat} {row : Option Nat}
theorem SameIn.refl (w : World) (lo : Nat) : SameIn lo w.heap.size w w := ⟨fun _ _ _ => rfl,Nat.le_refl _⟩
theorem SameIn.step (h : SameIn lo hi w X) (hg : Grown2 X Y wb row) (hwb : wb < lo) (hr : ∀ k,row = some k → k < lo ∨ hi ≤ k) : SameIn lo hi w Y :=
 ⟨fun k h1 h2 => (hg.block k (Nat.lt_of_lt_of_le h2 h.2) (by omega) (fun e => by have := hr k e.symm;omega)).trans (h.1 k h1 h2),Nat.le_trans h.2 hg.size⟩
theorem SameIn.keep (h : SameIn lo hi w X) (hb : Below X.heap.size X Y) : SameIn lo hi w Y :=
 ⟨fun k h1 h2 => (hb.block k (Nat.lt_of_lt_of_le h2 h.2)).trans (h.1 k h1 h2),Nat.le_trans h.2 hb.size⟩
theorem SameIn.of2 (h : Grown2 w X wb none) (hlo : wb < lo) : SameIn lo w.heap.size w X := ⟨fun k h1 h2 => h.block k h2 (by omega) (by simp),h.size⟩
theorem Grown2.andThen {a b c : World} {wb : Nat} {row : Option Nat} (h1 : Grown2 a b wb none) (h2 : Grown2 b c wb row) (hr : ∀ k,row = some k → a.heap.size ≤ k) : Grown2 a c wb none :=
 ⟨h2.os.trans h1.os,h2.tape.trans h1.tape,h2.output.trans h1.output,Nat.le_trans h1.size h2.size,fun k hk h3 h4 => (h2.block k (Nat.lt_of_lt_of_le hk h1.size) h3 (fun e => by have := hr k e.symm;omega)).trans (h1.block k hk h3 h4)⟩
theorem Grown2.andBelow {a b c : World} {wb : Nat} (h1 : Grown2 a b wb none) (h2 : Below b.heap.size b c) : Grown2 a c wb none := h1.andThen (row := none) (Grown2.ofBelow h2 wb none) (fun k h => by cases h)
theorem Rd.inR {α : Type} {V : α → Value} {v : Value} {l : List α} (h : Rd V w v l) (hf : Fr lo v l) (hX : SameIn lo w.heap.size w X) : Rd V X v l := by
 rcases hf with rfl | ⟨k,hk,hlo⟩
 ·obtain ⟨ao,cap,rfl,h1,h2,h3⟩ := h
  exact ⟨ao,cap,rfl,h1,h2,fun h => absurd h (by simp)⟩
 ·refine h.keep hX.2 fun p hp ho => World.cell?_of_block (hX.1 _ ?_ hp)
  rw [ho] at hk
  injection hk with hk
  omega
theorem OwnLn.inR {base : Nat} {v : Value} {ls : List LineD} (h : OwnLn w base v ls) (hX : SameIn base w.heap.size w X) : LinesR X v ls := by
 have hrd := h.rd
 obtain ⟨vs,h1,h2,h3⟩ := h
 obtain ⟨vs',k1,k2,k3⟩ := hrd
 have hlt := World.ownsRow.lt h1
 rcases h1.2 with ⟨rfl,h0⟩ | ⟨b,cap,cur,rfl,hb,hh,hnc,hcm,hsz,htk⟩
 ·have e : vs = [] := List.eq_nil_of_length_eq_zero h0
  subst e
  have e2 : ls = [] := List.eq_nil_of_length_eq_zero (by rw [← h2];rfl)
  subst e2
  exact LinesR.nil
 ·have hcell := World.ownsRow.cells h1 (g := b) rfl
  refine ⟨vs,⟨_,cap,rfl,hnc,hcm,fun hp => ⟨b,0,rfl,Nat.lt_of_lt_of_le (hlt b rfl).2 hX.2,fun i x hx j u hu => ?_⟩⟩,h2,fun i p x hp hx => ?_⟩
  ·have h8 := flat_at vs i j x u hx hu
   have h9 := hcell _ _ h8
   have h10 : w.cell? ⟨b,i * 2 + j,none⟩ = some u := by
    unfold Addr.add at h9
    split at h9
    ·next h0 => rw [h0];exact h9
    ·simpa using h9
   rw [Nat.zero_add]
   exact (World.cell?_of_block (hX.1 b hb (hlt b rfl).2)).trans h10
  ·obtain ⟨⟨a1,a2⟩,f1,f2,-⟩ := h3 i p x hp hx
   exact ⟨a1.inR f1 hX,a2.inR f2 hX⟩
end
theorem addW_ok {g : GameD} {r : ResD} {i j : Int} {x : LineD} {E : List WinD} (hx : lineE g x.1 x.2 = 0) (hr : resE g r = 0) : addW g r i j x E = E ++ (if tierM g x r = -1 then [] else [⟨i,j,tierM g x r⟩]) := by
 unfold addW
 rw [tierP_valid hx hr]
 by_cases h : tierM g x r = -1
 ·rw [if_pos h,if_neg (fun e => e.2 h),List.append_nil]
 ·rw [if_neg h,if_pos ⟨rfl,h⟩]
set_option maxHeartbeats 8000000 in
set_option maxRecDepth 100000 in
theorem wins_bad1 (g : GameD) (av tv v mv bv xv : Value) (ms : List AddonM) (tm : List TickM) (draw : Int) (r : ResD) (w : World) (hg : GameR w av tv ms g) (ht : TicketsR w v tm) (hr : ResR w mv bv xv r) (hs : r.serial.size ≤ 9223372036854775807) (hd : InI draw) (hn : tm.length ≤ 900) (he : gameE g ≠ 0) :
  Calls Tryz.prog 7 #[gameVal g av tv,v,.int .i64 draw,resVal mv bv xv r] w (WinsO [] (gameE g) w) := by
 have cN := hide (fun X (hX : Below w.heap.size w X) => inew_bad g av tv ms X (hg.below hX) he)
 obtain ⟨c,hcc⟩ : ∃ c,c = gameE g := ⟨_,rfl⟩
 rw [← hcc] at cN he ⊢
 have hcb : (c != 0) = true := by simpa using he
 obtain ⟨aa,ac,rfl,hal,ham⟩ := hg.1.1.shape
 obtain ⟨ta,tc,rfl,htl,htm⟩ := hg.2.2.shape
 obtain ⟨tka0,tkc,rfl,htk1,htk2⟩ := ht.1.shape
 obtain ⟨ma,mc,rfl,-,-,-⟩ := hr.1.form
 obtain ⟨ba,bc,rfl,-,-,-⟩ := hr.2.1.form
 obtain ⟨xa,xc,rfl,-,-,-⟩ := hr.2.2.form
 clear hg ht hr hcc hal ham htl htm htk1 htk2
 replace he := hide he
 unfold gameVal at cN
 unfold gameVal resVal
 go_enter Tryz.func7,Tryz.ntmps7
 go_upto_region 1 with (fail)
 obtain ⟨W,hW⟩ : ∃ W,W = ((w.alloc (Obj.cells #[.string g.name,.int .i64 g.kind,.int .i64 g.price,.int .i64 g.main,.int .i64 g.of,.int .i64 g.bonus,.int .i64 g.bonusOf,.int .i64 g.extra,.int .i64 g.draws,.int .i64 g.system,.int .i64 g.days,.int .i64 g.at_,.int .i64 g.close,.int .i64 g.cancel,.int .i64 g.expiry,.int .i64 g.pool,.int .i64 g.reserve,.int .i64 g.round,.int .i64 g.cap,.int .i64 g.rolls,(.slice aa ms.length ac),(.slice ta g.tiers.length tc)] 25)).alloc (Obj.cells #[.slice ma r.main.length mc,.slice ba r.bonus.length bc,.slice xa r.extra.length xc,.int .i64 r.factor,.string r.serial] 29)) := ⟨_,rfl⟩
 have bW : Below w.heap.size w W := by rw [hW];exact Bel.al (Bel.al (Below.refl _ _) _) _
 have r0 : GameAt W (w.heap.size) g ((.slice aa ms.length ac)) ((.slice ta g.tiers.length tc)) := by rw [hW];exact Row.alloc (Row.new _ _ _) _
 have r1 : Row W ((w.heap.size + 1)) 29 [.slice ma r.main.length mc,.slice ba r.bonus.length bc,.slice xa r.extra.length xc,.int .i64 r.factor,.string r.serial] := by rw [hW];exact Row.at2 _ _ _ _
 have sW : w.heap.size + 1 < W.heap.size := by rw [hW];simp
 rw [← hW]
 clear hW
 go_wp2_with (first | (refine wpList_load_row rfl 25 _ rfl _ rfl _ _ _ _ r0 Tryz.underlying25 rfl (by kernel_rfl) ?_) | fail)
 refine (cN.out _ bW).mono ?_
 rintro e w1 ⟨rfl,hb1⟩
 go_wp2
 go_ret2
 exact ⟨.slice none 0 0,rfl,OwnS.nil _ _ _,Bel.to bW hb1⟩
set_option maxHeartbeats 8000000 in
set_option maxRecDepth 100000 in
theorem wins_bad2 (g : GameD) (av tv v mv bv xv : Value) (ms : List AddonM) (tm : List TickM) (draw : Int) (r : ResD) (w : World) (hg : GameR w av tv ms g) (ht : TicketsR w v tm) (hr : ResR w mv bv xv r) (hs : r.serial.size ≤ 9223372036854775807) (hd : InI draw) (hn : tm.length ≤ 900) (he : gameE g = 0) (hdr : draw < 1) :
  Calls Tryz.prog 7 #[gameVal g av tv,v,.int .i64 draw,resVal mv bv xv r] w (WinsO [] 2 w) := by
 have cN := hide (fun X (hX : Below w.heap.size w X) => inew_ok g av tv ms X (hg.below hX) he)
 have hdb : decide (draw < 1) = true := decide_eq_true hdr
 obtain ⟨aa,ac,rfl,hal,ham⟩ := hg.1.1.shape
 obtain ⟨ta,tc,rfl,htl,htm⟩ := hg.2.2.shape
 obtain ⟨tka0,tkc,rfl,htk1,htk2⟩ := ht.1.shape
 obtain ⟨ma,mc,rfl,-,-,-⟩ := hr.1.form
 obtain ⟨ba,bc,rfl,-,-,-⟩ := hr.2.1.form
 obtain ⟨xa,xc,rfl,-,-,-⟩ := hr.2.2.form
 clear hg ht hr hal ham htl htm htk1 htk2
 replace he := hide he
 replace hdr := hide hdr
 unfold gameVal at cN
 unfold gameVal resVal
 go_enter Tryz.func7,Tryz.ntmps7
 go_upto_region 1 with (fail)
 obtain ⟨W,hW⟩ : ∃ W,W = ((w.alloc (Obj.cells #[.string g.name,.int .i64 g.kind,.int .i64 g.price,.int .i64 g.main,.int .i64 g.of,.int .i64 g.bonus,.int .i64 g.bonusOf,.int .i64 g.extra,.int .i64 g.draws,.int .i64 g.system,.int .i64 g.days,.int .i64 g.at_,.int .i64 g.close,.int .i64 g.cancel,.int .i64 g.expiry,.int .i64 g.pool,.int .i64 g.reserve,.int .i64 g.round,.int .i64 g.cap,.int .i64 g.rolls,(.slice aa ms.length ac),(.slice ta g.tiers.length tc)] 25)).alloc (Obj.cells #[.slice ma r.main.length mc,.slice ba r.bonus.length bc,.slice xa r.extra.length xc,.int .i64 r.factor,.string r.serial] 29)) := ⟨_,rfl⟩
 have bW : Below w.heap.size w W := by rw [hW];exact Bel.al (Bel.al (Below.refl _ _) _) _
 have r0 : GameAt W (w.heap.size) g ((.slice aa ms.length ac)) ((.slice ta g.tiers.length tc)) := by rw [hW];exact Row.alloc (Row.new _ _ _) _
 have r1 : Row W ((w.heap.size + 1)) 29 [.slice ma r.main.length mc,.slice ba r.bonus.length bc,.slice xa r.extra.length xc,.int .i64 r.factor,.string r.serial] := by rw [hW];exact Row.at2 _ _ _ _
 have sW : w.heap.size + 1 < W.heap.size := by rw [hW];simp
 rw [← hW]
 clear hW
 go_wp2_with (first | (refine wpList_load_row rfl 25 _ rfl _ rfl _ _ _ _ r0 Tryz.underlying25 rfl (by kernel_rfl) ?_) | fail)
 refine (cN.out _ bW).mono ?_
 rintro e w1 ⟨Wm,ib,mk,mp,av9,tv9,ms9,rfl,-,hb1,hb2,-⟩
 have hb3 := Bel.to hb1 hb2
 have B1 := Bel.to bW hb3
 have r0 := r0.keep hb3
 have r1 := Row.keep r1 hb3
 clear hb1 hb2 hb3 bW cN
 go_wp2
 go_ret2
 exact ⟨.slice none 0 0,rfl,OwnS.nil _ _ _,B1⟩
set_option maxHeartbeats 8000000 in
set_option maxRecDepth 100000 in
theorem wins_bad3 (g : GameD) (av tv v mv bv xv : Value) (ms : List AddonM) (tm : List TickM) (draw : Int) (r : ResD) (w : World) (hg : GameR w av tv ms g) (ht : TicketsR w v tm) (hr : ResR w mv bv xv r) (hs : r.serial.size ≤ 9223372036854775807) (hd : InI draw) (hn : tm.length ≤ 900) (he : gameE g = 0) (hdr : 1 ≤ draw) (hre : resE g r ≠ 0) :
  Calls Tryz.prog 7 #[gameVal g av tv,v,.int .i64 draw,resVal mv bv xv r] w (WinsO [] (resE g r) w) := by
 have cN := hide (fun X (hX : Below w.heap.size w X) => inew_ok g av tv ms X (hg.below hX) he)
 have cD := hide (fun X (hX : Below w.heap.size w X) => dcheck_any g av tv mv bv xv ms r X (hg.below hX) (hr.below hX) hs)
 obtain ⟨c,hcc⟩ : ∃ c,c = resE g r := ⟨_,rfl⟩
 rw [← hcc] at cD hre ⊢
 have hcb : (c != 0) = true := by simpa using hre
 have hdb : decide (draw < 1) = false := decide_eq_false (by omega)
 have hnb : decide ((2048 : Int) < (tm.length : Int)) = false := decide_eq_false (by omega)
 obtain ⟨aa,ac,rfl,hal,ham⟩ := hg.1.1.shape
 obtain ⟨ta,tc,rfl,htl,htm⟩ := hg.2.2.shape
 obtain ⟨tka0,tkc,rfl,htk1,htk2⟩ := ht.1.shape
 obtain ⟨ma,mc,rfl,-,-,-⟩ := hr.1.form
 obtain ⟨ba,bc,rfl,-,-,-⟩ := hr.2.1.form
 obtain ⟨xa,xc,rfl,-,-,-⟩ := hr.2.2.form
 obtain ⟨N,hN⟩ : ∃ N,N = tm.length := ⟨_,rfl⟩
 rw [← hN] at hnb ⊢
 clear hg ht hr hal ham htl htm htk1 htk2 hcc hn hN
 replace he := hide he
 replace hre := hide hre
 replace hdr := hide hdr
 unfold gameVal at cN
 unfold gameVal resVal at cD
 unfold gameVal resVal
 go_enter Tryz.func7,Tryz.ntmps7
 go_upto_region 1 with (fail)
 obtain ⟨W,hW⟩ : ∃ W,W = ((w.alloc (Obj.cells #[.string g.name,.int .i64 g.kind,.int .i64 g.price,.int .i64 g.main,.int .i64 g.of,.int .i64 g.bonus,.int .i64 g.bonusOf,.int .i64 g.extra,.int .i64 g.draws,.int .i64 g.system,.int .i64 g.days,.int .i64 g.at_,.int .i64 g.close,.int .i64 g.cancel,.int .i64 g.expiry,.int .i64 g.pool,.int .i64 g.reserve,.int .i64 g.round,.int .i64 g.cap,.int .i64 g.rolls,(.slice aa ms.length ac),(.slice ta g.tiers.length tc)] 25)).alloc (Obj.cells #[.slice ma r.main.length mc,.slice ba r.bonus.length bc,.slice xa r.extra.length xc,.int .i64 r.factor,.string r.serial] 29)) := ⟨_,rfl⟩
 have bW : Below w.heap.size w W := by rw [hW];exact Bel.al (Bel.al (Below.refl _ _) _) _
 have r0 : GameAt W (w.heap.size) g ((.slice aa ms.length ac)) ((.slice ta g.tiers.length tc)) := by rw [hW];exact Row.alloc (Row.new _ _ _) _
 have r1 : Row W ((w.heap.size + 1)) 29 [.slice ma r.main.length mc,.slice ba r.bonus.length bc,.slice xa r.extra.length xc,.int .i64 r.factor,.string r.serial] := by rw [hW];exact Row.at2 _ _ _ _
 have sW : w.heap.size + 1 < W.heap.size := by rw [hW];simp
 rw [← hW]
 clear hW
 go_wp2_with (first | (refine wpList_load_row rfl 25 _ rfl _ rfl _ _ _ _ r0 Tryz.underlying25 rfl (by kernel_rfl) ?_) | fail)
 refine (cN.out _ bW).mono ?_
 rintro e w1 ⟨Wm,ib,mk,mp,av9,tv9,ms9,rfl,-,hb1,hb2,-⟩
 have hb3 := Bel.to hb1 hb2
 have B1 := Bel.to bW hb3
 have r0 := r0.keep hb3
 have r1 := Row.keep r1 hb3
 clear hb1 hb2 hb3 bW cN
 go_wp2_with (first | (refine wpList_load_row rfl 25 _ rfl _ rfl _ _ _ _ r0 Tryz.underlying25 rfl (by kernel_rfl) ?_) | (refine wpList_load_row rfl 29 _ rfl _ rfl _ _ _ _ r1 Tryz.underlying29 rfl (by kernel_rfl) ?_) | fail)
 refine (cD.out _ B1).mono ?_
 rintro e w2 ⟨rfl,hb⟩
 go_wp2
 go_ret2
 exact ⟨.slice none 0 0,rfl,OwnS.nil _ _ _,Bel.to B1 hb⟩
set_option maxHeartbeats 8000000 in
set_option maxRecDepth 100000 in
theorem wins_ok (g : GameD) (av tv v mv bv xv : Value) (ms : List AddonM) (tm : List TickM) (draw : Int) (r : ResD) (w : World) (hg : GameR w av tv ms g) (ht : TicketsR w v tm) (hr : ResR w mv bv xv r) (hs : r.serial.size ≤ 9223372036854775807) (hd : InI draw) (hn : tm.length ≤ 900) (he : gameE g = 0) (hdr : 1 ≤ draw) (hre : resE g r = 0) :
  Calls Tryz.prog 7 #[gameVal g av tv,v,.int .i64 draw,resVal mv bv xv r] w (WinsO (winsE g r (eligT (tm.map (·.d)) g.name draw)).1 (winsE g r (eligT (tm.map (·.d)) g.name draw)).2 w) := by
 obtain ⟨ts,hts⟩ : ∃ ts,ts = tm.map (·.d) := ⟨_,rfl⟩
 have hlen : tm.length = ts.length := by rw [hts,List.length_map]
 have htsi : ∀ (i : Nat) (hi : i < tm.length) (hi2 : i < ts.length),tm[i].d = ts[i] := by intro i hi hi2;subst hts;simp
 have cN := hide (fun X (hX : Below w.heap.size w X) => inew_ok g av tv ms X (hg.below hX) he)
 have cD := hide (fun X (hX : Below w.heap.size w X) => dcheck_any g av tv mv bv xv ms r X (hg.below hX) (hr.below hX) hs)
 rw [hre] at cD
 have cE := hide (fun X (hX : Below w.heap.size w X) => eligible_any v tm g.name draw X (ht.below hX) hd (by omega))
 rw [← hts] at cE ⊢
 obtain ⟨el,hel⟩ : ∃ el,el = eligT ts g.name draw := ⟨_,rfl⟩
 have hep : eligP ts g.name draw = el.map fun p => (p.1 : Int) := by rw [hel];rfl
 have helat : ∀ k (hk : k < el.length),∃ hk2 : el[k].1 < ts.length,ts[el[k].1] = el[k].2 := by intro k hk;subst hel;exact eligT_at hk
 have hell : el.length ≤ 900 := by have := eligT_len ts g.name draw;rw [← hel] at this;omega
 rw [hep] at cE
 rw [← hel]
 have cL := hide (fun X (hX : Below w.heap.size w X) lv B (hl : LinesR X lv B.lines) (hc : (betP g B).2 = 0) => blines_ok g av tv lv ms B X (hg.below hX) hl hc)
 have cB := hide (fun X (hX : Below w.heap.size w X) lv B (hl : LinesR X lv B.lines) (hc : (betP g B).2 ≠ 0) => blines_bad g av tv lv ms B X (hg.below hX) hl hc)
 have cA := hide (fun X (hX : Below w.heap.size w X) lm lb (x : LineD) (hl : LineR X lm lb x.1 x.2) (hx : lineE g x.1 x.2 = 0) (i j : Int) (gb rb wb base : Nat) (ea : Option Addr) (ec : Nat) (E : List WinD) hG hR hW hown hb hbs hE => wins_add g av tv lm lb mv bv xv ms x r i j gb rb wb base ea ec E X (hg.below hX) hl (hr.below hX) hs hG hR hW hown hb hbs hE)
 have hth := hide (fun X (hX : Below w.heap.size w X) => ht.below hX)
 have hdb : decide (draw < 1) = false := decide_eq_false (by omega)
 have hnb : decide ((2048 : Int) < (tm.length : Int)) = false := decide_eq_false (by omega)
 obtain ⟨P,hP⟩ : ∃ P,P = winsE g r el := ⟨_,rfl⟩
 rw [← hP]
 obtain ⟨aa,ac,rfl,hal,ham⟩ := hg.1.1.shape
 obtain ⟨ta,tc,rfl,htl,htm⟩ := hg.2.2.shape
 obtain ⟨tka0,tkc,rfl,htk1,htk2⟩ := ht.1.shape
 obtain ⟨ma,mc,rfl,-,-,-⟩ := hr.1.form
 obtain ⟨ba,bc,rfl,-,-,-⟩ := hr.2.1.form
 obtain ⟨xa,xc,rfl,-,-,-⟩ := hr.2.2.form
 obtain ⟨N,hN⟩ : ∃ N,N = tm.length := ⟨_,rfl⟩
 have hNn : N ≤ 900 := by omega
 rw [← hN] at hnb hth cE ⊢
 obtain ⟨n,hnn⟩ : ∃ n,n = el.length := ⟨_,rfl⟩
 have hnl : n ≤ 900 := by omega
 have hn9 : (n : Int) ≤ 900 := by omega
 have hNh := hide hN
 have hnnh := hide hnn
 replace hP := hide hP
 have hreh := hide hre
 have htsi := hide htsi
 have helat := hide helat
 have hlen := hide hlen
 clear hg ht hr hal ham htl htm htk1 htk2 hn hN hnn hre hel hts hep hell hs hd
 replace he := hide he
 replace hdr := hide hdr
 unfold gameVal at cN
 unfold gameVal resVal at cD
 unfold gameVal betVal at cL cB
 unfold resCells lineVal at cA
 unfold gameVal resVal
 go_enter Tryz.func7,Tryz.ntmps7
 go_upto_region 1 with (fail)
 obtain ⟨W,hW⟩ : ∃ W,W = ((w.alloc (Obj.cells #[.string g.name,.int .i64 g.kind,.int .i64 g.price,.int .i64 g.main,.int .i64 g.of,.int .i64 g.bonus,.int .i64 g.bonusOf,.int .i64 g.extra,.int .i64 g.draws,.int .i64 g.system,.int .i64 g.days,.int .i64 g.at_,.int .i64 g.close,.int .i64 g.cancel,.int .i64 g.expiry,.int .i64 g.pool,.int .i64 g.reserve,.int .i64 g.round,.int .i64 g.cap,.int .i64 g.rolls,(.slice aa ms.length ac),(.slice ta g.tiers.length tc)] 25)).alloc (Obj.cells #[.slice ma r.main.length mc,.slice ba r.bonus.length bc,.slice xa r.extra.length xc,.int .i64 r.factor,.string r.serial] 29)) := ⟨_,rfl⟩
 have bW : Below w.heap.size w W := by rw [hW];exact Bel.al (Bel.al (Below.refl _ _) _) _
 have r0 : GameAt W (w.heap.size) g ((.slice aa ms.length ac)) ((.slice ta g.tiers.length tc)) := by rw [hW];exact Row.alloc (Row.new _ _ _) _
 have r1 : Row W ((w.heap.size + 1)) 29 [.slice ma r.main.length mc,.slice ba r.bonus.length bc,.slice xa r.extra.length xc,.int .i64 r.factor,.string r.serial] := by rw [hW];exact Row.at2 _ _ _ _
 have sW : w.heap.size + 1 < W.heap.size := by rw [hW];simp
 rw [← hW]
 clear hW
 go_wp2_with (first | (refine wpList_load_row rfl 25 _ rfl _ rfl _ _ _ _ r0 Tryz.underlying25 rfl (by kernel_rfl) ?_) | fail)
 refine (cN.out _ bW).mono ?_
 rintro e w1 ⟨Wm,ib,mk,mp,av9,tv9,ms9,rfl,-,hb1,hb2,-⟩
 have hb3 := Bel.to hb1 hb2
 have B1 := Bel.to bW hb3
 have r0 := r0.keep hb3
 have r1 := Row.keep r1 hb3
 clear hb1 hb2 hb3 bW cN
 go_wp2_with (first | (refine wpList_load_row rfl 25 _ rfl _ rfl _ _ _ _ r0 Tryz.underlying25 rfl (by kernel_rfl) ?_) | (refine wpList_load_row rfl 29 _ rfl _ rfl _ _ _ _ r1 Tryz.underlying29 rfl (by kernel_rfl) ?_) | fail)
 refine (cD.out _ B1).mono ?_
 rintro e w2 ⟨rfl,hb⟩
 have B2 := Bel.to B1 hb
 have r0 := r0.keep hb
 have r1 := Row.keep r1 hb
 have hl0 : w.heap.size < w2.heap.size := Row.lt r0
 have hl1 : w.heap.size + 1 < w2.heap.size := Row.lt r1
 clear hb B1 cD sW
 go_upto_region 13 with (fail)
 obtain ⟨W3,hW3⟩ : ∃ W3,W3 = w2.alloc (.cells #[.slice none 0 0] 35) := ⟨_,rfl⟩
 have b3 : Below w2.heap.size w2 W3 := by rw [hW3];exact Bel.al (Below.refl _ _) _
 have rW : Row W3 w2.heap.size 35 [.slice none 0 0] := by rw [hW3];exact Row.newOf _ rfl
 have hs3 : W3.heap.size = w2.heap.size + 1 := by rw [hW3];simp
 rw [← hW3]
 clear hW3
 have r0 := r0.keep b3
 have r1 := Row.keep r1 b3
 have B3 := Bel.to B2 b3
 have c0 := r0.name
 go_wp2_with fail
 refine (cE.out _ B3).mono ?_
 rintro e w5 ⟨u0,rfl,hoE,hb⟩
 have h25 := Bel.to b3 hb
 have r0 := r0.keep hb
 have r1 := Row.keep r1 hb
 have rW := Row.keep rW hb
 have hs25 : w2.heap.size ≤ w5.heap.size := h25.size
 have hwl := rW.lt
 obtain ⟨la,lc,rfl,-,-,-⟩ := hoE.rd.form
 rw [show (el.map fun p => (p.1 : Int)).length = n by rw [List.length_map];exact hnnh.out.symm] at hoE ⊢
 have hfE := hide hoE.fr
 have hrE := hide hoE.rd
 replace hs3 := hide hs3
 clear hb b3 B3 cE c0 hoE
 have hown5 : OwnWin w5 w5.heap.size (.slice none 0 0) [] := OwnS.nil _ _ _
 have rW0 := hide rW
 clear rW
 go_wp2
 go_loopg [16,17,18,19,20,21,48,67] n (fun gh _ _ _ _ _ _ t48 _ wr => ∃ (k : Nat) (E : List WinD) (ea : Option Addr) (ec : Nat),gh = n - k ∧ k ≤ n ∧ t48 = .int .i64 (k : Int) ∧ Hid (Row wr w2.heap.size 35 [.slice ea E.length ec]) ∧ Hid (OwnWin wr w5.heap.size (.slice ea E.length ec) E) ∧ Hid (E = winsF g r (el.take k)) ∧ Hid (∀ p ∈ el.take k,(betP g p.2.bet).2 = 0) ∧ Hid (Grown2 w5 wr w2.heap.size none))
 case atStart => exact ⟨0,[],none,0,rfl,Nat.zero_le _,rfl,rW0,hown5,rfl,fun p hp => by simp at hp,Grown2.ofBelow (Below.refl _ _) _ _⟩
 case round =>
  clear hown5 rW0
  obtain ⟨k,E,ea,ec,hgh,hk,rfl,hWr,hown,hE,hok,hG2⟩ := hrel
  replace hgh := hide hgh
  replace hG2 := hG2.out
  replace hWr := hWr.out
  replace hown := hown.out
  have hBb : Below w2.heap.size w5 wr := hG2.below (Nat.le_refl _) (fun k h => by cases h) hs25
  have hB2 : Below w2.heap.size w2 wr := h25.trans hBb
  have BW : Below w.heap.size w wr := Bel.to B2 hB2
  have R0 : GameAt wr w.heap.size g (.slice aa ms.length ac) (.slice ta g.tiers.length tc) := Row.below r0 hBb hl0
  by_cases hlt : k < n
  ·have hlt2 := hide hlt
   have hke : k < el.length := by rw [← hnnh.out];exact hlt
   have hrdE := hrE.out.inR hfE.out (SameIn.of2 hG2 (by have := hs3.out;omega))
   obtain ⟨b0,off0,rfl,hb0,hcell⟩ := hrdE.at_ (k := k) (by rw [List.length_map];exact hke)
   obtain ⟨q,hq⟩ : ∃ q,q = el[k].1 := ⟨_,rfl⟩
   have e1 : wr.cell? ⟨b0,off0 + k,none⟩ = some (.int .i64 (q : Int)) := by rw [hcell k (by rw [List.length_map];exact hke),hq,List.getElem_map]
   obtain ⟨hq2,hq3⟩ := helat.out k hke
   have hq4 : q < tm.length := by rw [hq,hlen.out];exact hq2
   obtain ⟨m,hm⟩ : ∃ m,m = tm[q] := ⟨_,rfl⟩
   have hmd : m.d = el[k].2 := by
    have h9 := htsi.out q hq4 (by rw [← hlen.out];exact hq4)
    rw [← hm] at h9
    rw [h9,← hq3]
    congr 1
   have hTk := hth.out wr BW
   obtain ⟨b1,off1,rfl,hb1,hcl⟩ := hTk.1.at_ hq4
   have hmi : tm[q]? = some m := by rw [hm];exact List.getElem?_eq_getElem hq4
   have hcl2 := hcl q m hmi
   have hlr := (hTk.2 m (by rw [hm];exact List.getElem_mem hq4)).1
   clear hcell hcl hTk hrdE hmi hm hq3 hb0 hb1
   obtain ⟨⟨t1,t2,Bt,t3,t4,t5,t6,t7,t8,t9,t10⟩,lv⟩ := m
   simp only [] at hmd hlr hcl2
   obtain ⟨sa,sc,rfl,hsl1,hsl2⟩ := hlr.shape
   obtain ⟨sn,hsn⟩ : ∃ sn,sn = Bt.lines.length := ⟨_,rfl⟩
   rw [← hsn] at hlr hcl2
   have hrange : wr.rangeAt b1 (off1 + q * 14 + 2) [.slice sa sn sc,.bool Bt.sys,.int .i64 Bt.draws,.int .i64 Bt.addons] := by
    intro j u hu
    match j,hu with
    | 0,hu => exact hcl2 2 u hu
    | 1,hu => exact hcl2 3 u hu
    | 2,hu => exact hcl2 4 u hu
    | 3,hu => exact hcl2 5 u hu
   have hbet : el[k].2.bet = Bt := by rw [← hmd]
   clear hcl2 hsl1 hsl2
   have hqN : q < N := by rw [hNh.out];exact hq4
   have j1 : (0 : Int) ≤ (k : Int) := by omega
   have j2 : (k : Int) < (n : Int) := by omega
   have j3 : (0 : Int) ≤ (q : Int) := by omega
   have j4 : (q : Int) < (N : Int) := by omega
   have bd : Below wr.heap.size wr wr.drew := Below.drewSelf wr
   replace hq := hide hq
   replace hsn := hide hsn
   clear hq2 hq4 hmd
   by_cases hc : (betP g Bt).2 = 0
   ·have cL1 := hide (cL.out wr.drew (Bel.to BW bd) (.slice sa sn sc) Bt (hlr.below bd) hc)
    have hTlen := linesB_len hc
    have hTv := hide (linesB_valid hc)
    have hwl1 := hide (winsL_len (fun x => tierM g x r) (q : Int) (linesB g Bt) 0)
    have hElen := winsF_len (r := r) hok.out
    rw [← hE.out,List.length_take] at hElen
    have hsn1 : winsF g r (el.take (k + 1)) = E ++ winsL (fun x => tierM g x r) (q : Int) (linesB g Bt) 0 := by rw [winsF_snoc g r el k hke,hE.out,hq.out,hbet]
    obtain ⟨T,hT⟩ : ∃ T,T = linesB g Bt := ⟨_,rfl⟩
    rw [← hT] at cL1 hTlen hTv hwl1 hsn1
    have hok2 : Hid (∀ p ∈ el.take (k + 1),(betP g p.2.bet).2 = 0) := by
     show ∀ p ∈ el.take (k + 1),(betP g p.2.bet).2 = 0
     intro p hp
     rw [List.take_succ_eq_append_getElem hke] at hp
     rcases List.mem_append.1 hp with hp | hp
     ·exact hok.out p hp
     ·rw [List.mem_singleton] at hp;subst hp;rw [hbet];exact hc
    have hElen2 : Hid (E.length + 1024 ≤ 1000000) := by show E.length + 1024 ≤ 1000000;omega
    replace hsn1 := hide hsn1
    have hTlen2 := hide hTlen
    clear hc hbet hT hElen hlr hok hTlen
    go_upto_region 16 with (fail)
    refine wp_region_held_drew (S := fun X => Rng X [(w.heap.size,gameCells g (.slice aa ms.length ac) (.slice ta g.tiers.length tc))] ∧ X.rangeAt b1 (off1 + q * 14 + 2) [.slice sa sn sc,.bool Bt.sys,.int .i64 Bt.draws,.int .i64 Bt.addons]) (by kernel_rfl) (⟨Rng.drew (Rng.cons R0 (Rng.nil _)),hrange⟩) (fun hHeld => ?_)
    refine' wpAnyH_take (i := 0) (oi := _) (v := _) rfl (by kernel_rfl) (by kernel_rfl) (by kernel_rfl) (fun _ _ _ h => h) (yieldsIf_load_mid (by first | (go_simp;done) | rfl) 25 _ rfl (w.heap.size) (0) rfl (gameCells g (.slice aa ms.length ac) (.slice ta g.tiers.length tc)) _ (fun X h => Rng.at0 h.1) Tryz.underlying25 rfl (by kernel_rfl)) hHeld ?_
    try simp only [Act.put,zsA,zsB,zsC]
    refine' wpAnyH_take (i := 1) (oi := _) (v := .slice (some ⟨b1,off1,none⟩) N tkc) rfl (by kernel_rfl) (by kernel_rfl) (by kernel_rfl) (fun _ _ _ h => h) (Or.inl ⟨by first | (go_simp;done) | rfl,fun X _ => by go_simp⟩) hHeld ?_
    try simp only [Act.put,zsA,zsB,zsC]
    refine' wpAnyH_take (i := 2) (oi := _) (v := .int .i64 (q : Int)) rfl (by kernel_rfl) (by kernel_rfl) (by kernel_rfl) (fun _ _ _ h => h) (Or.inl ⟨by first | (go_simp;done) | rfl,fun X _ => by go_simp⟩) hHeld ?_
    try simp only [Act.put,zsA,zsB,zsC]
    refine' wpAnyH_take (i := 3) (oi := _) (v := .pointer (some ⟨b1,off1 + q * 14,none⟩)) rfl (by kernel_rfl) (by kernel_rfl) (by kernel_rfl) (fun _ _ _ h => h) (Or.inl ⟨by first | (go_simp;done) | rfl,fun X _ => by go_simp⟩) hHeld ?_
    try simp only [Act.put,zsA,zsB,zsC]
    refine' wpAnyH_take (i := 4) (oi := _) (v := .pointer (some ⟨b1,off1 + q * 14 + 2,none⟩)) rfl (by kernel_rfl) (by kernel_rfl) (by kernel_rfl) (fun _ _ _ h => h) (Or.inl ⟨by first | (go_simp;done) | rfl,fun X _ => by go_simp⟩) hHeld ?_
    try simp only [Act.put,zsA,zsB,zsC]
    refine' wpAnyH_take (i := 5) (oi := _) (v := .agg #[.slice sa sn sc,.bool Bt.sys,.int .i64 Bt.draws,.int .i64 Bt.addons]) rfl (by kernel_rfl) (by kernel_rfl) (by kernel_rfl) (fun _ _ _ h => h) (by refine (yieldsIf_load_mid ?_ 48 (.tmp 57) rfl b1 (off1 + q * 14 + 2) ?_ ([.slice sa sn sc,.bool Bt.sys,.int .i64 Bt.draws,.int .i64 Bt.addons]) _ (fun X h => h.2) Tryz.underlying48 rfl (by kernel_rfl)) <;> go_simp) hHeld ?_
    try simp only [Act.put,zsA,zsB,zsC]
    refine wpAnyH_ready (rs := [6]) (by kernel_rfl) (by simp) ?_
    refine AllReadyH.cons (o := _) rfl (fun K hK => ?_) AllReadyH.nil
    go_simp
    refine (cL1.out).mono ?_
    rintro e w6 ⟨u,rfl,hu,hb6⟩
    obtain ⟨ua,uc,rfl⟩ := hu.shape
    go_wp2_with fail
    refine hK.out _ _ (⟨Rng.keep hHeld.1 hb6,rangeAt_keep15 hHeld.2 hb6⟩) (fun hHeld => ?_)
    clear hK K
    try simp only [Act.put,zsA,zsB,zsC]
    refine' wpAnyH_take (i := 7) (oi := _) (v := .tuple #[.slice ua T.length uc,.int .i64 0]) rfl (by kernel_rfl) (by kernel_rfl) (by kernel_rfl) (fun _ _ _ h => h) (Or.inl ⟨by first | (go_simp;done) | rfl,fun X _ => by go_simp⟩) hHeld ?_
    try simp only [Act.put,zsA,zsB,zsC]
    refine' wpAnyH_take (i := 8) (oi := _) (v := .slice ua T.length uc) rfl (by kernel_rfl) (by kernel_rfl) (by kernel_rfl) (fun _ _ _ h => h) (Or.inl ⟨by first | (go_simp;done) | rfl,fun X _ => by go_simp⟩) hHeld ?_
    try simp only [Act.put,zsA,zsB,zsC]
    refine' wpAnyH_take (i := 9) (oi := _) (v := .int .i64 0) rfl (by kernel_rfl) (by kernel_rfl) (by kernel_rfl) (fun _ _ _ h => h) (Or.inl ⟨by first | (go_simp;done) | rfl,fun X _ => by go_simp⟩) hHeld ?_
    try simp only [Act.put,zsA,zsB,zsC]
    refine' wpAnyH_take (i := 10) (oi := _) (v := .slice ua T.length uc) rfl (by kernel_rfl) (by kernel_rfl) (by kernel_rfl) (fun _ _ _ h => h) (Or.inl ⟨by first | (go_simp;done) | rfl,fun X _ => by go_simp⟩) hHeld ?_
    try simp only [Act.put,zsA,zsB,zsC]
    refine' wpAnyH_take (i := 11) (oi := _) (v := .int .i64 0) rfl (by kernel_rfl) (by kernel_rfl) (by kernel_rfl) (fun _ _ _ h => h) (Or.inl ⟨by first | (go_simp;done) | rfl,fun X _ => by go_simp⟩) hHeld ?_
    try simp only [Act.put,zsA,zsB,zsC]
    refine wpAnyH_done (by kernel_rfl) ?_ _
    go_simp
    clear hHeld
    obtain ⟨wo,hwo⟩ : ∃ wo,wo = wr := ⟨_,rfl⟩
    subst hwo
    have bo := Bel.to bd hb6
    have hu6 : OwnLn w6 wo.heap.size (.slice ua T.length uc) T := hu
    have hso6 : wo.heap.size ≤ w6.heap.size := bo.size
    have hW6 := hide (Row.keep hWr bo)
    have hown6 : OwnWin w6 w5.heap.size (.slice ea E.length ec) E := OwnS.keep hown bo
    have hown6 := hide hown6
    have hlow := hown.lt
    have hG6 := hide (hG2.andBelow bo)
    have hwo2 : w2.heap.size < wo.heap.size := Row.lt hWr
    have h5o : w5.heap.size ≤ wo.heap.size := hG2.size
    have hlow6 : Hid (∀ b,(Value.slice ea E.length ec).ownBlock = some b → b < wo.heap.size ∨ w6.heap.size ≤ b) := fun b hb => .inl (hlow b hb).2
    obtain ⟨M,hM⟩ : ∃ M,M = T.length := ⟨_,rfl⟩
    rw [← hM] at hu6 ⊢
    have hMh := hide hM
    have hM2 : Hid (M ≤ 1024) := by show M ≤ 1024;have := hTlen2.out;omega
    have hs0 := hide (SameIn.refl w6 wo.heap.size)
    have hM9 : (M : Int) ≤ 1024 := by have : M ≤ 1024 := hM2.out;omega
    clear hu cL1 hb6 bo hrange e1 hWr hown hG2 hBb hB2 BW R0 bd hlow hM
    go_wp2
    go_loopg [19,20,21,67] M (fun gh _ _ _ t67 wr => ∃ (j : Nat) (E2 : List WinD) (ea : Option Addr) (ec : Nat),gh = M - j ∧ j ≤ M ∧ t67 = .int .i64 (j : Int) ∧ Hid (Row wr w2.heap.size 35 [.slice ea E2.length ec]) ∧ Hid (OwnWin wr w5.heap.size (.slice ea E2.length ec) E2) ∧ Hid (E2 = E ++ winsL (fun x => tierM g x r) (q : Int) (T.take j) 0) ∧ Hid (Grown2 w5 wr w2.heap.size none) ∧ Hid (SameIn wo.heap.size w6.heap.size w6 wr) ∧ Hid (∀ b,(Value.slice ea E2.length ec).ownBlock = some b → b < wo.heap.size ∨ w6.heap.size ≤ b))
    case atStart => exact ⟨0,E,ea,ec,rfl,Nat.zero_le _,rfl,hW6,hown6,by show E = _;simp [winsL],hG6,hs0,hlow6⟩
    case round =>
     clear hW6 hown6 hG6 hs0 hlow6
     obtain ⟨j,E2,ea2,ec2,hgj,hj,rfl,hWr,hown,hE2,hG2,hSm,hlo⟩ := hrel
     replace hgj := hide hgj
     replace hWr := hWr.out
     replace hown := hown.out
     replace hG2 := hG2.out
     have hBb : Below w2.heap.size w5 wr := hG2.below (Nat.le_refl _) (fun k h => by cases h) hs25
     have hB2 : Below w2.heap.size w2 wr := h25.trans hBb
     have BW : Below w.heap.size w wr := Bel.to B2 hB2
     have R0 : GameAt wr w.heap.size g (.slice aa ms.length ac) (.slice ta g.tiers.length tc) := Row.below r0 hBb hl0
     have R1 := Row.below r1 hBb hl1
     by_cases hjl : j < M
     ·have hjl2 := hide hjl
      have hjT : j < T.length := by rw [← hMh.out];exact hjl
      have hls := hu6.inR hSm.out
      obtain ⟨b2,off2,mv2,bv2,rfl,hb2,x1,y1,hl⟩ := hls.at_ hjT
      have hval := (hTv.out T[j] (List.getElem_mem hjT)).1
      have hsn2 : E2 ++ (if tierM g T[j] r = -1 then [] else [(⟨(q : Int),(j : Int),tierM g T[j] r⟩ : WinD)]) = E ++ winsL (fun x => tierM g x r) (q : Int) (T.take (j + 1)) 0 := by
       rw [winsL_snoc _ _ _ _ _ hjT,hE2.out,List.append_assoc,Nat.zero_add]
      have hlen2 : E2.length ≤ E.length + 1024 := by
       have h8 := winsL_len (fun x => tierM g x r) (q : Int) (T.take j) 0
       rw [List.length_take] at h8
       have h9 := hM2.out
       rw [hE2.out,List.length_append]
       omega
      obtain ⟨x,hx⟩ : ∃ x,x = T[j] := ⟨_,rfl⟩
      rw [← hx] at hl hval hsn2
      obtain ⟨s1,m1,k1,rfl⟩ := Rd.shape hl.1
      obtain ⟨s2,m2,k2,rfl⟩ := Rd.shape hl.2
      have hrange : wr.rangeAt b2 (off2 + j * 2) [.slice s1 m1 k1,.slice s2 m2 k2] := by
       intro i v hv
       match i,hv with
       | 0,hv => simp at hv;subst hv;exact x1
       | 1,hv => simp at hv;subst hv;exact y1
      have i1 : (0 : Int) ≤ (j : Int) := by omega
      have i2 : (j : Int) < (M : Int) := by omega
      replace hsn2 := hide hsn2
      replace hlen2 := hide hlen2
      replace hx := hide hx
      clear x1 y1 hls
      go_upto_region 22 with (first | (refine wpList_load_mid rfl 53 _ rfl b2 (off2 + j * 2) rfl [.slice s1 m1 k1,.slice s2 m2 k2] _ hrange Tryz.underlying53 rfl (by kernel_rfl) ?_) | fail)
      obtain ⟨W7,hW7⟩ : ∃ W7,W7 = wr.alloc (Obj.cells #[.slice s1 m1 k1,.slice s2 m2 k2] 53) := ⟨_,rfl⟩
      have b7 : Below wr.heap.size wr W7 := by rw [hW7];exact Bel.al (Below.refl _ _) _
      have rL : LineAt W7 wr.heap.size (.slice s1 m1 k1) (.slice s2 m2 k2) := by rw [hW7];exact Row.new _ _ _
      rw [← hW7]
      clear hW7
      have hown7 : OwnWin W7 w5.heap.size (.slice ea2 E2.length ec2) E2 := OwnS.keep hown b7
      have hW7 := Row.keep hWr b7
      have hG7 := hG2.andBelow b7
      have hSm7 := hSm.out.keep b7
      have h5 : w5.heap.size ≤ W7.heap.size := hG7.size
      have hrow := hown7.lt
      have cA1 := hide (cA.out W7 (Bel.to BW b7) (.slice s1 m1 k1) (.slice s2 m2 k2) x (hl.below b7) hval (q : Int) (j : Int) w.heap.size (w.heap.size + 1) w2.heap.size w5.heap.size ea2 ec2 E2 (R0.keep b7) (Row.keep R1 b7) hW7 hown7 hwl h5 (by have := hlen2.out;have := hElen2.out;omega))
      rw [addW_ok hval hreh.out,tierP_valid hval hreh.out] at cA1
      replace hsn2 := hsn2.out
      obtain ⟨E3,hE3⟩ : ∃ E3,E3 = E2 ++ (if tierM g x r = -1 then [] else [(⟨(q : Int),(j : Int),tierM g x r⟩ : WinD)]) := ⟨_,rfl⟩
      rw [← hE3] at cA1 hsn2
      simp only [] at cA1
      replace hsn2 := hide hsn2
      replace hG7 := hide hG7
      replace hSm7 := hide hSm7
      replace hrow := hide hrow
      have hs7 : Hid (w6.heap.size ≤ W7.heap.size) := hSm7.out.2
      clear hE3 hl hval hown hWr hG2 hSm hrange hown7 hW7 R0 R1 hBb hB2 BW b7
      go_wp2_with (first | (refine wpList_load_row rfl 53 _ rfl _ rfl _ _ _ _ rL Tryz.underlying53 rfl (by kernel_rfl) ?_) | fail)
      refine cA1.out.mono ?_
      rintro e w8 ⟨rfl,ea3,ec3,hW8,hown8,hG8,hv8⟩
      have hG9 := hide (hG7.out.andThen hG8 (fun b hb => (hrow.out b hb).1))
      have hSm9 := hide (hSm7.out.step hG8 hwo2 hlo.out)
      have hlo9 : Hid (∀ b,(Value.slice ea3 E3.length ec3).ownBlock = some b → b < wo.heap.size ∨ w6.heap.size ≤ b) := by
       show ∀ b,(Value.slice ea3 E3.length ec3).ownBlock = some b → b < wo.heap.size ∨ w6.heap.size ≤ b
       intro b hb
       rcases hv8 with h | ⟨b',h,hb'⟩
       ·exact hlo.out b (h.symm.trans hb)
       ·rw [h] at hb;injection hb with hb;subst hb;exact .inr (Nat.le_trans hs7.out hb')
      have hW9 := hide hW8
      have hown9 := hide hown8
      clear hG8 hv8 hG7 hSm7 hlo hrow cA1 hs7 hW8 hown8 rL
      go_wp2
      go_roundg (M - (j + 1))
      case measure => have := hgj.out;have := hjl2.out;omega
      case rel => exact ⟨j + 1,E3,ea3,ec3,rfl,by have := hjl2.out;omega,by have h8 : M ≤ 1024 := hM2.out;go_num,hW9,hown9,hsn2,hG9,hSm9,hlo9⟩
     ·have hjM : j = T.length := by have := hMh.out;omega
      have hEx := hE2.out
      rw [hjM,List.take_length] at hEx
      have hEx2 : Hid (E2 = winsF g r (el.take (k + 1))) := by show E2 = _;rw [hsn1.out,hEx]
      have i2 : ¬ (j : Int) < (M : Int) := by omega
      have hWh := hide hWr
      have hownh := hide hown
      have hGh := hide hG2
      replace hjM := hide hjM
      replace hEx := hide hEx
      clear hWr hown hG2 hSm hlo R0 R1 hBb hB2 BW hE2
      go_wp2
      go_roundg (n - (k + 1))
      case measure => have := hgh.out;have := hlt2.out;omega
      case rel => exact ⟨k + 1,E2,ea2,ec2,rfl,by have := hlt2.out;omega,by go_num,hWh,hownh,hEx2,hok2,hGh⟩
   ·have cB1 := hide (cB.out wr.drew (Bel.to BW bd) (.slice sa sn sc) Bt (hlr.below bd) hc)
    have hEx := hP.out
    rw [winsE_at hke hok.out (by rw [hbet];exact hc),hbet] at hEx
    obtain ⟨c,hcc⟩ : ∃ c,c = (betP g Bt).2 := ⟨_,rfl⟩
    rw [← hcc] at cB1 hc hEx
    subst hEx
    have hcb : (c != 0) = true := by simpa using hc
    replace hc := hide hc
    replace hbet := hide hbet
    clear hcc hlr hown hWr hG2 hok hE
    go_upto_region 16 with (fail)
    refine wp_region_held_drew (S := fun X => Rng X [(w.heap.size,gameCells g (.slice aa ms.length ac) (.slice ta g.tiers.length tc))] ∧ X.rangeAt b1 (off1 + q * 14 + 2) [.slice sa sn sc,.bool Bt.sys,.int .i64 Bt.draws,.int .i64 Bt.addons]) (by kernel_rfl) (⟨Rng.drew (Rng.cons R0 (Rng.nil _)),hrange⟩) (fun hHeld => ?_)
    refine' wpAnyH_take (i := 0) (oi := _) (v := _) rfl (by kernel_rfl) (by kernel_rfl) (by kernel_rfl) (fun _ _ _ h => h) (yieldsIf_load_mid (by first | (go_simp;done) | rfl) 25 _ rfl (w.heap.size) (0) rfl (gameCells g (.slice aa ms.length ac) (.slice ta g.tiers.length tc)) _ (fun X h => Rng.at0 h.1) Tryz.underlying25 rfl (by kernel_rfl)) hHeld ?_
    try simp only [Act.put,zsA,zsB,zsC]
    refine' wpAnyH_take (i := 1) (oi := _) (v := .slice (some ⟨b1,off1,none⟩) N tkc) rfl (by kernel_rfl) (by kernel_rfl) (by kernel_rfl) (fun _ _ _ h => h) (Or.inl ⟨by first | (go_simp;done) | rfl,fun X _ => by go_simp⟩) hHeld ?_
    try simp only [Act.put,zsA,zsB,zsC]
    refine' wpAnyH_take (i := 2) (oi := _) (v := .int .i64 (q : Int)) rfl (by kernel_rfl) (by kernel_rfl) (by kernel_rfl) (fun _ _ _ h => h) (Or.inl ⟨by first | (go_simp;done) | rfl,fun X _ => by go_simp⟩) hHeld ?_
    try simp only [Act.put,zsA,zsB,zsC]
    refine' wpAnyH_take (i := 3) (oi := _) (v := .pointer (some ⟨b1,off1 + q * 14,none⟩)) rfl (by kernel_rfl) (by kernel_rfl) (by kernel_rfl) (fun _ _ _ h => h) (Or.inl ⟨by first | (go_simp;done) | rfl,fun X _ => by go_simp⟩) hHeld ?_
    try simp only [Act.put,zsA,zsB,zsC]
    refine' wpAnyH_take (i := 4) (oi := _) (v := .pointer (some ⟨b1,off1 + q * 14 + 2,none⟩)) rfl (by kernel_rfl) (by kernel_rfl) (by kernel_rfl) (fun _ _ _ h => h) (Or.inl ⟨by first | (go_simp;done) | rfl,fun X _ => by go_simp⟩) hHeld ?_
    try simp only [Act.put,zsA,zsB,zsC]
    refine' wpAnyH_take (i := 5) (oi := _) (v := .agg #[.slice sa sn sc,.bool Bt.sys,.int .i64 Bt.draws,.int .i64 Bt.addons]) rfl (by kernel_rfl) (by kernel_rfl) (by kernel_rfl) (fun _ _ _ h => h) (by refine (yieldsIf_load_mid ?_ 48 (.tmp 57) rfl b1 (off1 + q * 14 + 2) ?_ ([.slice sa sn sc,.bool Bt.sys,.int .i64 Bt.draws,.int .i64 Bt.addons]) _ (fun X h => h.2) Tryz.underlying48 rfl (by kernel_rfl)) <;> go_simp) hHeld ?_
    try simp only [Act.put,zsA,zsB,zsC]
    refine wpAnyH_ready (rs := [6]) (by kernel_rfl) (by simp) ?_
    refine AllReadyH.cons (o := _) rfl (fun K hK => ?_) AllReadyH.nil
    go_simp
    refine (cB1.out).mono ?_
    rintro e w6 ⟨u,rfl,hu,hb6⟩
    obtain ⟨ua,uc,rfl⟩ := hu.shape
    go_wp2_with fail
    refine hK.out _ _ (⟨Rng.keep hHeld.1 hb6,rangeAt_keep15 hHeld.2 hb6⟩) (fun hHeld => ?_)
    clear hK K
    try simp only [Act.put,zsA,zsB,zsC]
    refine' wpAnyH_take (i := 7) (oi := _) (v := .tuple #[.slice ua ([] : List LineD).length uc,.int .i64 c]) rfl (by kernel_rfl) (by kernel_rfl) (by kernel_rfl) (fun _ _ _ h => h) (Or.inl ⟨by first | (go_simp;done) | rfl,fun X _ => by go_simp⟩) hHeld ?_
    try simp only [Act.put,zsA,zsB,zsC]
    refine' wpAnyH_take (i := 8) (oi := _) (v := .slice ua ([] : List LineD).length uc) rfl (by kernel_rfl) (by kernel_rfl) (by kernel_rfl) (fun _ _ _ h => h) (Or.inl ⟨by first | (go_simp;done) | rfl,fun X _ => by go_simp⟩) hHeld ?_
    try simp only [Act.put,zsA,zsB,zsC]
    refine' wpAnyH_take (i := 9) (oi := _) (v := .int .i64 c) rfl (by kernel_rfl) (by kernel_rfl) (by kernel_rfl) (fun _ _ _ h => h) (Or.inl ⟨by first | (go_simp;done) | rfl,fun X _ => by go_simp⟩) hHeld ?_
    try simp only [Act.put,zsA,zsB,zsC]
    refine' wpAnyH_take (i := 10) (oi := _) (v := .slice ua ([] : List LineD).length uc) rfl (by kernel_rfl) (by kernel_rfl) (by kernel_rfl) (fun _ _ _ h => h) (Or.inl ⟨by first | (go_simp;done) | rfl,fun X _ => by go_simp⟩) hHeld ?_
    try simp only [Act.put,zsA,zsB,zsC]
    refine' wpAnyH_take (i := 11) (oi := _) (v := .int .i64 c) rfl (by kernel_rfl) (by kernel_rfl) (by kernel_rfl) (fun _ _ _ h => h) (Or.inl ⟨by first | (go_simp;done) | rfl,fun X _ => by go_simp⟩) hHeld ?_
    try simp only [Act.put,zsA,zsB,zsC]
    refine wpAnyH_done (by kernel_rfl) ?_ _
    go_simp
    clear hHeld
    have BE := Bel.to (Bel.to BW bd) hb6
    clear hu cB1 hb6 bd hrange e1 hBb hB2 R0
    go_wp2
    go_ret2
    exact ⟨.slice none 0 0,rfl,OwnS.nil _ _ _,BE⟩
  ·have hkn : k = el.length := by have := hnnh.out;omega
   have hEx := hE.out
   rw [hkn,List.take_length] at hEx
   have hok2 := hok.out
   rw [hkn,List.take_length] at hok2
   have hP2 := hP.out
   rw [winsE_full hok2,← hEx] at hP2
   subst hP2
   have cw : wr.cell? ⟨w2.heap.size,0,none⟩ = some (.slice ea E.length ec) := (hWr.cell? 0).trans rfl
   have hlow : OwnWin wr w.heap.size (.slice ea E.length ec) E := OwnS.lower hown (Nat.le_trans (Nat.le_of_lt hl0) hs25)
   have hlow := hide hlow
   have j2 : ¬ (k : Int) < (n : Int) := by omega
   replace hkn := hide hkn
   replace hEx := hide hEx
   clear hown hE hok hok2 hG2 R0 hWr hBb hB2
   go_wp2
   go_ret2
   exact ⟨_,rfl,hlow.out,BW⟩
theorem wins_any (g : GameD) (av tv v mv bv xv : Value) (ms : List AddonM) (tm : List TickM) (draw : Int) (r : ResD) (w : World) (hg : GameR w av tv ms g) (ht : TicketsR w v tm) (hr : ResR w mv bv xv r) (hs : r.serial.size ≤ 9223372036854775807) (hd : InI draw) (hn : tm.length ≤ 900) :
  Calls Tryz.prog 7 #[gameVal g av tv,v,.int .i64 draw,resVal mv bv xv r] w (WinsO (winsP g (tm.map (·.d)) draw r).1 (winsP g (tm.map (·.d)) draw r).2 w) := by
 unfold winsP
 by_cases he : gameE g = 0
 ·rw [if_neg (by simpa using he)]
  by_cases h1 : draw < 1
  ·rw [if_pos h1]
   exact wins_bad2 g av tv v mv bv xv ms tm draw r w hg ht hr hs hd hn he h1
  ·rw [if_neg h1,if_neg (by rw [List.length_map];omega)]
   by_cases h2 : resE g r = 0
   ·rw [if_neg (by simpa using h2)]
    exact wins_ok g av tv v mv bv xv ms tm draw r w hg ht hr hs hd hn he (by omega) h2
   ·rw [if_pos h2]
    exact wins_bad3 g av tv v mv bv xv ms tm draw r w hg ht hr hs hd hn he (by omega) h2
 ·rw [if_pos he]
  exact wins_bad1 g av tv v mv bv xv ms tm draw r w hg ht hr hs hd hn he
end Go.Proofs.YtelgllgaofjgjaaGreat
end

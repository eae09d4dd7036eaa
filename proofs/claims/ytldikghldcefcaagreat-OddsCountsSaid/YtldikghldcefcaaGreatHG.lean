/- Lemmas, merged out of smaller texts (wip/tools/mergedce.py). No condition. -/
import Derived.Deep.RegionHeld
import Derived.Deep.DeepCutAuto
import Derived.Deep.Cut
import Derived.Test.YtldikghldcefcaaGreatHF
import Derived.Test.YtldikghldcefcaaGreatHB
import Derived.Test.YtldikghldcefcaaGreatHCore
section
open Go.RowKit
set_option linter.unusedVariables false
set_option linter.unusedSimpArgs false
namespace Go.Proofs.YtldikghldcefcaaGreat
def GcdQ (w : World) (m n : Nat) (X : World) (p q : Value) : Prop := ∃ (b6 b7 : Nat) (ax : Option Addr) (nx cx : Nat) (ay : Option Addr) (ny cy : Nat),p = .pointer (some ⟨b6,0,none⟩) ∧ q = .pointer (some ⟨b7,0,none⟩) ∧ b6 ≠ b7 ∧ w.heap.size + 2 < b6 ∧ w.heap.size + 2 < b7 ∧ Row X b6 30 [.slice ax nx cx] ∧ Row X b7 30 [.slice ay ny cy] ∧ NV X (.slice ax nx cx) m ∧ NV X (.slice ay ny cy) n ∧ Below w.heap.size w X ∧ Row X (w.heap.size + 2) 30 [.slice none 0 0]
set_option maxHeartbeats 16000000 in
set_option maxRecDepth 100000 in
theorem gcd_any (va vb : Value) (m n : Nat) (w : World) (ha : NV w va m) (hb : NV w vb n) (hm : (limbs m).length ≤ 64) (hn : (limbs n).length ≤ 64) :
  Calls Tryz.prog 76 #[.agg #[va],.agg #[vb]] w (NatC (Nat.gcd m n) 0 w) := by
 obtain ⟨aa,la,ca,rfl⟩ := Rd.shape ha
 obtain ⟨ab,lb,cb,rfl⟩ := Rd.shape hb
 have rR0 : ∀ o o',Row (((w.alloc o).alloc o').alloc (.cells #[.slice none 0 0] 30)) (w.heap.size + 2) 30 [.slice none 0 0] := fun o o' => by
  have h := Row.new ((w.alloc o).alloc o') 30 [.slice none 0 0]
  simpa using h
 go_enter Tryz.func76,Tryz.ntmps76
 go_wp2_with fail
 refine (valid _ m _ (Rd.alloc (Rd.alloc (Rd.alloc ha _) _) _) hm).mono ?_
 rintro e w1 ⟨rfl,hb1⟩
 have hz1 : w.heap.size + 2 < w1.heap.size := by have := hb1.size;simp at this;omega
 have hbw1 := Bel.three _ _ _ hb1
 have c10 : w1.cell? ⟨w.heap.size,0,none⟩ = some (.slice aa la ca) := Bel.cellOf hb1 (by go_simp)
 have c11 : w1.cell? ⟨w.heap.size + 1,0,none⟩ = some (.slice ab lb cb) := Bel.cellOf hb1 (by go_simp)
 have rR1 : Row w1 (w.heap.size + 2) 30 [.slice none 0 0] := Row.keep (rR0 _ _) hb1
 clear hb1
 go_wp2_with fail
 refine (valid _ n _ (Rd.below hb hbw1) hn).mono ?_
 rintro e w2 ⟨rfl,hb2⟩
 have hz2 : w.heap.size + 2 < w2.heap.size := by have := hb2.size;omega
 have hbw2 := Bel.to hbw1 hb2
 have c20 := Bel.cellOf hb2 c10
 have c21 := Bel.cellOf hb2 c11
 have rR := Row.keep rR1 hb2
 clear hb2 c10 c11 hbw1 hz1 rR1 rR0
 go_upto_region 3 with (fail)
 go_cut [6,7] (fun p q X => GcdQ w m n X p q)
 case first =>
  refine wp_region_held_drew (S := fun X => X.cell? ⟨w.heap.size,0,none⟩ = some (.slice aa la ca) ∧ X.cell? ⟨w.heap.size + 1,0,none⟩ = some (.slice ab lb cb)) (by kernel_rfl) ⟨c20,c21⟩ (fun hHeld => ?_)
  refine' wpAnyH_take (i := 0) (oi := _) (v := .agg #[(.slice aa la ca)]) rfl (by kernel_rfl) (by kernel_rfl) (by kernel_rfl) (fun _ _ _ h => h) (Or.inl ⟨by first | (go_simp;done) | rfl,fun X hX => by have h0 := hX.1;go_simp⟩) hHeld ?_
  try simp only [Act.put,zsA,zsB,zsC]
  refine' wpAnyH_take (i := 2) (oi := _) (v := .agg #[(.slice ab lb cb)]) rfl (by kernel_rfl) (by kernel_rfl) (by kernel_rfl) (fun _ _ _ h => h) (Or.inl ⟨by first | (go_simp;done) | rfl,fun X hX => by have h0 := hX.2;go_simp⟩) hHeld ?_
  try simp only [Act.put,zsA,zsB,zsC]
  obtain ⟨W0,hW0⟩ : ∃ W0,W0 = w2.drew := ⟨_,rfl⟩
  have hb0 : Below w.heap.size w W0 := by rw [hW0];exact Below.drew hbw2
  have hz0 : w.heap.size + 2 < W0.heap.size := by rw [hW0];exact hz2
  have hc0 : Row W0 (w.heap.size + 2) 30 [.slice none 0 0] := by rw [hW0];exact rR
  rw [← hW0] at hHeld ⊢
  clear hW0
  have hzz : W0.heap.size ≤ W0.heap.size := Nat.le_refl _
  refine wpAnyH_ready (rs := [1,4,5]) (by kernel_rfl) (by simp) ?_
  refine AllReadyH.cons (o := _) rfl (fun K hK => ?_) (AllReadyH.cons (o := _) rfl (fun K hK => ?_) (AllReadyH.cons (o := _) rfl (fun K hK => ?_) AllReadyH.nil))
  ·skip
   go_simp
   refine (copied _ m W0 (ha.below hb0) hm).mono ?_
   rintro e v1 ⟨uv1,rfl,nuv1,hv1⟩
   obtain ⟨auv1,luv1,cuv1,rfl⟩ := Rd.shape nuv1
   have B2 := Bel.to hb0 hv1
   have z3 : W0.heap.size ≤ v1.heap.size := by have := hv1.size;have := hzz;omega
   have r4 := Row.keep hc0 hv1
   go_wp2_with fail
   refine hK.out _ _ (⟨Bel.cellOf hv1 hHeld.1,Bel.cellOf hv1 hHeld.2⟩) (fun hHeld => ?_)
   clear hK K
   try simp only [Act.put,zsA,zsB,zsC]
   refine wpAnyH_ready (rs := [3,4,5]) (by kernel_rfl) (by simp) ?_
   refine AllReadyH.cons (o := _) rfl (fun K hK => ?_) (AllReadyH.cons (o := _) rfl (fun K hK => ?_) (AllReadyH.cons (o := _) rfl (fun K hK => ?_) AllReadyH.nil))
   ·skip
    go_simp
    refine (copied _ n v1 (hb.below B2) hn).mono ?_
    rintro e v5 ⟨uv5,rfl,nuv5,hv5⟩
    obtain ⟨auv5,luv5,cuv5,rfl⟩ := Rd.shape nuv5
    have B6 := Bel.to B2 hv5
    have z7 : W0.heap.size ≤ v5.heap.size := by have := hv5.size;have := z3;omega
    have n8 := Rd.below nuv1 hv5
    have r9 := Row.keep r4 hv5
    go_wp2_with fail
    refine hK.out _ _ (⟨Bel.cellOf hv5 hHeld.1,Bel.cellOf hv5 hHeld.2⟩) (fun hHeld => ?_)
    clear hK K
    try simp only [Act.put,zsA,zsB,zsC]
    refine wpAnyH_ready (rs := [4,5]) (by kernel_rfl) (by simp) ?_
    refine AllReadyH.cons (o := _) rfl (fun K hK => ?_) (AllReadyH.cons (o := _) rfl (fun K hK => ?_) AllReadyH.nil)
    ·skip
     go_simp
     obtain ⟨Y10,hY10⟩ : ∃ Y,Y = v5.alloc (.cells #[.slice none 0 0] 30) := ⟨_,rfl⟩
     have rY10 : Row Y10 v5.heap.size 30 [.slice none 0 0] := by rw [hY10];exact Row.new _ _ _
     have bY10 : Below v5.heap.size v5 Y10 := by rw [hY10];exact Bel.al (Below.refl _ _) _
     rw [← hY10]
     have zY10 : v5.heap.size < Y10.heap.size := by rw [hY10];simp
     clear hY10
     have B11 := Bel.to B6 bY10
     have z12 : W0.heap.size ≤ Y10.heap.size := by have := bY10.size;have := z7;omega
     have n13 := Rd.below n8 bY10
     have n14 := Rd.below nuv5 bY10
     have r15 := Row.keep r9 bY10
     obtain ⟨g16,hg16⟩ : ∃ g,g = v5.heap.size := ⟨_,rfl⟩
     have eg16 : w.heap.size + 2 < g16 := by have := B6.size;have := hz0;have := z7;omega
     rw [← hg16] at rY10
     try rw [← hg16]
     refine hK.out _ _ (⟨Bel.cellOf bY10 hHeld.1,Bel.cellOf bY10 hHeld.2⟩) (fun hHeld => ?_)
     clear hK K
     try simp only [Act.put,zsA,zsB,zsC]
     try rw [← hg16]
     clear hg16
     refine wpAnyH_ready (rs := [5]) (by kernel_rfl) (by simp) ?_
     refine AllReadyH.cons (o := _) rfl (fun K hK => ?_) AllReadyH.nil
     go_simp
     obtain ⟨Y17,hY17⟩ : ∃ Y,Y = Y10.alloc (.cells #[.slice none 0 0] 30) := ⟨_,rfl⟩
     have rY17 : Row Y17 Y10.heap.size 30 [.slice none 0 0] := by rw [hY17];exact Row.new _ _ _
     have bY17 : Below Y10.heap.size Y10 Y17 := by rw [hY17];exact Bel.al (Below.refl _ _) _
     rw [← hY17]
     have zY17 : Y10.heap.size < Y17.heap.size := by rw [hY17];simp
     clear hY17
     have B18 := Bel.to B11 bY17
     have z19 : W0.heap.size ≤ Y17.heap.size := by have := bY17.size;have := z12;omega
     have n20 := Rd.below n13 bY17
     have n21 := Rd.below n14 bY17
     have r22 := Row.keep rY10 bY17
     have r23 := Row.keep r15 bY17
     obtain ⟨g24,hg24⟩ : ∃ g,g = Y10.heap.size := ⟨_,rfl⟩
     have eg24 : w.heap.size + 2 < g24 := by have := B11.size;have := hz0;have := z12;omega
     have neg24 : g16 ≠ g24 := by have := Row.lt rY10;omega
     rw [← hg24] at rY17
     try rw [← hg24]
     refine hK.out _ _ (⟨Bel.cellOf bY17 hHeld.1,Bel.cellOf bY17 hHeld.2⟩) (fun hHeld => ?_)
     clear hK K
     try simp only [Act.put,zsA,zsB,zsC]
     try rw [← hg24]
     clear hg24
     have q4 := (r22).cell? 0
     have q4f := (r22).frozen 0
     have q5 := (rY17).cell? 0
     have q5f := (rY17).frozen 0
     simp only [List.getElem?_cons_zero] at q4 q5
     refine wpAnyH_ready (rs := [6]) (by kernel_rfl) (by simp) ?_
     refine AllReadyH.cons (o := _) rfl (fun K hK => ?_) AllReadyH.nil
     go_simp
     refine hK.out _ _ ⟨cell_far hHeld.1 (p := ⟨g16,0,none⟩) (by simp only [];have := eg16;omega) _,cell_far hHeld.2 (p := ⟨g16,0,none⟩) (by simp only [];have := eg16;omega) _⟩ (fun hHeld => ?_)
     clear hK K
     try simp only [Act.put,zsA,zsB,zsC]
     have q5 := cell_far q5 (p := ⟨g16,0,none⟩) (fun e => neg24 e.symm) (.slice auv1 luv1 cuv1)
     have q5f := (Row.far rY17 (p := ⟨g16,0,none⟩) (fun e => neg24 e.symm) (.slice auv1 luv1 cuv1)).frozen 0
     refine wpAnyH_ready (rs := [7]) (by kernel_rfl) (by simp) ?_
     refine AllReadyH.cons (o := _) rfl (fun K hK => ?_) AllReadyH.nil
     go_simp
     refine hK.out _ _ ⟨cell_far hHeld.1 (p := ⟨g24,0,none⟩) (by simp only [];have := eg24;omega) _,cell_far hHeld.2 (p := ⟨g24,0,none⟩) (by simp only [];have := eg24;omega) _⟩ (fun hHeld => ?_)
     clear hK K
     try simp only [Act.put,zsA,zsB,zsC]
     refine wpAnyH_done (by kernel_rfl) ?_ _
     go_simp
     go_wp2_with fail
     go_meet
     exact ⟨g16,g24,_,_,_,_,_,_,rfl,rfl,neg24,eg16,eg24,(Row.set r22 0 _).far neg24 _,Row.set (Row.far rY17 (fun e => neg24 e.symm) _) 0 _,(Rd.setNe n20 (r22.cell? 0) (fun _ h => by cases h) _).setNe (cell_far (rY17.cell? 0) (fun e => neg24 e.symm) _) (fun _ h => by cases h) _,(Rd.setNe n21 (r22.cell? 0) (fun _ h => by cases h) _).setNe (cell_far (rY17.cell? 0) (fun e => neg24 e.symm) _) (fun _ h => by cases h) _,Bel.st (Bel.st B18 (p := ⟨g16,0,none⟩) (by simp only [];have := eg16;omega) _) (p := ⟨g24,0,none⟩) (by simp only [];have := eg24;omega) _,Row.far (p := ⟨g24,0,none⟩) (Row.far (p := ⟨g16,0,none⟩) r23 (by simp only [];have := eg16;omega) _) (by simp only [];have := eg24;omega) _⟩
    ·skip
     go_simp
     obtain ⟨Y25,hY25⟩ : ∃ Y,Y = v5.alloc (.cells #[.slice none 0 0] 30) := ⟨_,rfl⟩
     have rY25 : Row Y25 v5.heap.size 30 [.slice none 0 0] := by rw [hY25];exact Row.new _ _ _
     have bY25 : Below v5.heap.size v5 Y25 := by rw [hY25];exact Bel.al (Below.refl _ _) _
     rw [← hY25]
     have zY25 : v5.heap.size < Y25.heap.size := by rw [hY25];simp
     clear hY25
     have B26 := Bel.to B6 bY25
     have z27 : W0.heap.size ≤ Y25.heap.size := by have := bY25.size;have := z7;omega
     have n28 := Rd.below n8 bY25
     have n29 := Rd.below nuv5 bY25
     have r30 := Row.keep r9 bY25
     obtain ⟨g31,hg31⟩ : ∃ g,g = v5.heap.size := ⟨_,rfl⟩
     have eg31 : w.heap.size + 2 < g31 := by have := B6.size;have := hz0;have := z7;omega
     rw [← hg31] at rY25
     try rw [← hg31]
     refine hK.out _ _ (⟨Bel.cellOf bY25 hHeld.1,Bel.cellOf bY25 hHeld.2⟩) (fun hHeld => ?_)
     clear hK K
     try simp only [Act.put,zsA,zsB,zsC]
     try rw [← hg31]
     clear hg31
     refine wpAnyH_ready (rs := [4]) (by kernel_rfl) (by simp) ?_
     refine AllReadyH.cons (o := _) rfl (fun K hK => ?_) AllReadyH.nil
     go_simp
     obtain ⟨Y32,hY32⟩ : ∃ Y,Y = Y25.alloc (.cells #[.slice none 0 0] 30) := ⟨_,rfl⟩
     have rY32 : Row Y32 Y25.heap.size 30 [.slice none 0 0] := by rw [hY32];exact Row.new _ _ _
     have bY32 : Below Y25.heap.size Y25 Y32 := by rw [hY32];exact Bel.al (Below.refl _ _) _
     rw [← hY32]
     have zY32 : Y25.heap.size < Y32.heap.size := by rw [hY32];simp
     clear hY32
     have B33 := Bel.to B26 bY32
     have z34 : W0.heap.size ≤ Y32.heap.size := by have := bY32.size;have := z27;omega
     have n35 := Rd.below n28 bY32
     have n36 := Rd.below n29 bY32
     have r37 := Row.keep rY25 bY32
     have r38 := Row.keep r30 bY32
     obtain ⟨g39,hg39⟩ : ∃ g,g = Y25.heap.size := ⟨_,rfl⟩
     have eg39 : w.heap.size + 2 < g39 := by have := B26.size;have := hz0;have := z27;omega
     have neg39 : g31 ≠ g39 := by have := Row.lt rY25;omega
     rw [← hg39] at rY32
     try rw [← hg39]
     refine hK.out _ _ (⟨Bel.cellOf bY32 hHeld.1,Bel.cellOf bY32 hHeld.2⟩) (fun hHeld => ?_)
     clear hK K
     try simp only [Act.put,zsA,zsB,zsC]
     try rw [← hg39]
     clear hg39
     have q4 := (rY32).cell? 0
     have q4f := (rY32).frozen 0
     have q5 := (r37).cell? 0
     have q5f := (r37).frozen 0
     simp only [List.getElem?_cons_zero] at q4 q5
     refine wpAnyH_ready (rs := [6]) (by kernel_rfl) (by simp) ?_
     refine AllReadyH.cons (o := _) rfl (fun K hK => ?_) AllReadyH.nil
     go_simp
     refine hK.out _ _ ⟨cell_far hHeld.1 (p := ⟨g39,0,none⟩) (by simp only [];have := eg39;omega) _,cell_far hHeld.2 (p := ⟨g39,0,none⟩) (by simp only [];have := eg39;omega) _⟩ (fun hHeld => ?_)
     clear hK K
     try simp only [Act.put,zsA,zsB,zsC]
     have q5 := cell_far q5 (p := ⟨g39,0,none⟩) (fun e => (Ne.symm neg39) e.symm) (.slice auv1 luv1 cuv1)
     have q5f := (Row.far r37 (p := ⟨g39,0,none⟩) (fun e => (Ne.symm neg39) e.symm) (.slice auv1 luv1 cuv1)).frozen 0
     refine wpAnyH_ready (rs := [7]) (by kernel_rfl) (by simp) ?_
     refine AllReadyH.cons (o := _) rfl (fun K hK => ?_) AllReadyH.nil
     go_simp
     refine hK.out _ _ ⟨cell_far hHeld.1 (p := ⟨g31,0,none⟩) (by simp only [];have := eg31;omega) _,cell_far hHeld.2 (p := ⟨g31,0,none⟩) (by simp only [];have := eg31;omega) _⟩ (fun hHeld => ?_)
     clear hK K
     try simp only [Act.put,zsA,zsB,zsC]
     refine wpAnyH_done (by kernel_rfl) ?_ _
     go_simp
     go_wp2_with fail
     go_meet
     exact ⟨g39,g31,_,_,_,_,_,_,rfl,rfl,(Ne.symm neg39),eg39,eg31,(Row.set rY32 0 _).far (Ne.symm neg39) _,Row.set (Row.far r37 (fun e => (Ne.symm neg39) e.symm) _) 0 _,(Rd.setNe n35 (rY32.cell? 0) (fun _ h => by cases h) _).setNe (cell_far (r37.cell? 0) (fun e => (Ne.symm neg39) e.symm) _) (fun _ h => by cases h) _,(Rd.setNe n36 (rY32.cell? 0) (fun _ h => by cases h) _).setNe (cell_far (r37.cell? 0) (fun e => (Ne.symm neg39) e.symm) _) (fun _ h => by cases h) _,Bel.st (Bel.st B33 (p := ⟨g39,0,none⟩) (by simp only [];have := eg39;omega) _) (p := ⟨g31,0,none⟩) (by simp only [];have := eg31;omega) _,Row.far (p := ⟨g31,0,none⟩) (Row.far (p := ⟨g39,0,none⟩) r38 (by simp only [];have := eg39;omega) _) (by simp only [];have := eg31;omega) _⟩
   ·skip
    go_simp
    obtain ⟨Y40,hY40⟩ : ∃ Y,Y = v1.alloc (.cells #[.slice none 0 0] 30) := ⟨_,rfl⟩
    have rY40 : Row Y40 v1.heap.size 30 [.slice none 0 0] := by rw [hY40];exact Row.new _ _ _
    have bY40 : Below v1.heap.size v1 Y40 := by rw [hY40];exact Bel.al (Below.refl _ _) _
    rw [← hY40]
    have zY40 : v1.heap.size < Y40.heap.size := by rw [hY40];simp
    clear hY40
    have B41 := Bel.to B2 bY40
    have z42 : W0.heap.size ≤ Y40.heap.size := by have := bY40.size;have := z3;omega
    have n43 := Rd.below nuv1 bY40
    have r44 := Row.keep r4 bY40
    obtain ⟨g45,hg45⟩ : ∃ g,g = v1.heap.size := ⟨_,rfl⟩
    have eg45 : w.heap.size + 2 < g45 := by have := B2.size;have := hz0;have := z3;omega
    rw [← hg45] at rY40
    try rw [← hg45]
    refine hK.out _ _ (⟨Bel.cellOf bY40 hHeld.1,Bel.cellOf bY40 hHeld.2⟩) (fun hHeld => ?_)
    clear hK K
    try simp only [Act.put,zsA,zsB,zsC]
    try rw [← hg45]
    clear hg45
    refine wpAnyH_ready (rs := [3,5]) (by kernel_rfl) (by simp) ?_
    refine AllReadyH.cons (o := _) rfl (fun K hK => ?_) (AllReadyH.cons (o := _) rfl (fun K hK => ?_) AllReadyH.nil)
    ·skip
     go_simp
     refine (copied _ n Y40 (hb.below B41) hn).mono ?_
     rintro e v46 ⟨uv46,rfl,nuv46,hv46⟩
     obtain ⟨auv46,luv46,cuv46,rfl⟩ := Rd.shape nuv46
     have B47 := Bel.to B41 hv46
     have z48 : W0.heap.size ≤ v46.heap.size := by have := hv46.size;have := z42;omega
     have n49 := Rd.below n43 hv46
     have r50 := Row.keep rY40 hv46
     have r51 := Row.keep r44 hv46
     go_wp2_with fail
     refine hK.out _ _ (⟨Bel.cellOf hv46 hHeld.1,Bel.cellOf hv46 hHeld.2⟩) (fun hHeld => ?_)
     clear hK K
     try simp only [Act.put,zsA,zsB,zsC]
     refine wpAnyH_ready (rs := [5]) (by kernel_rfl) (by simp) ?_
     refine AllReadyH.cons (o := _) rfl (fun K hK => ?_) AllReadyH.nil
     go_simp
     obtain ⟨Y52,hY52⟩ : ∃ Y,Y = v46.alloc (.cells #[.slice none 0 0] 30) := ⟨_,rfl⟩
     have rY52 : Row Y52 v46.heap.size 30 [.slice none 0 0] := by rw [hY52];exact Row.new _ _ _
     have bY52 : Below v46.heap.size v46 Y52 := by rw [hY52];exact Bel.al (Below.refl _ _) _
     rw [← hY52]
     have zY52 : v46.heap.size < Y52.heap.size := by rw [hY52];simp
     clear hY52
     have B53 := Bel.to B47 bY52
     have z54 : W0.heap.size ≤ Y52.heap.size := by have := bY52.size;have := z48;omega
     have n55 := Rd.below n49 bY52
     have n56 := Rd.below nuv46 bY52
     have r57 := Row.keep r50 bY52
     have r58 := Row.keep r51 bY52
     obtain ⟨g59,hg59⟩ : ∃ g,g = v46.heap.size := ⟨_,rfl⟩
     have eg59 : w.heap.size + 2 < g59 := by have := B47.size;have := hz0;have := z48;omega
     have neg59 : g45 ≠ g59 := by have := Row.lt r50;omega
     rw [← hg59] at rY52
     try rw [← hg59]
     refine hK.out _ _ (⟨Bel.cellOf bY52 hHeld.1,Bel.cellOf bY52 hHeld.2⟩) (fun hHeld => ?_)
     clear hK K
     try simp only [Act.put,zsA,zsB,zsC]
     try rw [← hg59]
     clear hg59
     have q4 := (r57).cell? 0
     have q4f := (r57).frozen 0
     have q5 := (rY52).cell? 0
     have q5f := (rY52).frozen 0
     simp only [List.getElem?_cons_zero] at q4 q5
     refine wpAnyH_ready (rs := [6]) (by kernel_rfl) (by simp) ?_
     refine AllReadyH.cons (o := _) rfl (fun K hK => ?_) AllReadyH.nil
     go_simp
     refine hK.out _ _ ⟨cell_far hHeld.1 (p := ⟨g45,0,none⟩) (by simp only [];have := eg45;omega) _,cell_far hHeld.2 (p := ⟨g45,0,none⟩) (by simp only [];have := eg45;omega) _⟩ (fun hHeld => ?_)
     clear hK K
     try simp only [Act.put,zsA,zsB,zsC]
     have q5 := cell_far q5 (p := ⟨g45,0,none⟩) (fun e => neg59 e.symm) (.slice auv1 luv1 cuv1)
     have q5f := (Row.far rY52 (p := ⟨g45,0,none⟩) (fun e => neg59 e.symm) (.slice auv1 luv1 cuv1)).frozen 0
     refine wpAnyH_ready (rs := [7]) (by kernel_rfl) (by simp) ?_
     refine AllReadyH.cons (o := _) rfl (fun K hK => ?_) AllReadyH.nil
     go_simp
     refine hK.out _ _ ⟨cell_far hHeld.1 (p := ⟨g59,0,none⟩) (by simp only [];have := eg59;omega) _,cell_far hHeld.2 (p := ⟨g59,0,none⟩) (by simp only [];have := eg59;omega) _⟩ (fun hHeld => ?_)
     clear hK K
     try simp only [Act.put,zsA,zsB,zsC]
     refine wpAnyH_done (by kernel_rfl) ?_ _
     go_simp
     go_wp2_with fail
     go_meet
     exact ⟨g45,g59,_,_,_,_,_,_,rfl,rfl,neg59,eg45,eg59,(Row.set r57 0 _).far neg59 _,Row.set (Row.far rY52 (fun e => neg59 e.symm) _) 0 _,(Rd.setNe n55 (r57.cell? 0) (fun _ h => by cases h) _).setNe (cell_far (rY52.cell? 0) (fun e => neg59 e.symm) _) (fun _ h => by cases h) _,(Rd.setNe n56 (r57.cell? 0) (fun _ h => by cases h) _).setNe (cell_far (rY52.cell? 0) (fun e => neg59 e.symm) _) (fun _ h => by cases h) _,Bel.st (Bel.st B53 (p := ⟨g45,0,none⟩) (by simp only [];have := eg45;omega) _) (p := ⟨g59,0,none⟩) (by simp only [];have := eg59;omega) _,Row.far (p := ⟨g59,0,none⟩) (Row.far (p := ⟨g45,0,none⟩) r58 (by simp only [];have := eg45;omega) _) (by simp only [];have := eg59;omega) _⟩
    ·skip
     go_simp
     obtain ⟨Y60,hY60⟩ : ∃ Y,Y = Y40.alloc (.cells #[.slice none 0 0] 30) := ⟨_,rfl⟩
     have rY60 : Row Y60 Y40.heap.size 30 [.slice none 0 0] := by rw [hY60];exact Row.new _ _ _
     have bY60 : Below Y40.heap.size Y40 Y60 := by rw [hY60];exact Bel.al (Below.refl _ _) _
     rw [← hY60]
     have zY60 : Y40.heap.size < Y60.heap.size := by rw [hY60];simp
     clear hY60
     have B61 := Bel.to B41 bY60
     have z62 : W0.heap.size ≤ Y60.heap.size := by have := bY60.size;have := z42;omega
     have n63 := Rd.below n43 bY60
     have r64 := Row.keep rY40 bY60
     have r65 := Row.keep r44 bY60
     obtain ⟨g66,hg66⟩ : ∃ g,g = Y40.heap.size := ⟨_,rfl⟩
     have eg66 : w.heap.size + 2 < g66 := by have := B41.size;have := hz0;have := z42;omega
     have neg66 : g45 ≠ g66 := by have := Row.lt rY40;omega
     rw [← hg66] at rY60
     try rw [← hg66]
     refine hK.out _ _ (⟨Bel.cellOf bY60 hHeld.1,Bel.cellOf bY60 hHeld.2⟩) (fun hHeld => ?_)
     clear hK K
     try simp only [Act.put,zsA,zsB,zsC]
     try rw [← hg66]
     clear hg66
     refine wpAnyH_ready (rs := [3]) (by kernel_rfl) (by simp) ?_
     refine AllReadyH.cons (o := _) rfl (fun K hK => ?_) AllReadyH.nil
     go_simp
     refine (copied _ n Y60 (hb.below B61) hn).mono ?_
     rintro e v67 ⟨uv67,rfl,nuv67,hv67⟩
     obtain ⟨auv67,luv67,cuv67,rfl⟩ := Rd.shape nuv67
     have B68 := Bel.to B61 hv67
     have z69 : W0.heap.size ≤ v67.heap.size := by have := hv67.size;have := z62;omega
     have n70 := Rd.below n63 hv67
     have r71 := Row.keep r64 hv67
     have r72 := Row.keep rY60 hv67
     have r73 := Row.keep r65 hv67
     go_wp2_with fail
     refine hK.out _ _ (⟨Bel.cellOf hv67 hHeld.1,Bel.cellOf hv67 hHeld.2⟩) (fun hHeld => ?_)
     clear hK K
     try simp only [Act.put,zsA,zsB,zsC]
     have q4 := (r71).cell? 0
     have q4f := (r71).frozen 0
     have q5 := (r72).cell? 0
     have q5f := (r72).frozen 0
     simp only [List.getElem?_cons_zero] at q4 q5
     refine wpAnyH_ready (rs := [6]) (by kernel_rfl) (by simp) ?_
     refine AllReadyH.cons (o := _) rfl (fun K hK => ?_) AllReadyH.nil
     go_simp
     refine hK.out _ _ ⟨cell_far hHeld.1 (p := ⟨g45,0,none⟩) (by simp only [];have := eg45;omega) _,cell_far hHeld.2 (p := ⟨g45,0,none⟩) (by simp only [];have := eg45;omega) _⟩ (fun hHeld => ?_)
     clear hK K
     try simp only [Act.put,zsA,zsB,zsC]
     have q5 := cell_far q5 (p := ⟨g45,0,none⟩) (fun e => neg66 e.symm) (.slice auv1 luv1 cuv1)
     have q5f := (Row.far r72 (p := ⟨g45,0,none⟩) (fun e => neg66 e.symm) (.slice auv1 luv1 cuv1)).frozen 0
     refine wpAnyH_ready (rs := [7]) (by kernel_rfl) (by simp) ?_
     refine AllReadyH.cons (o := _) rfl (fun K hK => ?_) AllReadyH.nil
     go_simp
     refine hK.out _ _ ⟨cell_far hHeld.1 (p := ⟨g66,0,none⟩) (by simp only [];have := eg66;omega) _,cell_far hHeld.2 (p := ⟨g66,0,none⟩) (by simp only [];have := eg66;omega) _⟩ (fun hHeld => ?_)
     clear hK K
     try simp only [Act.put,zsA,zsB,zsC]
     refine wpAnyH_done (by kernel_rfl) ?_ _
     go_simp
     go_wp2_with fail
     go_meet
     exact ⟨g45,g66,_,_,_,_,_,_,rfl,rfl,neg66,eg45,eg66,(Row.set r71 0 _).far neg66 _,Row.set (Row.far r72 (fun e => neg66 e.symm) _) 0 _,(Rd.setNe n70 (r71.cell? 0) (fun _ h => by cases h) _).setNe (cell_far (r72.cell? 0) (fun e => neg66 e.symm) _) (fun _ h => by cases h) _,(Rd.setNe nuv67 (r71.cell? 0) (fun _ h => by cases h) _).setNe (cell_far (r72.cell? 0) (fun e => neg66 e.symm) _) (fun _ h => by cases h) _,Bel.st (Bel.st B68 (p := ⟨g45,0,none⟩) (by simp only [];have := eg45;omega) _) (p := ⟨g66,0,none⟩) (by simp only [];have := eg66;omega) _,Row.far (p := ⟨g66,0,none⟩) (Row.far (p := ⟨g45,0,none⟩) r73 (by simp only [];have := eg45;omega) _) (by simp only [];have := eg66;omega) _⟩
   ·skip
    go_simp
    obtain ⟨Y74,hY74⟩ : ∃ Y,Y = v1.alloc (.cells #[.slice none 0 0] 30) := ⟨_,rfl⟩
    have rY74 : Row Y74 v1.heap.size 30 [.slice none 0 0] := by rw [hY74];exact Row.new _ _ _
    have bY74 : Below v1.heap.size v1 Y74 := by rw [hY74];exact Bel.al (Below.refl _ _) _
    rw [← hY74]
    have zY74 : v1.heap.size < Y74.heap.size := by rw [hY74];simp
    clear hY74
    have B75 := Bel.to B2 bY74
    have z76 : W0.heap.size ≤ Y74.heap.size := by have := bY74.size;have := z3;omega
    have n77 := Rd.below nuv1 bY74
    have r78 := Row.keep r4 bY74
    obtain ⟨g79,hg79⟩ : ∃ g,g = v1.heap.size := ⟨_,rfl⟩
    have eg79 : w.heap.size + 2 < g79 := by have := B2.size;have := hz0;have := z3;omega
    rw [← hg79] at rY74
    try rw [← hg79]
    refine hK.out _ _ (⟨Bel.cellOf bY74 hHeld.1,Bel.cellOf bY74 hHeld.2⟩) (fun hHeld => ?_)
    clear hK K
    try simp only [Act.put,zsA,zsB,zsC]
    try rw [← hg79]
    clear hg79
    refine wpAnyH_ready (rs := [3,4]) (by kernel_rfl) (by simp) ?_
    refine AllReadyH.cons (o := _) rfl (fun K hK => ?_) (AllReadyH.cons (o := _) rfl (fun K hK => ?_) AllReadyH.nil)
    ·skip
     go_simp
     refine (copied _ n Y74 (hb.below B75) hn).mono ?_
     rintro e v80 ⟨uv80,rfl,nuv80,hv80⟩
     obtain ⟨auv80,luv80,cuv80,rfl⟩ := Rd.shape nuv80
     have B81 := Bel.to B75 hv80
     have z82 : W0.heap.size ≤ v80.heap.size := by have := hv80.size;have := z76;omega
     have n83 := Rd.below n77 hv80
     have r84 := Row.keep rY74 hv80
     have r85 := Row.keep r78 hv80
     go_wp2_with fail
     refine hK.out _ _ (⟨Bel.cellOf hv80 hHeld.1,Bel.cellOf hv80 hHeld.2⟩) (fun hHeld => ?_)
     clear hK K
     try simp only [Act.put,zsA,zsB,zsC]
     refine wpAnyH_ready (rs := [4]) (by kernel_rfl) (by simp) ?_
     refine AllReadyH.cons (o := _) rfl (fun K hK => ?_) AllReadyH.nil
     go_simp
     obtain ⟨Y86,hY86⟩ : ∃ Y,Y = v80.alloc (.cells #[.slice none 0 0] 30) := ⟨_,rfl⟩
     have rY86 : Row Y86 v80.heap.size 30 [.slice none 0 0] := by rw [hY86];exact Row.new _ _ _
     have bY86 : Below v80.heap.size v80 Y86 := by rw [hY86];exact Bel.al (Below.refl _ _) _
     rw [← hY86]
     have zY86 : v80.heap.size < Y86.heap.size := by rw [hY86];simp
     clear hY86
     have B87 := Bel.to B81 bY86
     have z88 : W0.heap.size ≤ Y86.heap.size := by have := bY86.size;have := z82;omega
     have n89 := Rd.below n83 bY86
     have n90 := Rd.below nuv80 bY86
     have r91 := Row.keep r84 bY86
     have r92 := Row.keep r85 bY86
     obtain ⟨g93,hg93⟩ : ∃ g,g = v80.heap.size := ⟨_,rfl⟩
     have eg93 : w.heap.size + 2 < g93 := by have := B81.size;have := hz0;have := z82;omega
     have neg93 : g79 ≠ g93 := by have := Row.lt r84;omega
     rw [← hg93] at rY86
     try rw [← hg93]
     refine hK.out _ _ (⟨Bel.cellOf bY86 hHeld.1,Bel.cellOf bY86 hHeld.2⟩) (fun hHeld => ?_)
     clear hK K
     try simp only [Act.put,zsA,zsB,zsC]
     try rw [← hg93]
     clear hg93
     have q4 := (rY86).cell? 0
     have q4f := (rY86).frozen 0
     have q5 := (r91).cell? 0
     have q5f := (r91).frozen 0
     simp only [List.getElem?_cons_zero] at q4 q5
     refine wpAnyH_ready (rs := [6]) (by kernel_rfl) (by simp) ?_
     refine AllReadyH.cons (o := _) rfl (fun K hK => ?_) AllReadyH.nil
     go_simp
     refine hK.out _ _ ⟨cell_far hHeld.1 (p := ⟨g93,0,none⟩) (by simp only [];have := eg93;omega) _,cell_far hHeld.2 (p := ⟨g93,0,none⟩) (by simp only [];have := eg93;omega) _⟩ (fun hHeld => ?_)
     clear hK K
     try simp only [Act.put,zsA,zsB,zsC]
     have q5 := cell_far q5 (p := ⟨g93,0,none⟩) (fun e => (Ne.symm neg93) e.symm) (.slice auv1 luv1 cuv1)
     have q5f := (Row.far r91 (p := ⟨g93,0,none⟩) (fun e => (Ne.symm neg93) e.symm) (.slice auv1 luv1 cuv1)).frozen 0
     refine wpAnyH_ready (rs := [7]) (by kernel_rfl) (by simp) ?_
     refine AllReadyH.cons (o := _) rfl (fun K hK => ?_) AllReadyH.nil
     go_simp
     refine hK.out _ _ ⟨cell_far hHeld.1 (p := ⟨g79,0,none⟩) (by simp only [];have := eg79;omega) _,cell_far hHeld.2 (p := ⟨g79,0,none⟩) (by simp only [];have := eg79;omega) _⟩ (fun hHeld => ?_)
     clear hK K
     try simp only [Act.put,zsA,zsB,zsC]
     refine wpAnyH_done (by kernel_rfl) ?_ _
     go_simp
     go_wp2_with fail
     go_meet
     exact ⟨g93,g79,_,_,_,_,_,_,rfl,rfl,(Ne.symm neg93),eg93,eg79,(Row.set rY86 0 _).far (Ne.symm neg93) _,Row.set (Row.far r91 (fun e => (Ne.symm neg93) e.symm) _) 0 _,(Rd.setNe n89 (rY86.cell? 0) (fun _ h => by cases h) _).setNe (cell_far (r91.cell? 0) (fun e => (Ne.symm neg93) e.symm) _) (fun _ h => by cases h) _,(Rd.setNe n90 (rY86.cell? 0) (fun _ h => by cases h) _).setNe (cell_far (r91.cell? 0) (fun e => (Ne.symm neg93) e.symm) _) (fun _ h => by cases h) _,Bel.st (Bel.st B87 (p := ⟨g93,0,none⟩) (by simp only [];have := eg93;omega) _) (p := ⟨g79,0,none⟩) (by simp only [];have := eg79;omega) _,Row.far (p := ⟨g79,0,none⟩) (Row.far (p := ⟨g93,0,none⟩) r92 (by simp only [];have := eg93;omega) _) (by simp only [];have := eg79;omega) _⟩
    ·skip
     go_simp
     obtain ⟨Y94,hY94⟩ : ∃ Y,Y = Y74.alloc (.cells #[.slice none 0 0] 30) := ⟨_,rfl⟩
     have rY94 : Row Y94 Y74.heap.size 30 [.slice none 0 0] := by rw [hY94];exact Row.new _ _ _
     have bY94 : Below Y74.heap.size Y74 Y94 := by rw [hY94];exact Bel.al (Below.refl _ _) _
     rw [← hY94]
     have zY94 : Y74.heap.size < Y94.heap.size := by rw [hY94];simp
     clear hY94
     have B95 := Bel.to B75 bY94
     have z96 : W0.heap.size ≤ Y94.heap.size := by have := bY94.size;have := z76;omega
     have n97 := Rd.below n77 bY94
     have r98 := Row.keep rY74 bY94
     have r99 := Row.keep r78 bY94
     obtain ⟨g100,hg100⟩ : ∃ g,g = Y74.heap.size := ⟨_,rfl⟩
     have eg100 : w.heap.size + 2 < g100 := by have := B75.size;have := hz0;have := z76;omega
     have neg100 : g79 ≠ g100 := by have := Row.lt rY74;omega
     rw [← hg100] at rY94
     try rw [← hg100]
     refine hK.out _ _ (⟨Bel.cellOf bY94 hHeld.1,Bel.cellOf bY94 hHeld.2⟩) (fun hHeld => ?_)
     clear hK K
     try simp only [Act.put,zsA,zsB,zsC]
     try rw [← hg100]
     clear hg100
     refine wpAnyH_ready (rs := [3]) (by kernel_rfl) (by simp) ?_
     refine AllReadyH.cons (o := _) rfl (fun K hK => ?_) AllReadyH.nil
     go_simp
     refine (copied _ n Y94 (hb.below B95) hn).mono ?_
     rintro e v101 ⟨uv101,rfl,nuv101,hv101⟩
     obtain ⟨auv101,luv101,cuv101,rfl⟩ := Rd.shape nuv101
     have B102 := Bel.to B95 hv101
     have z103 : W0.heap.size ≤ v101.heap.size := by have := hv101.size;have := z96;omega
     have n104 := Rd.below n97 hv101
     have r105 := Row.keep rY94 hv101
     have r106 := Row.keep r98 hv101
     have r107 := Row.keep r99 hv101
     go_wp2_with fail
     refine hK.out _ _ (⟨Bel.cellOf hv101 hHeld.1,Bel.cellOf hv101 hHeld.2⟩) (fun hHeld => ?_)
     clear hK K
     try simp only [Act.put,zsA,zsB,zsC]
     have q4 := (r105).cell? 0
     have q4f := (r105).frozen 0
     have q5 := (r106).cell? 0
     have q5f := (r106).frozen 0
     simp only [List.getElem?_cons_zero] at q4 q5
     refine wpAnyH_ready (rs := [6]) (by kernel_rfl) (by simp) ?_
     refine AllReadyH.cons (o := _) rfl (fun K hK => ?_) AllReadyH.nil
     go_simp
     refine hK.out _ _ ⟨cell_far hHeld.1 (p := ⟨g100,0,none⟩) (by simp only [];have := eg100;omega) _,cell_far hHeld.2 (p := ⟨g100,0,none⟩) (by simp only [];have := eg100;omega) _⟩ (fun hHeld => ?_)
     clear hK K
     try simp only [Act.put,zsA,zsB,zsC]
     have q5 := cell_far q5 (p := ⟨g100,0,none⟩) (fun e => (Ne.symm neg100) e.symm) (.slice auv1 luv1 cuv1)
     have q5f := (Row.far r106 (p := ⟨g100,0,none⟩) (fun e => (Ne.symm neg100) e.symm) (.slice auv1 luv1 cuv1)).frozen 0
     refine wpAnyH_ready (rs := [7]) (by kernel_rfl) (by simp) ?_
     refine AllReadyH.cons (o := _) rfl (fun K hK => ?_) AllReadyH.nil
     go_simp
     refine hK.out _ _ ⟨cell_far hHeld.1 (p := ⟨g79,0,none⟩) (by simp only [];have := eg79;omega) _,cell_far hHeld.2 (p := ⟨g79,0,none⟩) (by simp only [];have := eg79;omega) _⟩ (fun hHeld => ?_)
     clear hK K
     try simp only [Act.put,zsA,zsB,zsC]
     refine wpAnyH_done (by kernel_rfl) ?_ _
     go_simp
     go_wp2_with fail
     go_meet
     exact ⟨g100,g79,_,_,_,_,_,_,rfl,rfl,(Ne.symm neg100),eg100,eg79,(Row.set r105 0 _).far (Ne.symm neg100) _,Row.set (Row.far r106 (fun e => (Ne.symm neg100) e.symm) _) 0 _,(Rd.setNe n104 (r105.cell? 0) (fun _ h => by cases h) _).setNe (cell_far (r106.cell? 0) (fun e => (Ne.symm neg100) e.symm) _) (fun _ h => by cases h) _,(Rd.setNe nuv101 (r105.cell? 0) (fun _ h => by cases h) _).setNe (cell_far (r106.cell? 0) (fun e => (Ne.symm neg100) e.symm) _) (fun _ h => by cases h) _,Bel.st (Bel.st B102 (p := ⟨g100,0,none⟩) (by simp only [];have := eg100;omega) _) (p := ⟨g79,0,none⟩) (by simp only [];have := eg79;omega) _,Row.far (p := ⟨g79,0,none⟩) (Row.far (p := ⟨g100,0,none⟩) r107 (by simp only [];have := eg100;omega) _) (by simp only [];have := eg79;omega) _⟩
  ·skip
   go_simp
   obtain ⟨Y108,hY108⟩ : ∃ Y,Y = W0.alloc (.cells #[.slice none 0 0] 30) := ⟨_,rfl⟩
   have rY108 : Row Y108 W0.heap.size 30 [.slice none 0 0] := by rw [hY108];exact Row.new _ _ _
   have bY108 : Below W0.heap.size W0 Y108 := by rw [hY108];exact Bel.al (Below.refl _ _) _
   rw [← hY108]
   have zY108 : W0.heap.size < Y108.heap.size := by rw [hY108];simp
   clear hY108
   have B109 := Bel.to hb0 bY108
   have z110 : W0.heap.size ≤ Y108.heap.size := by have := bY108.size;have := hzz;omega
   have r111 := Row.keep hc0 bY108
   obtain ⟨g112,hg112⟩ : ∃ g,g = W0.heap.size := ⟨_,rfl⟩
   have eg112 : w.heap.size + 2 < g112 := by have := hb0.size;have := hz0;have := hzz;omega
   rw [← hg112] at rY108
   try rw [← hg112]
   refine hK.out _ _ (⟨Bel.cellOf bY108 hHeld.1,Bel.cellOf bY108 hHeld.2⟩) (fun hHeld => ?_)
   clear hK K
   try simp only [Act.put,zsA,zsB,zsC]
   try rw [← hg112]
   clear hg112
   refine wpAnyH_ready (rs := [1,5]) (by kernel_rfl) (by simp) ?_
   refine AllReadyH.cons (o := _) rfl (fun K hK => ?_) (AllReadyH.cons (o := _) rfl (fun K hK => ?_) AllReadyH.nil)
   ·skip
    go_simp
    refine (copied _ m Y108 (ha.below B109) hm).mono ?_
    rintro e v113 ⟨uv113,rfl,nuv113,hv113⟩
    obtain ⟨auv113,luv113,cuv113,rfl⟩ := Rd.shape nuv113
    have B114 := Bel.to B109 hv113
    have z115 : W0.heap.size ≤ v113.heap.size := by have := hv113.size;have := z110;omega
    have r116 := Row.keep rY108 hv113
    have r117 := Row.keep r111 hv113
    go_wp2_with fail
    refine hK.out _ _ (⟨Bel.cellOf hv113 hHeld.1,Bel.cellOf hv113 hHeld.2⟩) (fun hHeld => ?_)
    clear hK K
    try simp only [Act.put,zsA,zsB,zsC]
    refine wpAnyH_ready (rs := [3,5]) (by kernel_rfl) (by simp) ?_
    refine AllReadyH.cons (o := _) rfl (fun K hK => ?_) (AllReadyH.cons (o := _) rfl (fun K hK => ?_) AllReadyH.nil)
    ·skip
     go_simp
     refine (copied _ n v113 (hb.below B114) hn).mono ?_
     rintro e v118 ⟨uv118,rfl,nuv118,hv118⟩
     obtain ⟨auv118,luv118,cuv118,rfl⟩ := Rd.shape nuv118
     have B119 := Bel.to B114 hv118
     have z120 : W0.heap.size ≤ v118.heap.size := by have := hv118.size;have := z115;omega
     have n121 := Rd.below nuv113 hv118
     have r122 := Row.keep r116 hv118
     have r123 := Row.keep r117 hv118
     go_wp2_with fail
     refine hK.out _ _ (⟨Bel.cellOf hv118 hHeld.1,Bel.cellOf hv118 hHeld.2⟩) (fun hHeld => ?_)
     clear hK K
     try simp only [Act.put,zsA,zsB,zsC]
     refine wpAnyH_ready (rs := [5]) (by kernel_rfl) (by simp) ?_
     refine AllReadyH.cons (o := _) rfl (fun K hK => ?_) AllReadyH.nil
     go_simp
     obtain ⟨Y124,hY124⟩ : ∃ Y,Y = v118.alloc (.cells #[.slice none 0 0] 30) := ⟨_,rfl⟩
     have rY124 : Row Y124 v118.heap.size 30 [.slice none 0 0] := by rw [hY124];exact Row.new _ _ _
     have bY124 : Below v118.heap.size v118 Y124 := by rw [hY124];exact Bel.al (Below.refl _ _) _
     rw [← hY124]
     have zY124 : v118.heap.size < Y124.heap.size := by rw [hY124];simp
     clear hY124
     have B125 := Bel.to B119 bY124
     have z126 : W0.heap.size ≤ Y124.heap.size := by have := bY124.size;have := z120;omega
     have n127 := Rd.below n121 bY124
     have n128 := Rd.below nuv118 bY124
     have r129 := Row.keep r122 bY124
     have r130 := Row.keep r123 bY124
     obtain ⟨g131,hg131⟩ : ∃ g,g = v118.heap.size := ⟨_,rfl⟩
     have eg131 : w.heap.size + 2 < g131 := by have := B119.size;have := hz0;have := z120;omega
     have neg131 : g112 ≠ g131 := by have := Row.lt r122;omega
     rw [← hg131] at rY124
     try rw [← hg131]
     refine hK.out _ _ (⟨Bel.cellOf bY124 hHeld.1,Bel.cellOf bY124 hHeld.2⟩) (fun hHeld => ?_)
     clear hK K
     try simp only [Act.put,zsA,zsB,zsC]
     try rw [← hg131]
     clear hg131
     have q4 := (r129).cell? 0
     have q4f := (r129).frozen 0
     have q5 := (rY124).cell? 0
     have q5f := (rY124).frozen 0
     simp only [List.getElem?_cons_zero] at q4 q5
     refine wpAnyH_ready (rs := [6]) (by kernel_rfl) (by simp) ?_
     refine AllReadyH.cons (o := _) rfl (fun K hK => ?_) AllReadyH.nil
     go_simp
     refine hK.out _ _ ⟨cell_far hHeld.1 (p := ⟨g112,0,none⟩) (by simp only [];have := eg112;omega) _,cell_far hHeld.2 (p := ⟨g112,0,none⟩) (by simp only [];have := eg112;omega) _⟩ (fun hHeld => ?_)
     clear hK K
     try simp only [Act.put,zsA,zsB,zsC]
     have q5 := cell_far q5 (p := ⟨g112,0,none⟩) (fun e => neg131 e.symm) (.slice auv113 luv113 cuv113)
     have q5f := (Row.far rY124 (p := ⟨g112,0,none⟩) (fun e => neg131 e.symm) (.slice auv113 luv113 cuv113)).frozen 0
     refine wpAnyH_ready (rs := [7]) (by kernel_rfl) (by simp) ?_
     refine AllReadyH.cons (o := _) rfl (fun K hK => ?_) AllReadyH.nil
     go_simp
     refine hK.out _ _ ⟨cell_far hHeld.1 (p := ⟨g131,0,none⟩) (by simp only [];have := eg131;omega) _,cell_far hHeld.2 (p := ⟨g131,0,none⟩) (by simp only [];have := eg131;omega) _⟩ (fun hHeld => ?_)
     clear hK K
     try simp only [Act.put,zsA,zsB,zsC]
     refine wpAnyH_done (by kernel_rfl) ?_ _
     go_simp
     go_wp2_with fail
     go_meet
     exact ⟨g112,g131,_,_,_,_,_,_,rfl,rfl,neg131,eg112,eg131,(Row.set r129 0 _).far neg131 _,Row.set (Row.far rY124 (fun e => neg131 e.symm) _) 0 _,(Rd.setNe n127 (r129.cell? 0) (fun _ h => by cases h) _).setNe (cell_far (rY124.cell? 0) (fun e => neg131 e.symm) _) (fun _ h => by cases h) _,(Rd.setNe n128 (r129.cell? 0) (fun _ h => by cases h) _).setNe (cell_far (rY124.cell? 0) (fun e => neg131 e.symm) _) (fun _ h => by cases h) _,Bel.st (Bel.st B125 (p := ⟨g112,0,none⟩) (by simp only [];have := eg112;omega) _) (p := ⟨g131,0,none⟩) (by simp only [];have := eg131;omega) _,Row.far (p := ⟨g131,0,none⟩) (Row.far (p := ⟨g112,0,none⟩) r130 (by simp only [];have := eg112;omega) _) (by simp only [];have := eg131;omega) _⟩
    ·skip
     go_simp
     obtain ⟨Y132,hY132⟩ : ∃ Y,Y = v113.alloc (.cells #[.slice none 0 0] 30) := ⟨_,rfl⟩
     have rY132 : Row Y132 v113.heap.size 30 [.slice none 0 0] := by rw [hY132];exact Row.new _ _ _
     have bY132 : Below v113.heap.size v113 Y132 := by rw [hY132];exact Bel.al (Below.refl _ _) _
     rw [← hY132]
     have zY132 : v113.heap.size < Y132.heap.size := by rw [hY132];simp
     clear hY132
     have B133 := Bel.to B114 bY132
     have z134 : W0.heap.size ≤ Y132.heap.size := by have := bY132.size;have := z115;omega
     have n135 := Rd.below nuv113 bY132
     have r136 := Row.keep r116 bY132
     have r137 := Row.keep r117 bY132
     obtain ⟨g138,hg138⟩ : ∃ g,g = v113.heap.size := ⟨_,rfl⟩
     have eg138 : w.heap.size + 2 < g138 := by have := B114.size;have := hz0;have := z115;omega
     have neg138 : g112 ≠ g138 := by have := Row.lt r116;omega
     rw [← hg138] at rY132
     try rw [← hg138]
     refine hK.out _ _ (⟨Bel.cellOf bY132 hHeld.1,Bel.cellOf bY132 hHeld.2⟩) (fun hHeld => ?_)
     clear hK K
     try simp only [Act.put,zsA,zsB,zsC]
     try rw [← hg138]
     clear hg138
     refine wpAnyH_ready (rs := [3]) (by kernel_rfl) (by simp) ?_
     refine AllReadyH.cons (o := _) rfl (fun K hK => ?_) AllReadyH.nil
     go_simp
     refine (copied _ n Y132 (hb.below B133) hn).mono ?_
     rintro e v139 ⟨uv139,rfl,nuv139,hv139⟩
     obtain ⟨auv139,luv139,cuv139,rfl⟩ := Rd.shape nuv139
     have B140 := Bel.to B133 hv139
     have z141 : W0.heap.size ≤ v139.heap.size := by have := hv139.size;have := z134;omega
     have n142 := Rd.below n135 hv139
     have r143 := Row.keep r136 hv139
     have r144 := Row.keep rY132 hv139
     have r145 := Row.keep r137 hv139
     go_wp2_with fail
     refine hK.out _ _ (⟨Bel.cellOf hv139 hHeld.1,Bel.cellOf hv139 hHeld.2⟩) (fun hHeld => ?_)
     clear hK K
     try simp only [Act.put,zsA,zsB,zsC]
     have q4 := (r143).cell? 0
     have q4f := (r143).frozen 0
     have q5 := (r144).cell? 0
     have q5f := (r144).frozen 0
     simp only [List.getElem?_cons_zero] at q4 q5
     refine wpAnyH_ready (rs := [6]) (by kernel_rfl) (by simp) ?_
     refine AllReadyH.cons (o := _) rfl (fun K hK => ?_) AllReadyH.nil
     go_simp
     refine hK.out _ _ ⟨cell_far hHeld.1 (p := ⟨g112,0,none⟩) (by simp only [];have := eg112;omega) _,cell_far hHeld.2 (p := ⟨g112,0,none⟩) (by simp only [];have := eg112;omega) _⟩ (fun hHeld => ?_)
     clear hK K
     try simp only [Act.put,zsA,zsB,zsC]
     have q5 := cell_far q5 (p := ⟨g112,0,none⟩) (fun e => neg138 e.symm) (.slice auv113 luv113 cuv113)
     have q5f := (Row.far r144 (p := ⟨g112,0,none⟩) (fun e => neg138 e.symm) (.slice auv113 luv113 cuv113)).frozen 0
     refine wpAnyH_ready (rs := [7]) (by kernel_rfl) (by simp) ?_
     refine AllReadyH.cons (o := _) rfl (fun K hK => ?_) AllReadyH.nil
     go_simp
     refine hK.out _ _ ⟨cell_far hHeld.1 (p := ⟨g138,0,none⟩) (by simp only [];have := eg138;omega) _,cell_far hHeld.2 (p := ⟨g138,0,none⟩) (by simp only [];have := eg138;omega) _⟩ (fun hHeld => ?_)
     clear hK K
     try simp only [Act.put,zsA,zsB,zsC]
     refine wpAnyH_done (by kernel_rfl) ?_ _
     go_simp
     go_wp2_with fail
     go_meet
     exact ⟨g112,g138,_,_,_,_,_,_,rfl,rfl,neg138,eg112,eg138,(Row.set r143 0 _).far neg138 _,Row.set (Row.far r144 (fun e => neg138 e.symm) _) 0 _,(Rd.setNe n142 (r143.cell? 0) (fun _ h => by cases h) _).setNe (cell_far (r144.cell? 0) (fun e => neg138 e.symm) _) (fun _ h => by cases h) _,(Rd.setNe nuv139 (r143.cell? 0) (fun _ h => by cases h) _).setNe (cell_far (r144.cell? 0) (fun e => neg138 e.symm) _) (fun _ h => by cases h) _,Bel.st (Bel.st B140 (p := ⟨g112,0,none⟩) (by simp only [];have := eg112;omega) _) (p := ⟨g138,0,none⟩) (by simp only [];have := eg138;omega) _,Row.far (p := ⟨g138,0,none⟩) (Row.far (p := ⟨g112,0,none⟩) r145 (by simp only [];have := eg112;omega) _) (by simp only [];have := eg138;omega) _⟩
   ·skip
    go_simp
    obtain ⟨Y146,hY146⟩ : ∃ Y,Y = Y108.alloc (.cells #[.slice none 0 0] 30) := ⟨_,rfl⟩
    have rY146 : Row Y146 Y108.heap.size 30 [.slice none 0 0] := by rw [hY146];exact Row.new _ _ _
    have bY146 : Below Y108.heap.size Y108 Y146 := by rw [hY146];exact Bel.al (Below.refl _ _) _
    rw [← hY146]
    have zY146 : Y108.heap.size < Y146.heap.size := by rw [hY146];simp
    clear hY146
    have B147 := Bel.to B109 bY146
    have z148 : W0.heap.size ≤ Y146.heap.size := by have := bY146.size;have := z110;omega
    have r149 := Row.keep rY108 bY146
    have r150 := Row.keep r111 bY146
    obtain ⟨g151,hg151⟩ : ∃ g,g = Y108.heap.size := ⟨_,rfl⟩
    have eg151 : w.heap.size + 2 < g151 := by have := B109.size;have := hz0;have := z110;omega
    have neg151 : g112 ≠ g151 := by have := Row.lt rY108;omega
    rw [← hg151] at rY146
    try rw [← hg151]
    refine hK.out _ _ (⟨Bel.cellOf bY146 hHeld.1,Bel.cellOf bY146 hHeld.2⟩) (fun hHeld => ?_)
    clear hK K
    try simp only [Act.put,zsA,zsB,zsC]
    try rw [← hg151]
    clear hg151
    refine wpAnyH_ready (rs := [1]) (by kernel_rfl) (by simp) ?_
    refine AllReadyH.cons (o := _) rfl (fun K hK => ?_) AllReadyH.nil
    go_simp
    refine (copied _ m Y146 (ha.below B147) hm).mono ?_
    rintro e v152 ⟨uv152,rfl,nuv152,hv152⟩
    obtain ⟨auv152,luv152,cuv152,rfl⟩ := Rd.shape nuv152
    have B153 := Bel.to B147 hv152
    have z154 : W0.heap.size ≤ v152.heap.size := by have := hv152.size;have := z148;omega
    have r155 := Row.keep r149 hv152
    have r156 := Row.keep rY146 hv152
    have r157 := Row.keep r150 hv152
    go_wp2_with fail
    refine hK.out _ _ (⟨Bel.cellOf hv152 hHeld.1,Bel.cellOf hv152 hHeld.2⟩) (fun hHeld => ?_)
    clear hK K
    try simp only [Act.put,zsA,zsB,zsC]
    refine wpAnyH_ready (rs := [3]) (by kernel_rfl) (by simp) ?_
    refine AllReadyH.cons (o := _) rfl (fun K hK => ?_) AllReadyH.nil
    go_simp
    refine (copied _ n v152 (hb.below B153) hn).mono ?_
    rintro e v158 ⟨uv158,rfl,nuv158,hv158⟩
    obtain ⟨auv158,luv158,cuv158,rfl⟩ := Rd.shape nuv158
    have B159 := Bel.to B153 hv158
    have z160 : W0.heap.size ≤ v158.heap.size := by have := hv158.size;have := z154;omega
    have n161 := Rd.below nuv152 hv158
    have r162 := Row.keep r155 hv158
    have r163 := Row.keep r156 hv158
    have r164 := Row.keep r157 hv158
    go_wp2_with fail
    refine hK.out _ _ (⟨Bel.cellOf hv158 hHeld.1,Bel.cellOf hv158 hHeld.2⟩) (fun hHeld => ?_)
    clear hK K
    try simp only [Act.put,zsA,zsB,zsC]
    have q4 := (r162).cell? 0
    have q4f := (r162).frozen 0
    have q5 := (r163).cell? 0
    have q5f := (r163).frozen 0
    simp only [List.getElem?_cons_zero] at q4 q5
    refine wpAnyH_ready (rs := [6]) (by kernel_rfl) (by simp) ?_
    refine AllReadyH.cons (o := _) rfl (fun K hK => ?_) AllReadyH.nil
    go_simp
    refine hK.out _ _ ⟨cell_far hHeld.1 (p := ⟨g112,0,none⟩) (by simp only [];have := eg112;omega) _,cell_far hHeld.2 (p := ⟨g112,0,none⟩) (by simp only [];have := eg112;omega) _⟩ (fun hHeld => ?_)
    clear hK K
    try simp only [Act.put,zsA,zsB,zsC]
    have q5 := cell_far q5 (p := ⟨g112,0,none⟩) (fun e => neg151 e.symm) (.slice auv152 luv152 cuv152)
    have q5f := (Row.far r163 (p := ⟨g112,0,none⟩) (fun e => neg151 e.symm) (.slice auv152 luv152 cuv152)).frozen 0
    refine wpAnyH_ready (rs := [7]) (by kernel_rfl) (by simp) ?_
    refine AllReadyH.cons (o := _) rfl (fun K hK => ?_) AllReadyH.nil
    go_simp
    refine hK.out _ _ ⟨cell_far hHeld.1 (p := ⟨g151,0,none⟩) (by simp only [];have := eg151;omega) _,cell_far hHeld.2 (p := ⟨g151,0,none⟩) (by simp only [];have := eg151;omega) _⟩ (fun hHeld => ?_)
    clear hK K
    try simp only [Act.put,zsA,zsB,zsC]
    refine wpAnyH_done (by kernel_rfl) ?_ _
    go_simp
    go_wp2_with fail
    go_meet
    exact ⟨g112,g151,_,_,_,_,_,_,rfl,rfl,neg151,eg112,eg151,(Row.set r162 0 _).far neg151 _,Row.set (Row.far r163 (fun e => neg151 e.symm) _) 0 _,(Rd.setNe n161 (r162.cell? 0) (fun _ h => by cases h) _).setNe (cell_far (r163.cell? 0) (fun e => neg151 e.symm) _) (fun _ h => by cases h) _,(Rd.setNe nuv158 (r162.cell? 0) (fun _ h => by cases h) _).setNe (cell_far (r163.cell? 0) (fun e => neg151 e.symm) _) (fun _ h => by cases h) _,Bel.st (Bel.st B159 (p := ⟨g112,0,none⟩) (by simp only [];have := eg112;omega) _) (p := ⟨g151,0,none⟩) (by simp only [];have := eg151;omega) _,Row.far (p := ⟨g151,0,none⟩) (Row.far (p := ⟨g112,0,none⟩) r164 (by simp only [];have := eg112;omega) _) (by simp only [];have := eg151;omega) _⟩
  ·skip
   go_simp
   obtain ⟨Y165,hY165⟩ : ∃ Y,Y = W0.alloc (.cells #[.slice none 0 0] 30) := ⟨_,rfl⟩
   have rY165 : Row Y165 W0.heap.size 30 [.slice none 0 0] := by rw [hY165];exact Row.new _ _ _
   have bY165 : Below W0.heap.size W0 Y165 := by rw [hY165];exact Bel.al (Below.refl _ _) _
   rw [← hY165]
   have zY165 : W0.heap.size < Y165.heap.size := by rw [hY165];simp
   clear hY165
   have B166 := Bel.to hb0 bY165
   have z167 : W0.heap.size ≤ Y165.heap.size := by have := bY165.size;have := hzz;omega
   have r168 := Row.keep hc0 bY165
   obtain ⟨g169,hg169⟩ : ∃ g,g = W0.heap.size := ⟨_,rfl⟩
   have eg169 : w.heap.size + 2 < g169 := by have := hb0.size;have := hz0;have := hzz;omega
   rw [← hg169] at rY165
   try rw [← hg169]
   refine hK.out _ _ (⟨Bel.cellOf bY165 hHeld.1,Bel.cellOf bY165 hHeld.2⟩) (fun hHeld => ?_)
   clear hK K
   try simp only [Act.put,zsA,zsB,zsC]
   try rw [← hg169]
   clear hg169
   refine wpAnyH_ready (rs := [1,4]) (by kernel_rfl) (by simp) ?_
   refine AllReadyH.cons (o := _) rfl (fun K hK => ?_) (AllReadyH.cons (o := _) rfl (fun K hK => ?_) AllReadyH.nil)
   ·skip
    go_simp
    refine (copied _ m Y165 (ha.below B166) hm).mono ?_
    rintro e v170 ⟨uv170,rfl,nuv170,hv170⟩
    obtain ⟨auv170,luv170,cuv170,rfl⟩ := Rd.shape nuv170
    have B171 := Bel.to B166 hv170
    have z172 : W0.heap.size ≤ v170.heap.size := by have := hv170.size;have := z167;omega
    have r173 := Row.keep rY165 hv170
    have r174 := Row.keep r168 hv170
    go_wp2_with fail
    refine hK.out _ _ (⟨Bel.cellOf hv170 hHeld.1,Bel.cellOf hv170 hHeld.2⟩) (fun hHeld => ?_)
    clear hK K
    try simp only [Act.put,zsA,zsB,zsC]
    refine wpAnyH_ready (rs := [3,4]) (by kernel_rfl) (by simp) ?_
    refine AllReadyH.cons (o := _) rfl (fun K hK => ?_) (AllReadyH.cons (o := _) rfl (fun K hK => ?_) AllReadyH.nil)
    ·skip
     go_simp
     refine (copied _ n v170 (hb.below B171) hn).mono ?_
     rintro e v175 ⟨uv175,rfl,nuv175,hv175⟩
     obtain ⟨auv175,luv175,cuv175,rfl⟩ := Rd.shape nuv175
     have B176 := Bel.to B171 hv175
     have z177 : W0.heap.size ≤ v175.heap.size := by have := hv175.size;have := z172;omega
     have n178 := Rd.below nuv170 hv175
     have r179 := Row.keep r173 hv175
     have r180 := Row.keep r174 hv175
     go_wp2_with fail
     refine hK.out _ _ (⟨Bel.cellOf hv175 hHeld.1,Bel.cellOf hv175 hHeld.2⟩) (fun hHeld => ?_)
     clear hK K
     try simp only [Act.put,zsA,zsB,zsC]
     refine wpAnyH_ready (rs := [4]) (by kernel_rfl) (by simp) ?_
     refine AllReadyH.cons (o := _) rfl (fun K hK => ?_) AllReadyH.nil
     go_simp
     obtain ⟨Y181,hY181⟩ : ∃ Y,Y = v175.alloc (.cells #[.slice none 0 0] 30) := ⟨_,rfl⟩
     have rY181 : Row Y181 v175.heap.size 30 [.slice none 0 0] := by rw [hY181];exact Row.new _ _ _
     have bY181 : Below v175.heap.size v175 Y181 := by rw [hY181];exact Bel.al (Below.refl _ _) _
     rw [← hY181]
     have zY181 : v175.heap.size < Y181.heap.size := by rw [hY181];simp
     clear hY181
     have B182 := Bel.to B176 bY181
     have z183 : W0.heap.size ≤ Y181.heap.size := by have := bY181.size;have := z177;omega
     have n184 := Rd.below n178 bY181
     have n185 := Rd.below nuv175 bY181
     have r186 := Row.keep r179 bY181
     have r187 := Row.keep r180 bY181
     obtain ⟨g188,hg188⟩ : ∃ g,g = v175.heap.size := ⟨_,rfl⟩
     have eg188 : w.heap.size + 2 < g188 := by have := B176.size;have := hz0;have := z177;omega
     have neg188 : g169 ≠ g188 := by have := Row.lt r179;omega
     rw [← hg188] at rY181
     try rw [← hg188]
     refine hK.out _ _ (⟨Bel.cellOf bY181 hHeld.1,Bel.cellOf bY181 hHeld.2⟩) (fun hHeld => ?_)
     clear hK K
     try simp only [Act.put,zsA,zsB,zsC]
     try rw [← hg188]
     clear hg188
     have q4 := (rY181).cell? 0
     have q4f := (rY181).frozen 0
     have q5 := (r186).cell? 0
     have q5f := (r186).frozen 0
     simp only [List.getElem?_cons_zero] at q4 q5
     refine wpAnyH_ready (rs := [6]) (by kernel_rfl) (by simp) ?_
     refine AllReadyH.cons (o := _) rfl (fun K hK => ?_) AllReadyH.nil
     go_simp
     refine hK.out _ _ ⟨cell_far hHeld.1 (p := ⟨g188,0,none⟩) (by simp only [];have := eg188;omega) _,cell_far hHeld.2 (p := ⟨g188,0,none⟩) (by simp only [];have := eg188;omega) _⟩ (fun hHeld => ?_)
     clear hK K
     try simp only [Act.put,zsA,zsB,zsC]
     have q5 := cell_far q5 (p := ⟨g188,0,none⟩) (fun e => (Ne.symm neg188) e.symm) (.slice auv170 luv170 cuv170)
     have q5f := (Row.far r186 (p := ⟨g188,0,none⟩) (fun e => (Ne.symm neg188) e.symm) (.slice auv170 luv170 cuv170)).frozen 0
     refine wpAnyH_ready (rs := [7]) (by kernel_rfl) (by simp) ?_
     refine AllReadyH.cons (o := _) rfl (fun K hK => ?_) AllReadyH.nil
     go_simp
     refine hK.out _ _ ⟨cell_far hHeld.1 (p := ⟨g169,0,none⟩) (by simp only [];have := eg169;omega) _,cell_far hHeld.2 (p := ⟨g169,0,none⟩) (by simp only [];have := eg169;omega) _⟩ (fun hHeld => ?_)
     clear hK K
     try simp only [Act.put,zsA,zsB,zsC]
     refine wpAnyH_done (by kernel_rfl) ?_ _
     go_simp
     go_wp2_with fail
     go_meet
     exact ⟨g188,g169,_,_,_,_,_,_,rfl,rfl,(Ne.symm neg188),eg188,eg169,(Row.set rY181 0 _).far (Ne.symm neg188) _,Row.set (Row.far r186 (fun e => (Ne.symm neg188) e.symm) _) 0 _,(Rd.setNe n184 (rY181.cell? 0) (fun _ h => by cases h) _).setNe (cell_far (r186.cell? 0) (fun e => (Ne.symm neg188) e.symm) _) (fun _ h => by cases h) _,(Rd.setNe n185 (rY181.cell? 0) (fun _ h => by cases h) _).setNe (cell_far (r186.cell? 0) (fun e => (Ne.symm neg188) e.symm) _) (fun _ h => by cases h) _,Bel.st (Bel.st B182 (p := ⟨g188,0,none⟩) (by simp only [];have := eg188;omega) _) (p := ⟨g169,0,none⟩) (by simp only [];have := eg169;omega) _,Row.far (p := ⟨g169,0,none⟩) (Row.far (p := ⟨g188,0,none⟩) r187 (by simp only [];have := eg188;omega) _) (by simp only [];have := eg169;omega) _⟩
    ·skip
     go_simp
     obtain ⟨Y189,hY189⟩ : ∃ Y,Y = v170.alloc (.cells #[.slice none 0 0] 30) := ⟨_,rfl⟩
     have rY189 : Row Y189 v170.heap.size 30 [.slice none 0 0] := by rw [hY189];exact Row.new _ _ _
     have bY189 : Below v170.heap.size v170 Y189 := by rw [hY189];exact Bel.al (Below.refl _ _) _
     rw [← hY189]
     have zY189 : v170.heap.size < Y189.heap.size := by rw [hY189];simp
     clear hY189
     have B190 := Bel.to B171 bY189
     have z191 : W0.heap.size ≤ Y189.heap.size := by have := bY189.size;have := z172;omega
     have n192 := Rd.below nuv170 bY189
     have r193 := Row.keep r173 bY189
     have r194 := Row.keep r174 bY189
     obtain ⟨g195,hg195⟩ : ∃ g,g = v170.heap.size := ⟨_,rfl⟩
     have eg195 : w.heap.size + 2 < g195 := by have := B171.size;have := hz0;have := z172;omega
     have neg195 : g169 ≠ g195 := by have := Row.lt r173;omega
     rw [← hg195] at rY189
     try rw [← hg195]
     refine hK.out _ _ (⟨Bel.cellOf bY189 hHeld.1,Bel.cellOf bY189 hHeld.2⟩) (fun hHeld => ?_)
     clear hK K
     try simp only [Act.put,zsA,zsB,zsC]
     try rw [← hg195]
     clear hg195
     refine wpAnyH_ready (rs := [3]) (by kernel_rfl) (by simp) ?_
     refine AllReadyH.cons (o := _) rfl (fun K hK => ?_) AllReadyH.nil
     go_simp
     refine (copied _ n Y189 (hb.below B190) hn).mono ?_
     rintro e v196 ⟨uv196,rfl,nuv196,hv196⟩
     obtain ⟨auv196,luv196,cuv196,rfl⟩ := Rd.shape nuv196
     have B197 := Bel.to B190 hv196
     have z198 : W0.heap.size ≤ v196.heap.size := by have := hv196.size;have := z191;omega
     have n199 := Rd.below n192 hv196
     have r200 := Row.keep rY189 hv196
     have r201 := Row.keep r193 hv196
     have r202 := Row.keep r194 hv196
     go_wp2_with fail
     refine hK.out _ _ (⟨Bel.cellOf hv196 hHeld.1,Bel.cellOf hv196 hHeld.2⟩) (fun hHeld => ?_)
     clear hK K
     try simp only [Act.put,zsA,zsB,zsC]
     have q4 := (r200).cell? 0
     have q4f := (r200).frozen 0
     have q5 := (r201).cell? 0
     have q5f := (r201).frozen 0
     simp only [List.getElem?_cons_zero] at q4 q5
     refine wpAnyH_ready (rs := [6]) (by kernel_rfl) (by simp) ?_
     refine AllReadyH.cons (o := _) rfl (fun K hK => ?_) AllReadyH.nil
     go_simp
     refine hK.out _ _ ⟨cell_far hHeld.1 (p := ⟨g195,0,none⟩) (by simp only [];have := eg195;omega) _,cell_far hHeld.2 (p := ⟨g195,0,none⟩) (by simp only [];have := eg195;omega) _⟩ (fun hHeld => ?_)
     clear hK K
     try simp only [Act.put,zsA,zsB,zsC]
     have q5 := cell_far q5 (p := ⟨g195,0,none⟩) (fun e => (Ne.symm neg195) e.symm) (.slice auv170 luv170 cuv170)
     have q5f := (Row.far r201 (p := ⟨g195,0,none⟩) (fun e => (Ne.symm neg195) e.symm) (.slice auv170 luv170 cuv170)).frozen 0
     refine wpAnyH_ready (rs := [7]) (by kernel_rfl) (by simp) ?_
     refine AllReadyH.cons (o := _) rfl (fun K hK => ?_) AllReadyH.nil
     go_simp
     refine hK.out _ _ ⟨cell_far hHeld.1 (p := ⟨g169,0,none⟩) (by simp only [];have := eg169;omega) _,cell_far hHeld.2 (p := ⟨g169,0,none⟩) (by simp only [];have := eg169;omega) _⟩ (fun hHeld => ?_)
     clear hK K
     try simp only [Act.put,zsA,zsB,zsC]
     refine wpAnyH_done (by kernel_rfl) ?_ _
     go_simp
     go_wp2_with fail
     go_meet
     exact ⟨g195,g169,_,_,_,_,_,_,rfl,rfl,(Ne.symm neg195),eg195,eg169,(Row.set r200 0 _).far (Ne.symm neg195) _,Row.set (Row.far r201 (fun e => (Ne.symm neg195) e.symm) _) 0 _,(Rd.setNe n199 (r200.cell? 0) (fun _ h => by cases h) _).setNe (cell_far (r201.cell? 0) (fun e => (Ne.symm neg195) e.symm) _) (fun _ h => by cases h) _,(Rd.setNe nuv196 (r200.cell? 0) (fun _ h => by cases h) _).setNe (cell_far (r201.cell? 0) (fun e => (Ne.symm neg195) e.symm) _) (fun _ h => by cases h) _,Bel.st (Bel.st B197 (p := ⟨g195,0,none⟩) (by simp only [];have := eg195;omega) _) (p := ⟨g169,0,none⟩) (by simp only [];have := eg169;omega) _,Row.far (p := ⟨g169,0,none⟩) (Row.far (p := ⟨g195,0,none⟩) r202 (by simp only [];have := eg195;omega) _) (by simp only [];have := eg169;omega) _⟩
   ·skip
    go_simp
    obtain ⟨Y203,hY203⟩ : ∃ Y,Y = Y165.alloc (.cells #[.slice none 0 0] 30) := ⟨_,rfl⟩
    have rY203 : Row Y203 Y165.heap.size 30 [.slice none 0 0] := by rw [hY203];exact Row.new _ _ _
    have bY203 : Below Y165.heap.size Y165 Y203 := by rw [hY203];exact Bel.al (Below.refl _ _) _
    rw [← hY203]
    have zY203 : Y165.heap.size < Y203.heap.size := by rw [hY203];simp
    clear hY203
    have B204 := Bel.to B166 bY203
    have z205 : W0.heap.size ≤ Y203.heap.size := by have := bY203.size;have := z167;omega
    have r206 := Row.keep rY165 bY203
    have r207 := Row.keep r168 bY203
    obtain ⟨g208,hg208⟩ : ∃ g,g = Y165.heap.size := ⟨_,rfl⟩
    have eg208 : w.heap.size + 2 < g208 := by have := B166.size;have := hz0;have := z167;omega
    have neg208 : g169 ≠ g208 := by have := Row.lt rY165;omega
    rw [← hg208] at rY203
    try rw [← hg208]
    refine hK.out _ _ (⟨Bel.cellOf bY203 hHeld.1,Bel.cellOf bY203 hHeld.2⟩) (fun hHeld => ?_)
    clear hK K
    try simp only [Act.put,zsA,zsB,zsC]
    try rw [← hg208]
    clear hg208
    refine wpAnyH_ready (rs := [1]) (by kernel_rfl) (by simp) ?_
    refine AllReadyH.cons (o := _) rfl (fun K hK => ?_) AllReadyH.nil
    go_simp
    refine (copied _ m Y203 (ha.below B204) hm).mono ?_
    rintro e v209 ⟨uv209,rfl,nuv209,hv209⟩
    obtain ⟨auv209,luv209,cuv209,rfl⟩ := Rd.shape nuv209
    have B210 := Bel.to B204 hv209
    have z211 : W0.heap.size ≤ v209.heap.size := by have := hv209.size;have := z205;omega
    have r212 := Row.keep rY203 hv209
    have r213 := Row.keep r206 hv209
    have r214 := Row.keep r207 hv209
    go_wp2_with fail
    refine hK.out _ _ (⟨Bel.cellOf hv209 hHeld.1,Bel.cellOf hv209 hHeld.2⟩) (fun hHeld => ?_)
    clear hK K
    try simp only [Act.put,zsA,zsB,zsC]
    refine wpAnyH_ready (rs := [3]) (by kernel_rfl) (by simp) ?_
    refine AllReadyH.cons (o := _) rfl (fun K hK => ?_) AllReadyH.nil
    go_simp
    refine (copied _ n v209 (hb.below B210) hn).mono ?_
    rintro e v215 ⟨uv215,rfl,nuv215,hv215⟩
    obtain ⟨auv215,luv215,cuv215,rfl⟩ := Rd.shape nuv215
    have B216 := Bel.to B210 hv215
    have z217 : W0.heap.size ≤ v215.heap.size := by have := hv215.size;have := z211;omega
    have n218 := Rd.below nuv209 hv215
    have r219 := Row.keep r212 hv215
    have r220 := Row.keep r213 hv215
    have r221 := Row.keep r214 hv215
    go_wp2_with fail
    refine hK.out _ _ (⟨Bel.cellOf hv215 hHeld.1,Bel.cellOf hv215 hHeld.2⟩) (fun hHeld => ?_)
    clear hK K
    try simp only [Act.put,zsA,zsB,zsC]
    have q4 := (r219).cell? 0
    have q4f := (r219).frozen 0
    have q5 := (r220).cell? 0
    have q5f := (r220).frozen 0
    simp only [List.getElem?_cons_zero] at q4 q5
    refine wpAnyH_ready (rs := [6]) (by kernel_rfl) (by simp) ?_
    refine AllReadyH.cons (o := _) rfl (fun K hK => ?_) AllReadyH.nil
    go_simp
    refine hK.out _ _ ⟨cell_far hHeld.1 (p := ⟨g208,0,none⟩) (by simp only [];have := eg208;omega) _,cell_far hHeld.2 (p := ⟨g208,0,none⟩) (by simp only [];have := eg208;omega) _⟩ (fun hHeld => ?_)
    clear hK K
    try simp only [Act.put,zsA,zsB,zsC]
    have q5 := cell_far q5 (p := ⟨g208,0,none⟩) (fun e => (Ne.symm neg208) e.symm) (.slice auv209 luv209 cuv209)
    have q5f := (Row.far r220 (p := ⟨g208,0,none⟩) (fun e => (Ne.symm neg208) e.symm) (.slice auv209 luv209 cuv209)).frozen 0
    refine wpAnyH_ready (rs := [7]) (by kernel_rfl) (by simp) ?_
    refine AllReadyH.cons (o := _) rfl (fun K hK => ?_) AllReadyH.nil
    go_simp
    refine hK.out _ _ ⟨cell_far hHeld.1 (p := ⟨g169,0,none⟩) (by simp only [];have := eg169;omega) _,cell_far hHeld.2 (p := ⟨g169,0,none⟩) (by simp only [];have := eg169;omega) _⟩ (fun hHeld => ?_)
    clear hK K
    try simp only [Act.put,zsA,zsB,zsC]
    refine wpAnyH_done (by kernel_rfl) ?_ _
    go_simp
    go_wp2_with fail
    go_meet
    exact ⟨g208,g169,_,_,_,_,_,_,rfl,rfl,(Ne.symm neg208),eg208,eg169,(Row.set r219 0 _).far (Ne.symm neg208) _,Row.set (Row.far r220 (fun e => (Ne.symm neg208) e.symm) _) 0 _,(Rd.setNe n218 (r219.cell? 0) (fun _ h => by cases h) _).setNe (cell_far (r220.cell? 0) (fun e => (Ne.symm neg208) e.symm) _) (fun _ h => by cases h) _,(Rd.setNe nuv215 (r219.cell? 0) (fun _ h => by cases h) _).setNe (cell_far (r220.cell? 0) (fun e => (Ne.symm neg208) e.symm) _) (fun _ h => by cases h) _,Bel.st (Bel.st B216 (p := ⟨g208,0,none⟩) (by simp only [];have := eg208;omega) _) (p := ⟨g169,0,none⟩) (by simp only [];have := eg169;omega) _,Row.far (p := ⟨g169,0,none⟩) (Row.far (p := ⟨g208,0,none⟩) r221 (by simp only [];have := eg208;omega) _) (by simp only [];have := eg169;omega) _⟩
 case rest =>
  obtain ⟨b6,b7,ax,nx,cx,ay,ny,cy,rfl,rfl,h67,e6,e7,r6,r7,nvx,nvy,bX,rR3⟩ := hcut
  clear c20 c21 rR hbw2 hz2 ha hb
  replace hm := hide hm
  replace hn := hide hn
  go_wp2_with fail
  go_loopg [] n (fun gh wr => ∃ (m' n' : Nat) (ax : Option Addr) (nx cx : Nat) (ay : Option Addr) (ny cy : Nat),gh = n' ∧ Row wr b6 30 [.slice ax nx cx] ∧ Row wr b7 30 [.slice ay ny cy] ∧ NV wr (.slice ax nx cx) m' ∧ NV wr (.slice ay ny cy) n' ∧ Hid (Nat.gcd m' n' = Nat.gcd m n) ∧ Hid ((limbs m').length ≤ 64) ∧ Hid ((limbs n').length ≤ 64) ∧ Below w.heap.size w wr ∧ Row wr (w.heap.size + 2) 30 [.slice none 0 0])
  case atStart => exact ⟨m,n,ax,nx,cx,ay,ny,cy,rfl,r6,r7,nvx,nvy,rfl,hm,hn,bX,rR3⟩
  case round =>
   clear r6 r7 nvx nvy bX rR3
   clear ax nx cx ay ny cy
   obtain ⟨m',n',ax,nx,cx,ay,ny,cy,hgh,r6,r7,nvx,nvy,hg,hm',hn',bel,rR⟩ := hrel
   replace hgh := hide hgh
   have hlen := Rd.len_eq nvy
   have c6 := (r6.cell? 0)
   have c7 := (r7.cell? 0)
   have f6 := r6.frozen 0
   have f7 := r7.frozen 0
   have cR := (rR.cell? 0)
   have fR := rR.frozen 0
   simp only [List.getElem?_cons_zero] at c6 c7 cR
   by_cases h0 : n' = 0
   ·have hny : ny = 0 := by rw [hlen,h0,limbs_zero];rfl
    have hgm : Hid (m' = Nat.gcd m n) := by show _ = _;rw [← hg.out,h0,Nat.gcd_zero_right]
    have nvf := (Rd.setNe nvx cR (fun _ h => by cases h) (.slice ax nx cx))
    have belf := Bel.st bel (p := ⟨w.heap.size + 2,0,none⟩) (by simp only [];omega) (.slice ax nx cx)
    clear hlen hgh hg
    replace h0 := hide h0
    go_wp2
    refine bodyPost_ret (v := .tuple #[.agg #[.slice ax nx cx],.int .i64 0]) (by simp [results,Tryz.results76,go_sem,cR]) rfl ⟨_,rfl,?_,belf⟩
    rw [← hgm.out]
    exact nvf
   ·have hny : 0 < ny := by rw [hlen,limbs_pos h0];simp
    have hnyi : (0 : Int) < (ny : Int) := by omega
    have cD := hide (divmod_any _ _ m' n' wr nvx nvy hm'.out hn'.out (by omega))
    have hml : Hid ((limbs (m' % n')).length ≤ 64) := by
     show _ ≤ _
     have h1 := limbs_len_le (Nat.le_of_lt (Nat.mod_lt m' (show 0 < n' by omega)))
     have := hn'.out
     omega
    have hlt : Hid (m' % n' < n') := Nat.mod_lt m' (by omega)
    have hgg : Hid (Nat.gcd n' (m' % n') = Nat.gcd m n) := by show _ = _;rw [← hg.out,Nat.gcd_comm m' n',Nat.gcd_rec n' m',Nat.gcd_comm]
    replace h0 := hide h0
    clear hlen hm' hg
    go_wp2_with fail
    refine cD.out.mono ?_
    rintro e w4 ⟨u,v,rfl,hu,hv,hb4⟩
    obtain ⟨aq,lq,cq,rfl⟩ := Rd.shape hu
    obtain ⟨ar,lr,cr,rfl⟩ := Rd.shape hv
    have r6 := Row.keep r6 hb4
    have r7 := Row.keep r7 hb4
    have rR := Row.keep rR hb4
    have nvy := Rd.below nvy hb4
    have bel := Bel.to bel hb4
    clear cD c6 c7 f6 f7 cR fR hu nvx hb4
    go_upto_region 6 with (fail)
    obtain ⟨w5,hw5⟩ : ∃ w5,w5 = (w4.alloc (.cells #[.slice aq lq cq] 30)).alloc (.cells #[.slice ar lr cr] 30) := ⟨_,rfl⟩
    have b45 : Below w4.heap.size w4 w5 := by rw [hw5];exact Bel.al (Bel.al (Below.refl _ _) _) _
    have c9' : w5.cell? ⟨w4.heap.size + 1,0,none⟩ = some (.slice ar lr cr) := by rw [hw5];simp
    rw [← hw5]
    clear hw5
    obtain ⟨b9,hb9⟩ : ∃ b9,b9 = w4.heap.size + 1 := ⟨_,rfl⟩
    have n69 : b6 ≠ b9 := by have := r6.lt;omega
    have n79 : b7 ≠ b9 := by have := r7.lt;omega
    rw [← hb9] at c9' ⊢
    clear hb9
    have c9 := c9'
    clear c9'
    have r6 := Row.keep r6 b45
    have r7 := Row.keep r7 b45
    have rR := Row.keep rR b45
    have nvy := Rd.below nvy b45
    have nvr := Rd.below hv b45
    have bel := Bel.to bel b45
    have c6 := (r6.cell? 0)
    have c7 := (r7.cell? 0)
    have f6 := r6.frozen 0
    have f7 := r7.frozen 0
    simp only [List.getElem?_cons_zero] at c6 c7
    clear b45 hv
    go_upto_region 8 with (fail)
    refine wp_region_held_drew (S := fun X => X.cell? ⟨b9,0,none⟩ = some (.slice ar lr cr)) (by kernel_rfl) c9 (fun hHeld => ?_)
    refine' wpAnyH_take (i := 1) (oi := _) (v := .agg #[.slice ar lr cr]) rfl (by kernel_rfl) (by kernel_rfl) (by kernel_rfl) (fun _ _ _ h => h) (Or.inl ⟨by first | (go_simp;done) | rfl,fun X hX => by have h0 := hX;go_simp⟩) hHeld ?_
    try simp only [Act.put,zsA,zsB,zsC]
    obtain ⟨Y0,hY0⟩ : ∃ Y,Y = w5.drew := ⟨_,rfl⟩
    have c7 : Y0.cell? ⟨b7,0,none⟩ = some (.slice ay ny cy) := by rw [hY0];exact c7
    have c6 : Y0.cell? ⟨b6,0,none⟩ = some (.slice ax nx cx) := by rw [hY0];exact c6
    have f6 : Y0.frozen? ⟨b6,0,none⟩ = false := by rw [hY0];exact f6
    have f7 : Y0.frozen? ⟨b7,0,none⟩ = false := by rw [hY0];exact f7
    have r6 : Row Y0 b6 30 [.slice ax nx cx] := by rw [hY0];exact r6
    have r7 : Row Y0 b7 30 [.slice ay ny cy] := by rw [hY0];exact r7
    have rR : Row Y0 (w.heap.size + 2) 30 [.slice none 0 0] := by rw [hY0];exact rR
    have nvy : NV Y0 (.slice ay ny cy) n' := by rw [hY0];exact nvy
    have nvr : NV Y0 (.slice ar lr cr) (m' % n') := by rw [hY0];exact nvr
    have bel : Below w.heap.size w Y0 := by rw [hY0];exact Below.drew bel
    rw [← hY0] at hHeld ⊢
    clear hY0
    refine wpAnyH_ready (rs := [0]) (by kernel_rfl) (by simp) ?_
    refine AllReadyH.cons (o := _) rfl (fun K hK => ?_) AllReadyH.nil
    go_simp
    refine hK.out _ _ hHeld (fun hHeld => ?_)
    clear hK K
    try simp only [Act.put,zsA,zsB,zsC]
    refine wpAnyH_ready (rs := [2]) (by kernel_rfl) (by simp) ?_
    refine AllReadyH.cons (o := _) rfl (fun K hK => ?_) AllReadyH.nil
    go_simp
    refine hK.out _ _ (cell_far hHeld (p := ⟨b6,0,none⟩) (fun e => n69 e.symm) _) (fun hHeld => ?_)
    clear hK K
    try simp only [Act.put,zsA,zsB,zsC]
    have c7 := cell_far c7 (p := ⟨b6,0,none⟩) (fun e => h67 e.symm) (.slice ay ny cy)
    have f7 : (Y0.setCell ⟨b6,0,none⟩ (.slice ay ny cy)).frozen? ⟨b7,0,none⟩ = false := (Row.far r7 (p := ⟨b6,0,none⟩) (fun e => h67 e.symm) _).frozen 0
    refine wpAnyH_ready (rs := [3]) (by kernel_rfl) (by simp) ?_
    refine AllReadyH.cons (o := _) rfl (fun K hK => ?_) AllReadyH.nil
    go_simp
    refine hK.out _ _ (cell_far hHeld (p := ⟨b7,0,none⟩) (fun e => n79 e.symm) _) (fun hHeld => ?_)
    clear hK K
    try simp only [Act.put,zsA,zsB,zsC]
    refine wpAnyH_done (by kernel_rfl) ?_ _
    go_simp
    have nvy2 := (Rd.setNe nvy c6 (fun _ h => by cases h) (.slice ay ny cy)).setNe c7 (fun _ h => by cases h) (.slice ar lr cr)
    have nvr2 := (Rd.setNe nvr c6 (fun _ h => by cases h) (.slice ay ny cy)).setNe c7 (fun _ h => by cases h) (.slice ar lr cr)
    have s6 := (Row.set r6 0 (.slice ay ny cy)).far (p := ⟨b7,0,none⟩) h67 (.slice ar lr cr)
    have s7 := Row.set (Row.far r7 (p := ⟨b6,0,none⟩) (fun e => h67 e.symm) (.slice ay ny cy)) 0 (.slice ar lr cr)
    have sR := (rR.far (p := ⟨b6,0,none⟩) (by simp only [];omega) (.slice ay ny cy)).far (p := ⟨b7,0,none⟩) (by simp only [];omega) (.slice ar lr cr)
    have bel2 := Bel.st (Bel.st bel (p := ⟨b6,0,none⟩) (by simp only [];omega) (.slice ay ny cy)) (p := ⟨b7,0,none⟩) (by simp only [];omega) (.slice ar lr cr)
    go_wp2
    go_roundg (m' % n')
    case measure => have := hgh.out;have := hlt.out;omega
    case rel => exact ⟨n',m' % n',ay,ny,cy,ar,lr,cr,rfl,s6,s7,nvy2,nvr2,hgg,hn',hml,bel2,sR⟩
end Go.Proofs.YtldikghldcefcaaGreat
end

/- Lemmas, merged out of smaller texts (wip/tools/mergedce.py). No condition. -/
import Derived.Test.YtldikghldcefcaaGreatHC
import Derived.Test.YtldikghldcefcaaGreatHE
import Derived.Test.YtldikghldcefcaaGreatHD
import Derived.Test.YtldikghldcefcaaGreatHB
import Derived.Test.YtldikghldcefcaaGreatHF
section
open Go.RowKit
set_option linter.unusedVariables false
set_option linter.unusedSimpArgs false
namespace Go.Proofs.YtldikghldcefcaaGreat
set_option maxHeartbeats 4000000 in
set_option maxRecDepth 100000 in
theorem radd_nat (va vb : Value) (m n : Nat) (w : World) (ha : NV w va m) (hb : NV w vb n) (lm : (limbs m).length ≤ 64) (ln : (limbs n).length ≤ 64) (lr : (digs (m + n)).length ≤ 128) :
  Calls Tryz.prog 81 #[.agg #[va],.agg #[vb]] w (NatC (m + n) 0 w) := by
 have dm := hide (digs_limbs_len lm)
 have dn := hide (digs_limbs_len ln)
 obtain ⟨a0,n0,cp0,rfl⟩ := Rd.shape ha
 obtain ⟨a1,n1,cp1,rfl⟩ := Rd.shape hb
 go_enter Tryz.func81,Tryz.ntmps81
 go_wp2_with fail
 refine (rvalid _ m _ (((Rd.alloc ha _).alloc _).alloc _) lm).mono ?_
 rintro e w1 ⟨rfl,hb1⟩
 have ca1 : w1.cell? ⟨w.heap.size,0,none⟩ = some (.slice a0 n0 cp0) := Bel.cellOf hb1 (by go_simp)
 have cb1 : w1.cell? ⟨w.heap.size + 1,0,none⟩ = some (.slice a1 n1 cp1) := Bel.cellOf hb1 (by go_simp)
 have cr1 : w1.cell? ⟨w.heap.size + 2,0,none⟩ = some (.slice none 0 0) := Bel.cellOf hb1 (by go_simp)
 have fr1 : w1.frozen? ⟨w.heap.size + 2,0,none⟩ = false := by rw [hb1.frozen (by simp)];go_simp
 have na1 : NV w1 _ m := Rd.below (((Rd.alloc ha _).alloc _).alloc _) hb1
 have nb1 : NV w1 _ n := Rd.below (((Rd.alloc hb _).alloc _).alloc _) hb1
 have bw1 := Bel.three _ _ _ hb1
 have sz1 : w.heap.size + 2 < w1.heap.size := by have := hb1.size;simp at this;omega
 clear ha hb hb1
 go_wp2_with fail
 refine (rvalid _ n _ nb1 ln).mono ?_
 rintro e W ⟨rfl,hb2⟩
 have ca := Bel.cellOf hb2 ca1
 have cb := Bel.cellOf hb2 cb1
 have cr := Bel.cellOf hb2 cr1
 have fr := Bel.frozenOf hb2 cr1 fr1
 have na : NV W _ m := Rd.below na1 hb2
 have nb : NV W _ n := Rd.below nb1 hb2
 have bw := Bel.to bw1 hb2
 have sz : w.heap.size + 2 < W.heap.size := by have := hb2.size;omega
 clear ca1 cb1 cr1 fr1 na1 nb1 bw1 hb2 sz1
 go_upto_region 3 with (fail)
 go_cut [6,7] (fun p ok X => ∃ (pb : Nat) (ap : Option Addr) (np cpp : Nat),p = .pointer (some ⟨pb,0,none⟩) ∧ ok = .bool true ∧ Below W.heap.size W X ∧ X.cell? ⟨pb,0,none⟩ = some (.slice ap np cpp) ∧ NV X (.slice ap np cpp) (m + n))
 case first =>
  go_region_held3 (fun X => X.cell? ⟨w.heap.size,0,none⟩ = some (.slice a0 n0 cp0) ∧ X.cell? ⟨w.heap.size + 1,0,none⟩ = some (.slice a1 n1 cp1)) (first | go_keep | (refine ⟨cell_far ca5 ?_ _,cell_far cb5 ?_ _⟩ <;> (simp only [];omega))) (first
   | (go_at_call 115;refine (halves _ m _ ?_ ?_).mono ?_;(first | exact Rd.drew na | exact Rd.alloc (Rd.drew na) _);(omega);rintro e w2 ⟨u2,rfl,hu2,hb2,-⟩;have b2 : Below W.heap.size W w2 := (by first | exact Bel.to (Below.drew (Below.refl _ _)) hb2 | exact Bel.to (Bel.al (Below.drew (Below.refl _ _)) _) hb2);have ca2 := Bel.cellOf b2 ca;have cb2 := Bel.cellOf b2 cb;have nb2 : NV w2 _ n := Rd.below nb b2;have s2 := b2.size;(try have k2 : w2.cell? ⟨W.heap.size,0,none⟩ = some (.slice none 0 0) := Bel.cellOf hb2 (new_cell W.drew _ _));(try have f2 : w2.frozen? ⟨W.heap.size,0,none⟩ = false := Bel.frozenOf hb2 (new_cell W.drew _ _) (new_frozen W.drew _ _)))
   | (go_at_call 115;refine (halves _ n _ ?_ ?_).mono ?_;(first | exact nb2 | exact Rd.alloc nb2 _);(omega);rintro e w3 ⟨u3,rfl,hu3,hb3,-⟩;have b3 : Below W.heap.size W w3 := (by first | exact Bel.to b2 hb3 | exact Bel.to (Bel.al b2 _) hb3);have ca3 := Bel.cellOf b3 ca;have cb3 := Bel.cellOf b3 cb;have hu23 : DV w3 _ m := (by first | exact Rd.below hu2 hb3 | exact Rd.below (Rd.alloc hu2 _) hb3);have s3 := b3.size;(try have k3 := Bel.cellOf hb3 k2);(try have f3 := Bel.frozenOf hb3 k2 f2);(try have k3 : w3.cell? ⟨w2.heap.size,0,none⟩ = some (.slice none 0 0) := Bel.cellOf hb3 (new_cell w2 _ _));(try have f3 : w3.frozen? ⟨w2.heap.size,0,none⟩ = false := Bel.frozenOf hb3 (new_cell w2 _ _) (new_frozen w2 _ _)))
   | (go_at_call 114;refine (radd _ _ m n _ ?_ ?_ ?_ ?_).mono ?_;(first | exact hu23 | exact Rd.alloc hu23 _);(first | exact hu3 | exact Rd.alloc hu3 _);(have := dm.out;omega);(have := dn.out;omega);rintro e w4 ⟨u4,rfl,hu4,hb4,-⟩;have b4 : Below W.heap.size W w4 := (by first | exact Bel.to b3 hb4 | exact Bel.to (Bel.al b3 _) hb4);have ca4 := Bel.cellOf b4 ca;have cb4 := Bel.cellOf b4 cb;have s4 := b4.size;(try have k4 := Bel.cellOf hb4 k3);(try have f4 := Bel.frozenOf hb4 k3 f3);(try have k4 : w4.cell? ⟨w3.heap.size,0,none⟩ = some (.slice none 0 0) := Bel.cellOf hb4 (new_cell w3 _ _));(try have f4 : w4.frozen? ⟨w3.heap.size,0,none⟩ = false := Bel.frozenOf hb4 (new_cell w3 _ _) (new_frozen w3 _ _)))
   | (go_at_call 113;refine (whole_ok _ (m + n) _ ?_ ?_).mono ?_;(first | exact hu4 | exact Rd.alloc hu4 _);(omega);rintro e w5 ⟨u5,rfl,hu5,hb5⟩;have b5 : Below W.heap.size W w5 := (by first | exact Bel.to b4 hb5 | exact Bel.to (Bel.al b4 _) hb5);have ca5 := Bel.cellOf b5 ca;have cb5 := Bel.cellOf b5 cb;have s5 := b5.size;(try have k5 := Bel.cellOf hb5 k4);(try have f5 := Bel.frozenOf hb5 k4 f4);(try have k5 : w5.cell? ⟨w4.heap.size,0,none⟩ = some (.slice none 0 0) := Bel.cellOf hb5 (new_cell w4 _ _));(try have f5 : w5.frozen? ⟨w4.heap.size,0,none⟩ = false := Bel.frozenOf hb5 (new_cell w4 _ _) (new_frozen w4 _ _));obtain ⟨a5,n5,cp5,rfl⟩ := Rd.shape hu5))
  all_goals go_wp2_with fail
  all_goals
   go_meet
   first
    | exact ⟨_,_,_,_,rfl,rfl,Bel.al b5 _,new_cell _ _ _,hu5.alloc _⟩
    | exact ⟨_,_,_,_,rfl,rfl,Bel.st b5 (by first | omega | (simp only [];omega) | (simp;done) | (simp;omega)) _,set_cell k5 _,hu5.setNe k5 (fun _ h => by cases h) _⟩
 case rest =>
  obtain ⟨pb,ap,np,cpp,rfl,rfl,hb3,cpb,hp⟩ := hcut
  have cr3 := Bel.cellOf hb3 cr
  have fr3 := Bel.frozenOf hb3 cr fr
  have hfin := hp.setNe cr3 (fun _ h => by cases h) (.slice ap np cpp)
  have hbel := Bel.st (Bel.to bw hb3) (p := ⟨w.heap.size + 2,0,none⟩) (by simp) (.slice ap np cpp)
  go_wp2
  refine bodyPost_ret (v := .tuple #[.agg #[.slice ap np cpp],.int .i64 0]) (by simp [results,Tryz.results81,go_sem,cr3]) rfl ⟨_,rfl,hfin,hbel⟩
set_option maxHeartbeats 4000000 in
set_option maxRecDepth 100000 in
theorem rcmp_nat (va vb : Value) (m n : Nat) (w : World) (ha : NV w va m) (hb : NV w vb n) (lm : (limbs m).length ≤ 64) (ln : (limbs n).length ≤ 64) :
  Calls Tryz.prog 125 #[.agg #[va],.agg #[vb]] w (DrewB (.int .i64 (cmpV m n)) w) := by
 obtain ⟨a0,n0,cp0,rfl⟩ := Rd.shape ha
 obtain ⟨a1,n1,cp1,rfl⟩ := Rd.shape hb
 go_enter Tryz.func125,Tryz.ntmps125
 go_upto_region 1 with (fail)
 obtain ⟨W,hW⟩ : ∃ W,W = ((w.alloc (.cells #[.slice a0 n0 cp0] 30)).alloc (.cells #[.slice a1 n1 cp1] 30)) := ⟨_,rfl⟩
 have bel : Below w.heap.size w W := by rw [hW];exact Bel.al (Bel.al (Below.refl _ _) _) _
 have ra : Row W w.heap.size 30 [.slice a0 n0 cp0] := by rw [hW];exact Row.alloc (Row.new _ _ _) _
 have rb : Row W (w.heap.size + 1) 30 [.slice a1 n1 cp1] := by rw [hW];exact Row.at2 _ _ _ _
 replace ha : NV W _ m := Rd.below ha bel
 replace hb : NV W _ n := Rd.below hb bel
 rw [← hW]
 clear hW
 have ca := ra.cell? 0
 have cb := rb.cell? 0
 simp only [List.getElem?_cons_zero] at ca cb
 go_wp2_with fail
 refine (rvalid _ m _ ha lm).mono ?_
 rintro e w1 ⟨rfl,hbw1⟩
 replace ha := Rd.below ha hbw1
 replace hb := Rd.below hb hbw1
 replace ra := Row.keep ra hbw1
 replace rb := Row.keep rb hbw1
 replace bel := Bel.to bel hbw1
 clear hbw1 ca cb
 have ca := ra.cell? 0
 have cb := rb.cell? 0
 simp only [List.getElem?_cons_zero] at ca cb
 go_wp2_with fail
 refine (rvalid _ n _ hb ln).mono ?_
 rintro e w2 ⟨rfl,hbw2⟩
 replace ha := Rd.below ha hbw2
 replace hb := Rd.below hb hbw2
 replace ra := Row.keep ra hbw2
 replace rb := Row.keep rb hbw2
 replace bel := Bel.to bel hbw2
 clear hbw2 ca cb
 have ca := ra.cell? 0
 have cb := rb.cell? 0
 simp only [List.getElem?_cons_zero] at ca cb
 go_upto_region 3 with (fail)
 refine till_begin 5 (fun X => X.cell? ⟨w.heap.size,0,none⟩ = some (.slice a0 n0 cp0) ∧ X.cell? ⟨w.heap.size + 1,0,none⟩ = some (.slice a1 n1 cp1)) (by kernel_rfl) (⟨ca,cb⟩) (fun hHeld => ?_)
 refine' till_take (i := 0) (oi := _) (v := .agg #[.slice a0 n0 cp0]) rfl (by kernel_rfl) (by kernel_rfl) (by kernel_rfl) (by kernel_rfl) (fun _ _ _ h => h) (Or.inl ⟨by first | (go_simp;done) | rfl,fun X hX => by have h0 := hX.1;go_simp⟩) hHeld ?_
 try simp only [List.getElem_toArray,List.getElem_cons_zero,List.getElem_cons_succ,Act.put,zsA,zsB,zsC]
 refine' till_take (i := 2) (oi := _) (v := .agg #[.slice a1 n1 cp1]) rfl (by kernel_rfl) (by kernel_rfl) (by kernel_rfl) (by kernel_rfl) (fun _ _ _ h => h) (Or.inl ⟨by first | (go_simp;done) | rfl,fun X hX => by have h0 := hX.2;go_simp⟩) hHeld ?_
 try simp only [List.getElem_toArray,List.getElem_cons_zero,List.getElem_cons_succ,Act.put,zsA,zsB,zsC]
 obtain ⟨Y0,hY0⟩ : ∃ Y,Y = w2.drew := ⟨_,rfl⟩
 have hY1 : Below w2.heap.size w2 Y0 := by rw [hY0];exact Below.drew (Below.refl _ _)
 replace ha := Rd.below ha hY1
 replace hb := Rd.below hb hY1
 replace ra := Row.keep ra hY1
 replace rb := Row.keep rb hY1
 replace bel := Bel.to bel hY1
 rw [← hY0] at hHeld ⊢
 clear hY0 hY1 ca cb
 refine till_ready (rs := [1]) (by kernel_rfl) (by simp) ?_
 refine TillReady.cons (o := _) rfl (fun K hK => ?_) TillReady.nil
 go_simp
 refine (halves _ m Y0 ha (by omega)).mono ?_
 rintro e x1_1 ⟨u,rfl,hu,bx1_1,-⟩
 replace ha := Rd.below ha bx1_1
 replace hb := Rd.below hb bx1_1
 replace ra := Row.keep ra bx1_1
 replace rb := Row.keep rb bx1_1
 replace bel := Bel.to bel bx1_1
 go_wp2_with fail
 refine hK.out _ _ ⟨Bel.cellOf bx1_1 hHeld.1,Bel.cellOf bx1_1 hHeld.2⟩ (fun hHeld => ?_)
 clear hK K bx1_1
 try simp only [List.getElem_toArray,List.getElem_cons_zero,List.getElem_cons_succ,Act.put,zsA,zsB,zsC]
 refine till_ready (rs := [3]) (by kernel_rfl) (by simp) ?_
 refine TillReady.cons (o := _) rfl (fun K hK => ?_) TillReady.nil
 go_simp
 refine (halves _ n x1_1 hb (by omega)).mono ?_
 rintro e x2_3 ⟨v,rfl,hv,bx2_3,-⟩
 replace ha := Rd.below ha bx2_3
 replace hb := Rd.below hb bx2_3
 replace ra := Row.keep ra bx2_3
 replace rb := Row.keep rb bx2_3
 replace bel := Bel.to bel bx2_3
 replace hu := Rd.below hu bx2_3
 go_wp2_with fail
 refine hK.out _ _ ⟨Bel.cellOf bx2_3 hHeld.1,Bel.cellOf bx2_3 hHeld.2⟩ (fun hHeld => ?_)
 clear hK K bx2_3
 try simp only [List.getElem_toArray,List.getElem_cons_zero,List.getElem_cons_succ,Act.put,zsA,zsB,zsC]
 refine till_ready (rs := [4]) (by kernel_rfl) (by simp) ?_
 refine TillReady.cons (o := _) rfl (fun K hK => ?_) TillReady.nil
 go_simp
 refine (rcmp _ _ m n x2_3 hu hv).mono ?_
 rintro e x3_4 ⟨rfl,bx3_4⟩
 replace ha := Rd.below ha bx3_4
 replace hb := Rd.below hb bx3_4
 replace ra := Row.keep ra bx3_4
 replace rb := Row.keep rb bx3_4
 replace bel := Bel.to bel bx3_4
 replace hu := Rd.below hu bx3_4
 replace hv := Rd.below hv bx3_4
 go_wp2_with fail
 refine hK.out _ _ ⟨Bel.cellOf bx3_4 hHeld.1,Bel.cellOf bx3_4 hHeld.2⟩ (fun hHeld => ?_)
 clear hK K bx3_4
 try simp only [List.getElem_toArray,List.getElem_cons_zero,List.getElem_cons_succ,Act.put,zsA,zsB,zsC]
 refine till_ready (rs := [5]) (by kernel_rfl) (by simp) ?_
 refine TillReady.last (o := _) rfl (by kernel_rfl) (fun K hK => ?_) TillReady.nil
 go_simp
 refine hK.out _ _ ?_
 clear hK K
 try simp only [List.getElem_toArray,List.getElem_cons_zero,List.getElem_cons_succ,Act.put,zsA,zsB,zsC]
 refine till_done (by kernel_rfl) ?_ _
 go_simp
 go_wp2
 go_ret
 exact ⟨rfl,bel⟩
set_option maxHeartbeats 4000000 in
set_option maxRecDepth 100000 in
theorem rsub_nat (va vb : Value) (m n : Nat) (w : World) (ha : NV w va m) (hb : NV w vb n) (hmn : n ≤ m) (lm : (limbs m).length ≤ 64) (ln : (limbs n).length ≤ 64) :
  Calls Tryz.prog 104 #[.agg #[va],.agg #[vb]] w (NatC (m - n) 0 w) := by
 have dm := hide (digs_limbs_len lm)
 have dz := hide (show (digs (m - n)).length ≤ 128 by have := digs_limbs_len (Nat.le_trans (limbs_len_le (Nat.sub_le m n)) lm);omega)
 have hcm : ¬ cmpV m n < 0 := by unfold cmpV;rw [if_neg (by omega)];split <;> omega
 obtain ⟨cv,hcv⟩ : ∃ c,c = cmpV m n := ⟨_,rfl⟩
 have cC := hide (fun va vb X (h1 : NV X va m) (h2 : NV X vb n) => rcmp_nat va vb m n X h1 h2 lm ln)
 rw [← hcv] at hcm cC
 clear hcv
 obtain ⟨a0,n0,cp0,rfl⟩ := Rd.shape ha
 obtain ⟨a1,n1,cp1,rfl⟩ := Rd.shape hb
 go_enter Tryz.func104,Tryz.ntmps104
 go_upto_region 1 with (fail)
 obtain ⟨W,hW⟩ : ∃ W,W = (((w.alloc (.cells #[.slice a0 n0 cp0] 30)).alloc (.cells #[.slice a1 n1 cp1] 30)).alloc (.cells #[.slice none 0 0] 30)) := ⟨_,rfl⟩
 have bel : Below w.heap.size w W := by rw [hW];exact Bel.al (Bel.al (Bel.al (Below.refl _ _) _) _) _
 have ra : Row W w.heap.size 30 [.slice a0 n0 cp0] := by rw [hW];exact Row.alloc (Row.alloc (Row.new _ _ _) _) _
 have rb : Row W (w.heap.size + 1) 30 [.slice a1 n1 cp1] := by rw [hW];exact Row.alloc (Row.at2 _ _ _ _) _
 have rR : Row W (w.heap.size + 1 + 1) 30 [.slice none 0 0] := by rw [hW];exact Row.at3 _ _ _ _ _
 replace ha : NV W _ m := Rd.below ha bel
 replace hb : NV W _ n := Rd.below hb bel
 rw [← hW]
 clear hW
 have ca := ra.cell? 0
 have cb := rb.cell? 0
 simp only [List.getElem?_cons_zero] at ca cb
 go_wp2_with fail
 refine (rvalid _ m _ ha lm).mono ?_
 rintro e w1 ⟨rfl,hbw1⟩
 replace ha := Rd.below ha hbw1
 replace hb := Rd.below hb hbw1
 replace ra := Row.keep ra hbw1
 replace rb := Row.keep rb hbw1
 replace bel := Bel.to bel hbw1
 replace rR := Row.keep rR hbw1
 clear hbw1 ca cb
 have ca := ra.cell? 0
 have cb := rb.cell? 0
 simp only [List.getElem?_cons_zero] at ca cb
 go_wp2_with fail
 refine (rvalid _ n _ hb ln).mono ?_
 rintro e w2 ⟨rfl,hbw2⟩
 replace ha := Rd.below ha hbw2
 replace hb := Rd.below hb hbw2
 replace ra := Row.keep ra hbw2
 replace rb := Row.keep rb hbw2
 replace bel := Bel.to bel hbw2
 replace rR := Row.keep rR hbw2
 clear hbw2 ca cb
 have ca := ra.cell? 0
 have cb := rb.cell? 0
 simp only [List.getElem?_cons_zero] at ca cb
 go_wp2_with fail
 refine (cC.out _ _ w2 ha hb).mono ?_
 rintro e w3 ⟨rfl,hbw3⟩
 replace ha := Rd.below ha hbw3
 replace hb := Rd.below hb hbw3
 replace ra := Row.keep ra hbw3
 replace rb := Row.keep rb hbw3
 replace bel := Bel.to bel hbw3
 replace rR := Row.keep rR hbw3
 clear hbw3 ca cb cC
 have ca := ra.cell? 0
 have cb := rb.cell? 0
 simp only [List.getElem?_cons_zero] at ca cb
 go_upto_region 3 with (fail)
 go_cut [6] (fun p X => ∃ (pb : Nat) (ya : Option Addr) (yl yc : Nat),p = .pointer (some ⟨pb,0,none⟩) ∧ w.heap.size + 1 + 1 < pb ∧ Below w.heap.size w X ∧ Row X (w.heap.size + 1 + 1) 30 [.slice none 0 0] ∧ Row X pb 30 [.slice ya yl yc] ∧ NV X (.slice ya yl yc) (m - n))
 case first =>
  refine till_begin 10 (fun X => X.cell? ⟨w.heap.size,0,none⟩ = some (.slice a0 n0 cp0) ∧ X.cell? ⟨w.heap.size + 1,0,none⟩ = some (.slice a1 n1 cp1)) (by kernel_rfl) (⟨ca,cb⟩) (fun hHeld => ?_)
  refine' till_take (i := 0) (oi := _) (v := .agg #[.slice a0 n0 cp0]) rfl (by kernel_rfl) (by kernel_rfl) (by kernel_rfl) (by kernel_rfl) (fun _ _ _ h => h) (Or.inl ⟨by first | (go_simp;done) | rfl,fun X hX => by have h0 := hX.1;go_simp⟩) hHeld ?_
  try simp only [List.getElem_toArray,List.getElem_cons_zero,List.getElem_cons_succ,Act.put,zsA,zsB,zsC]
  refine' till_take (i := 2) (oi := _) (v := .agg #[.slice a1 n1 cp1]) rfl (by kernel_rfl) (by kernel_rfl) (by kernel_rfl) (by kernel_rfl) (fun _ _ _ h => h) (Or.inl ⟨by first | (go_simp;done) | rfl,fun X hX => by have h0 := hX.2;go_simp⟩) hHeld ?_
  try simp only [List.getElem_toArray,List.getElem_cons_zero,List.getElem_cons_succ,Act.put,zsA,zsB,zsC]
  obtain ⟨Y0,hY0⟩ : ∃ Y,Y = w3.drew := ⟨_,rfl⟩
  have hY1 : Below w3.heap.size w3 Y0 := by rw [hY0];exact Below.drew (Below.refl _ _)
  replace ha := Rd.below ha hY1
  replace hb := Rd.below hb hY1
  replace ra := Row.keep ra hY1
  replace rb := Row.keep rb hY1
  replace bel := Bel.to bel hY1
  replace rR := Row.keep rR hY1
  rw [← hY0] at hHeld ⊢
  clear hY0 hY1 ca cb
  refine till_ready (rs := [1,9]) (by kernel_rfl) (by simp) ?_
  refine TillReady.cons (o := _) rfl (fun K hK => ?_) (TillReady.cons (o := _) rfl (fun K hK => ?_) TillReady.nil)
  ·skip
   go_simp
   refine (halves _ m Y0 ha (by omega)).mono ?_
   rintro e x1_1 ⟨u,rfl,hu,bx1_1,-⟩
   replace ha := Rd.below ha bx1_1
   replace hb := Rd.below hb bx1_1
   replace ra := Row.keep ra bx1_1
   replace rb := Row.keep rb bx1_1
   replace bel := Bel.to bel bx1_1
   replace rR := Row.keep rR bx1_1
   go_wp2_with fail
   refine hK.out _ _ ⟨Bel.cellOf bx1_1 hHeld.1,Bel.cellOf bx1_1 hHeld.2⟩ (fun hHeld => ?_)
   clear hK K bx1_1
   try simp only [List.getElem_toArray,List.getElem_cons_zero,List.getElem_cons_succ,Act.put,zsA,zsB,zsC]
   refine till_ready (rs := [3,9]) (by kernel_rfl) (by simp) ?_
   refine TillReady.cons (o := _) rfl (fun K hK => ?_) (TillReady.cons (o := _) rfl (fun K hK => ?_) TillReady.nil)
   ·skip
    go_simp
    refine (halves _ n x1_1 hb (by omega)).mono ?_
    rintro e x2_3 ⟨v,rfl,hv,bx2_3,-⟩
    replace ha := Rd.below ha bx2_3
    replace hb := Rd.below hb bx2_3
    replace ra := Row.keep ra bx2_3
    replace rb := Row.keep rb bx2_3
    replace bel := Bel.to bel bx2_3
    replace rR := Row.keep rR bx2_3
    replace hu := Rd.below hu bx2_3
    go_wp2_with fail
    refine hK.out _ _ ⟨Bel.cellOf bx2_3 hHeld.1,Bel.cellOf bx2_3 hHeld.2⟩ (fun hHeld => ?_)
    clear hK K bx2_3
    try simp only [List.getElem_toArray,List.getElem_cons_zero,List.getElem_cons_succ,Act.put,zsA,zsB,zsC]
    refine till_ready (rs := [4,9]) (by kernel_rfl) (by simp) ?_
    refine TillReady.cons (o := _) rfl (fun K hK => ?_) (TillReady.cons (o := _) rfl (fun K hK => ?_) TillReady.nil)
    ·skip
     go_simp
     refine (rsub _ _ m n x2_3 hu hv hmn (by have := dm.out;omega)).mono ?_
     rintro e x3_4 ⟨z,rfl,hz,bx3_4,-⟩
     replace ha := Rd.below ha bx3_4
     replace hb := Rd.below hb bx3_4
     replace ra := Row.keep ra bx3_4
     replace rb := Row.keep rb bx3_4
     replace bel := Bel.to bel bx3_4
     replace rR := Row.keep rR bx3_4
     replace hu := Rd.below hu bx3_4
     replace hv := Rd.below hv bx3_4
     go_wp2_with fail
     refine hK.out _ _ ⟨Bel.cellOf bx3_4 hHeld.1,Bel.cellOf bx3_4 hHeld.2⟩ (fun hHeld => ?_)
     clear hK K bx3_4
     try simp only [List.getElem_toArray,List.getElem_cons_zero,List.getElem_cons_succ,Act.put,zsA,zsB,zsC]
     refine till_ready (rs := [5,9]) (by kernel_rfl) (by simp) ?_
     refine TillReady.cons (o := _) rfl (fun K hK => ?_) (TillReady.cons (o := _) rfl (fun K hK => ?_) TillReady.nil)
     ·skip
      go_simp
      refine (whole_ok _ (m - n) x3_4 hz dz.out).mono ?_
      rintro e x4_5 ⟨y,rfl,hy,bx4_5⟩
      obtain ⟨ya,yl,yc,rfl⟩ := Rd.shape hy
      replace ha := Rd.below ha bx4_5
      replace hb := Rd.below hb bx4_5
      replace ra := Row.keep ra bx4_5
      replace rb := Row.keep rb bx4_5
      replace bel := Bel.to bel bx4_5
      replace rR := Row.keep rR bx4_5
      replace hu := Rd.below hu bx4_5
      replace hv := Rd.below hv bx4_5
      clear hz
      go_wp2_with fail
      refine hK.out _ _ ⟨Bel.cellOf bx4_5 hHeld.1,Bel.cellOf bx4_5 hHeld.2⟩ (fun hHeld => ?_)
      clear hK K bx4_5
      try simp only [List.getElem_toArray,List.getElem_cons_zero,List.getElem_cons_succ,Act.put,zsA,zsB,zsC]
      refine' till_pure (i := 6) (oi := _) (v := .tuple #[.agg #[.slice ya yl yc],.bool true]) rfl (by kernel_rfl) (by kernel_rfl) (by kernel_rfl) (by kernel_rfl) (fun _ _ _ h => h) (Or.inl ⟨by first | (go_simp;done) | rfl,fun X _ => by go_simp⟩) hHeld ?_
      try simp only [List.getElem_toArray,List.getElem_cons_zero,List.getElem_cons_succ,Act.put,zsA,zsB,zsC]
      refine' till_pure (i := 7) (oi := _) (v := .agg #[.slice ya yl yc]) rfl (by kernel_rfl) (by kernel_rfl) (by kernel_rfl) (by kernel_rfl) (fun _ _ _ h => h) (Or.inl ⟨by first | (go_simp;done) | rfl,fun X _ => by go_simp⟩) hHeld ?_
      try simp only [List.getElem_toArray,List.getElem_cons_zero,List.getElem_cons_succ,Act.put,zsA,zsB,zsC]
      refine' till_pure (i := 8) (oi := _) (v := .bool true) rfl (by kernel_rfl) (by kernel_rfl) (by kernel_rfl) (by kernel_rfl) (fun _ _ _ h => h) (Or.inl ⟨by first | (go_simp;done) | rfl,fun X _ => by go_simp⟩) hHeld ?_
      try simp only [List.getElem_toArray,List.getElem_cons_zero,List.getElem_cons_succ,Act.put,zsA,zsB,zsC]
      refine till_ready (rs := [9]) (by kernel_rfl) (by simp) ?_
      refine TillReady.cons (o := _) rfl (fun K hK => ?_) TillReady.nil
      go_simp
      obtain ⟨x5_9,hx5_9⟩ : ∃ X,X = x4_5.alloc (.cells #[.slice none 0 0] 30) := ⟨_,rfl⟩
      have bx5_9 : Below x4_5.heap.size x4_5 x5_9 := by rw [hx5_9];exact Bel.al (Below.refl _ _) _
      have rp : Row x5_9 x4_5.heap.size 30 [.slice none 0 0] := by rw [hx5_9];exact Row.newOf _ rfl
      have hbp : w.heap.size + 1 + 1 < x4_5.heap.size := rR.lt
      rw [← hx5_9]
      clear hx5_9
      replace ha := Rd.below ha bx5_9
      replace hb := Rd.below hb bx5_9
      replace ra := Row.keep ra bx5_9
      replace rb := Row.keep rb bx5_9
      replace bel := Bel.to bel bx5_9
      replace rR := Row.keep rR bx5_9
      replace hu := Rd.below hu bx5_9
      replace hv := Rd.below hv bx5_9
      replace hy := Rd.below hy bx5_9
      refine hK.out _ _ ⟨Bel.cellOf bx5_9 hHeld.1,Bel.cellOf bx5_9 hHeld.2⟩ (fun hHeld => ?_)
      clear hK K bx5_9
      try simp only [List.getElem_toArray,List.getElem_cons_zero,List.getElem_cons_succ,Act.put,zsA,zsB,zsC]
      have cp9 := rp.cell? 0
      have fp9 := rp.frozen 0
      simp only [List.getElem?_cons_zero] at cp9
      refine till_ready (rs := [10]) (by kernel_rfl) (by simp) ?_
      refine TillReady.last (o := _) rfl (by kernel_rfl) (fun K hK => ?_) TillReady.nil
      go_simp
      refine hK.out _ _ ?_
      clear hK K
      try simp only [List.getElem_toArray,List.getElem_cons_zero,List.getElem_cons_succ,Act.put,zsA,zsB,zsC]
      refine' till_late (i := 11) (oi := _) (v := .bool true) rfl (by kernel_rfl) (by kernel_rfl) (Or.inl ⟨by first | (go_simp;done) | rfl,fun X _ => by go_simp⟩) ?_
      try simp only [List.getElem_toArray,List.getElem_cons_zero,List.getElem_cons_succ,Act.put,zsA,zsB,zsC]
      refine till_done (by kernel_rfl) ?_ _
      go_simp
      go_wp2_with fail
      go_meet
      exact ⟨_,ya,yl,yc,rfl,hbp,Bel.st bel (p := ⟨_,0,none⟩) (by simp only [];omega) _,Row.far rR (p := ⟨_,0,none⟩) (by simp only [];omega) _,Row.set rp 0 _,Rd.setNe hy cp9 (fun _ h => by cases h) _⟩
     ·skip
      go_simp
      obtain ⟨x4_9,hx4_9⟩ : ∃ X,X = x3_4.alloc (.cells #[.slice none 0 0] 30) := ⟨_,rfl⟩
      have bx4_9 : Below x3_4.heap.size x3_4 x4_9 := by rw [hx4_9];exact Bel.al (Below.refl _ _) _
      have rp : Row x4_9 x3_4.heap.size 30 [.slice none 0 0] := by rw [hx4_9];exact Row.newOf _ rfl
      have hbp : w.heap.size + 1 + 1 < x3_4.heap.size := rR.lt
      rw [← hx4_9]
      clear hx4_9
      replace ha := Rd.below ha bx4_9
      replace hb := Rd.below hb bx4_9
      replace ra := Row.keep ra bx4_9
      replace rb := Row.keep rb bx4_9
      replace bel := Bel.to bel bx4_9
      replace rR := Row.keep rR bx4_9
      replace hu := Rd.below hu bx4_9
      replace hv := Rd.below hv bx4_9
      replace hz := Rd.below hz bx4_9
      refine hK.out _ _ ⟨Bel.cellOf bx4_9 hHeld.1,Bel.cellOf bx4_9 hHeld.2⟩ (fun hHeld => ?_)
      clear hK K bx4_9
      try simp only [List.getElem_toArray,List.getElem_cons_zero,List.getElem_cons_succ,Act.put,zsA,zsB,zsC]
      refine till_ready (rs := [5]) (by kernel_rfl) (by simp) ?_
      refine TillReady.cons (o := _) rfl (fun K hK => ?_) TillReady.nil
      go_simp
      refine (whole_ok _ (m - n) x4_9 hz dz.out).mono ?_
      rintro e x5_5 ⟨y,rfl,hy,bx5_5⟩
      obtain ⟨ya,yl,yc,rfl⟩ := Rd.shape hy
      replace ha := Rd.below ha bx5_5
      replace hb := Rd.below hb bx5_5
      replace ra := Row.keep ra bx5_5
      replace rb := Row.keep rb bx5_5
      replace bel := Bel.to bel bx5_5
      replace rR := Row.keep rR bx5_5
      replace hu := Rd.below hu bx5_5
      replace hv := Rd.below hv bx5_5
      replace rp := Row.keep rp bx5_5
      clear hz
      go_wp2_with fail
      refine hK.out _ _ ⟨Bel.cellOf bx5_5 hHeld.1,Bel.cellOf bx5_5 hHeld.2⟩ (fun hHeld => ?_)
      clear hK K bx5_5
      try simp only [List.getElem_toArray,List.getElem_cons_zero,List.getElem_cons_succ,Act.put,zsA,zsB,zsC]
      refine' till_pure (i := 6) (oi := _) (v := .tuple #[.agg #[.slice ya yl yc],.bool true]) rfl (by kernel_rfl) (by kernel_rfl) (by kernel_rfl) (by kernel_rfl) (fun _ _ _ h => h) (Or.inl ⟨by first | (go_simp;done) | rfl,fun X _ => by go_simp⟩) hHeld ?_
      try simp only [List.getElem_toArray,List.getElem_cons_zero,List.getElem_cons_succ,Act.put,zsA,zsB,zsC]
      refine' till_pure (i := 7) (oi := _) (v := .agg #[.slice ya yl yc]) rfl (by kernel_rfl) (by kernel_rfl) (by kernel_rfl) (by kernel_rfl) (fun _ _ _ h => h) (Or.inl ⟨by first | (go_simp;done) | rfl,fun X _ => by go_simp⟩) hHeld ?_
      try simp only [List.getElem_toArray,List.getElem_cons_zero,List.getElem_cons_succ,Act.put,zsA,zsB,zsC]
      refine' till_pure (i := 8) (oi := _) (v := .bool true) rfl (by kernel_rfl) (by kernel_rfl) (by kernel_rfl) (by kernel_rfl) (fun _ _ _ h => h) (Or.inl ⟨by first | (go_simp;done) | rfl,fun X _ => by go_simp⟩) hHeld ?_
      try simp only [List.getElem_toArray,List.getElem_cons_zero,List.getElem_cons_succ,Act.put,zsA,zsB,zsC]
      have cp9 := rp.cell? 0
      have fp9 := rp.frozen 0
      simp only [List.getElem?_cons_zero] at cp9
      refine till_ready (rs := [10]) (by kernel_rfl) (by simp) ?_
      refine TillReady.last (o := _) rfl (by kernel_rfl) (fun K hK => ?_) TillReady.nil
      go_simp
      refine hK.out _ _ ?_
      clear hK K
      try simp only [List.getElem_toArray,List.getElem_cons_zero,List.getElem_cons_succ,Act.put,zsA,zsB,zsC]
      refine' till_late (i := 11) (oi := _) (v := .bool true) rfl (by kernel_rfl) (by kernel_rfl) (Or.inl ⟨by first | (go_simp;done) | rfl,fun X _ => by go_simp⟩) ?_
      try simp only [List.getElem_toArray,List.getElem_cons_zero,List.getElem_cons_succ,Act.put,zsA,zsB,zsC]
      refine till_done (by kernel_rfl) ?_ _
      go_simp
      go_wp2_with fail
      go_meet
      exact ⟨_,ya,yl,yc,rfl,hbp,Bel.st bel (p := ⟨_,0,none⟩) (by simp only [];omega) _,Row.far rR (p := ⟨_,0,none⟩) (by simp only [];omega) _,Row.set rp 0 _,Rd.setNe hy cp9 (fun _ h => by cases h) _⟩
    ·skip
     go_simp
     obtain ⟨x3_9,hx3_9⟩ : ∃ X,X = x2_3.alloc (.cells #[.slice none 0 0] 30) := ⟨_,rfl⟩
     have bx3_9 : Below x2_3.heap.size x2_3 x3_9 := by rw [hx3_9];exact Bel.al (Below.refl _ _) _
     have rp : Row x3_9 x2_3.heap.size 30 [.slice none 0 0] := by rw [hx3_9];exact Row.newOf _ rfl
     have hbp : w.heap.size + 1 + 1 < x2_3.heap.size := rR.lt
     rw [← hx3_9]
     clear hx3_9
     replace ha := Rd.below ha bx3_9
     replace hb := Rd.below hb bx3_9
     replace ra := Row.keep ra bx3_9
     replace rb := Row.keep rb bx3_9
     replace bel := Bel.to bel bx3_9
     replace rR := Row.keep rR bx3_9
     replace hu := Rd.below hu bx3_9
     replace hv := Rd.below hv bx3_9
     refine hK.out _ _ ⟨Bel.cellOf bx3_9 hHeld.1,Bel.cellOf bx3_9 hHeld.2⟩ (fun hHeld => ?_)
     clear hK K bx3_9
     try simp only [List.getElem_toArray,List.getElem_cons_zero,List.getElem_cons_succ,Act.put,zsA,zsB,zsC]
     refine till_ready (rs := [4]) (by kernel_rfl) (by simp) ?_
     refine TillReady.cons (o := _) rfl (fun K hK => ?_) TillReady.nil
     go_simp
     refine (rsub _ _ m n x3_9 hu hv hmn (by have := dm.out;omega)).mono ?_
     rintro e x4_4 ⟨z,rfl,hz,bx4_4,-⟩
     replace ha := Rd.below ha bx4_4
     replace hb := Rd.below hb bx4_4
     replace ra := Row.keep ra bx4_4
     replace rb := Row.keep rb bx4_4
     replace bel := Bel.to bel bx4_4
     replace rR := Row.keep rR bx4_4
     replace hu := Rd.below hu bx4_4
     replace hv := Rd.below hv bx4_4
     replace rp := Row.keep rp bx4_4
     go_wp2_with fail
     refine hK.out _ _ ⟨Bel.cellOf bx4_4 hHeld.1,Bel.cellOf bx4_4 hHeld.2⟩ (fun hHeld => ?_)
     clear hK K bx4_4
     try simp only [List.getElem_toArray,List.getElem_cons_zero,List.getElem_cons_succ,Act.put,zsA,zsB,zsC]
     refine till_ready (rs := [5]) (by kernel_rfl) (by simp) ?_
     refine TillReady.cons (o := _) rfl (fun K hK => ?_) TillReady.nil
     go_simp
     refine (whole_ok _ (m - n) x4_4 hz dz.out).mono ?_
     rintro e x5_5 ⟨y,rfl,hy,bx5_5⟩
     obtain ⟨ya,yl,yc,rfl⟩ := Rd.shape hy
     replace ha := Rd.below ha bx5_5
     replace hb := Rd.below hb bx5_5
     replace ra := Row.keep ra bx5_5
     replace rb := Row.keep rb bx5_5
     replace bel := Bel.to bel bx5_5
     replace rR := Row.keep rR bx5_5
     replace hu := Rd.below hu bx5_5
     replace hv := Rd.below hv bx5_5
     replace rp := Row.keep rp bx5_5
     clear hz
     go_wp2_with fail
     refine hK.out _ _ ⟨Bel.cellOf bx5_5 hHeld.1,Bel.cellOf bx5_5 hHeld.2⟩ (fun hHeld => ?_)
     clear hK K bx5_5
     try simp only [List.getElem_toArray,List.getElem_cons_zero,List.getElem_cons_succ,Act.put,zsA,zsB,zsC]
     refine' till_pure (i := 6) (oi := _) (v := .tuple #[.agg #[.slice ya yl yc],.bool true]) rfl (by kernel_rfl) (by kernel_rfl) (by kernel_rfl) (by kernel_rfl) (fun _ _ _ h => h) (Or.inl ⟨by first | (go_simp;done) | rfl,fun X _ => by go_simp⟩) hHeld ?_
     try simp only [List.getElem_toArray,List.getElem_cons_zero,List.getElem_cons_succ,Act.put,zsA,zsB,zsC]
     refine' till_pure (i := 7) (oi := _) (v := .agg #[.slice ya yl yc]) rfl (by kernel_rfl) (by kernel_rfl) (by kernel_rfl) (by kernel_rfl) (fun _ _ _ h => h) (Or.inl ⟨by first | (go_simp;done) | rfl,fun X _ => by go_simp⟩) hHeld ?_
     try simp only [List.getElem_toArray,List.getElem_cons_zero,List.getElem_cons_succ,Act.put,zsA,zsB,zsC]
     refine' till_pure (i := 8) (oi := _) (v := .bool true) rfl (by kernel_rfl) (by kernel_rfl) (by kernel_rfl) (by kernel_rfl) (fun _ _ _ h => h) (Or.inl ⟨by first | (go_simp;done) | rfl,fun X _ => by go_simp⟩) hHeld ?_
     try simp only [List.getElem_toArray,List.getElem_cons_zero,List.getElem_cons_succ,Act.put,zsA,zsB,zsC]
     have cp9 := rp.cell? 0
     have fp9 := rp.frozen 0
     simp only [List.getElem?_cons_zero] at cp9
     refine till_ready (rs := [10]) (by kernel_rfl) (by simp) ?_
     refine TillReady.last (o := _) rfl (by kernel_rfl) (fun K hK => ?_) TillReady.nil
     go_simp
     refine hK.out _ _ ?_
     clear hK K
     try simp only [List.getElem_toArray,List.getElem_cons_zero,List.getElem_cons_succ,Act.put,zsA,zsB,zsC]
     refine' till_late (i := 11) (oi := _) (v := .bool true) rfl (by kernel_rfl) (by kernel_rfl) (Or.inl ⟨by first | (go_simp;done) | rfl,fun X _ => by go_simp⟩) ?_
     try simp only [List.getElem_toArray,List.getElem_cons_zero,List.getElem_cons_succ,Act.put,zsA,zsB,zsC]
     refine till_done (by kernel_rfl) ?_ _
     go_simp
     go_wp2_with fail
     go_meet
     exact ⟨_,ya,yl,yc,rfl,hbp,Bel.st bel (p := ⟨_,0,none⟩) (by simp only [];omega) _,Row.far rR (p := ⟨_,0,none⟩) (by simp only [];omega) _,Row.set rp 0 _,Rd.setNe hy cp9 (fun _ h => by cases h) _⟩
   ·skip
    go_simp
    obtain ⟨x2_9,hx2_9⟩ : ∃ X,X = x1_1.alloc (.cells #[.slice none 0 0] 30) := ⟨_,rfl⟩
    have bx2_9 : Below x1_1.heap.size x1_1 x2_9 := by rw [hx2_9];exact Bel.al (Below.refl _ _) _
    have rp : Row x2_9 x1_1.heap.size 30 [.slice none 0 0] := by rw [hx2_9];exact Row.newOf _ rfl
    have hbp : w.heap.size + 1 + 1 < x1_1.heap.size := rR.lt
    rw [← hx2_9]
    clear hx2_9
    replace ha := Rd.below ha bx2_9
    replace hb := Rd.below hb bx2_9
    replace ra := Row.keep ra bx2_9
    replace rb := Row.keep rb bx2_9
    replace bel := Bel.to bel bx2_9
    replace rR := Row.keep rR bx2_9
    replace hu := Rd.below hu bx2_9
    refine hK.out _ _ ⟨Bel.cellOf bx2_9 hHeld.1,Bel.cellOf bx2_9 hHeld.2⟩ (fun hHeld => ?_)
    clear hK K bx2_9
    try simp only [List.getElem_toArray,List.getElem_cons_zero,List.getElem_cons_succ,Act.put,zsA,zsB,zsC]
    refine till_ready (rs := [3]) (by kernel_rfl) (by simp) ?_
    refine TillReady.cons (o := _) rfl (fun K hK => ?_) TillReady.nil
    go_simp
    refine (halves _ n x2_9 hb (by omega)).mono ?_
    rintro e x3_3 ⟨v,rfl,hv,bx3_3,-⟩
    replace ha := Rd.below ha bx3_3
    replace hb := Rd.below hb bx3_3
    replace ra := Row.keep ra bx3_3
    replace rb := Row.keep rb bx3_3
    replace bel := Bel.to bel bx3_3
    replace rR := Row.keep rR bx3_3
    replace hu := Rd.below hu bx3_3
    replace rp := Row.keep rp bx3_3
    go_wp2_with fail
    refine hK.out _ _ ⟨Bel.cellOf bx3_3 hHeld.1,Bel.cellOf bx3_3 hHeld.2⟩ (fun hHeld => ?_)
    clear hK K bx3_3
    try simp only [List.getElem_toArray,List.getElem_cons_zero,List.getElem_cons_succ,Act.put,zsA,zsB,zsC]
    refine till_ready (rs := [4]) (by kernel_rfl) (by simp) ?_
    refine TillReady.cons (o := _) rfl (fun K hK => ?_) TillReady.nil
    go_simp
    refine (rsub _ _ m n x3_3 hu hv hmn (by have := dm.out;omega)).mono ?_
    rintro e x4_4 ⟨z,rfl,hz,bx4_4,-⟩
    replace ha := Rd.below ha bx4_4
    replace hb := Rd.below hb bx4_4
    replace ra := Row.keep ra bx4_4
    replace rb := Row.keep rb bx4_4
    replace bel := Bel.to bel bx4_4
    replace rR := Row.keep rR bx4_4
    replace hu := Rd.below hu bx4_4
    replace rp := Row.keep rp bx4_4
    replace hv := Rd.below hv bx4_4
    go_wp2_with fail
    refine hK.out _ _ ⟨Bel.cellOf bx4_4 hHeld.1,Bel.cellOf bx4_4 hHeld.2⟩ (fun hHeld => ?_)
    clear hK K bx4_4
    try simp only [List.getElem_toArray,List.getElem_cons_zero,List.getElem_cons_succ,Act.put,zsA,zsB,zsC]
    refine till_ready (rs := [5]) (by kernel_rfl) (by simp) ?_
    refine TillReady.cons (o := _) rfl (fun K hK => ?_) TillReady.nil
    go_simp
    refine (whole_ok _ (m - n) x4_4 hz dz.out).mono ?_
    rintro e x5_5 ⟨y,rfl,hy,bx5_5⟩
    obtain ⟨ya,yl,yc,rfl⟩ := Rd.shape hy
    replace ha := Rd.below ha bx5_5
    replace hb := Rd.below hb bx5_5
    replace ra := Row.keep ra bx5_5
    replace rb := Row.keep rb bx5_5
    replace bel := Bel.to bel bx5_5
    replace rR := Row.keep rR bx5_5
    replace hu := Rd.below hu bx5_5
    replace rp := Row.keep rp bx5_5
    replace hv := Rd.below hv bx5_5
    clear hz
    go_wp2_with fail
    refine hK.out _ _ ⟨Bel.cellOf bx5_5 hHeld.1,Bel.cellOf bx5_5 hHeld.2⟩ (fun hHeld => ?_)
    clear hK K bx5_5
    try simp only [List.getElem_toArray,List.getElem_cons_zero,List.getElem_cons_succ,Act.put,zsA,zsB,zsC]
    refine' till_pure (i := 6) (oi := _) (v := .tuple #[.agg #[.slice ya yl yc],.bool true]) rfl (by kernel_rfl) (by kernel_rfl) (by kernel_rfl) (by kernel_rfl) (fun _ _ _ h => h) (Or.inl ⟨by first | (go_simp;done) | rfl,fun X _ => by go_simp⟩) hHeld ?_
    try simp only [List.getElem_toArray,List.getElem_cons_zero,List.getElem_cons_succ,Act.put,zsA,zsB,zsC]
    refine' till_pure (i := 7) (oi := _) (v := .agg #[.slice ya yl yc]) rfl (by kernel_rfl) (by kernel_rfl) (by kernel_rfl) (by kernel_rfl) (fun _ _ _ h => h) (Or.inl ⟨by first | (go_simp;done) | rfl,fun X _ => by go_simp⟩) hHeld ?_
    try simp only [List.getElem_toArray,List.getElem_cons_zero,List.getElem_cons_succ,Act.put,zsA,zsB,zsC]
    refine' till_pure (i := 8) (oi := _) (v := .bool true) rfl (by kernel_rfl) (by kernel_rfl) (by kernel_rfl) (by kernel_rfl) (fun _ _ _ h => h) (Or.inl ⟨by first | (go_simp;done) | rfl,fun X _ => by go_simp⟩) hHeld ?_
    try simp only [List.getElem_toArray,List.getElem_cons_zero,List.getElem_cons_succ,Act.put,zsA,zsB,zsC]
    have cp9 := rp.cell? 0
    have fp9 := rp.frozen 0
    simp only [List.getElem?_cons_zero] at cp9
    refine till_ready (rs := [10]) (by kernel_rfl) (by simp) ?_
    refine TillReady.last (o := _) rfl (by kernel_rfl) (fun K hK => ?_) TillReady.nil
    go_simp
    refine hK.out _ _ ?_
    clear hK K
    try simp only [List.getElem_toArray,List.getElem_cons_zero,List.getElem_cons_succ,Act.put,zsA,zsB,zsC]
    refine' till_late (i := 11) (oi := _) (v := .bool true) rfl (by kernel_rfl) (by kernel_rfl) (Or.inl ⟨by first | (go_simp;done) | rfl,fun X _ => by go_simp⟩) ?_
    try simp only [List.getElem_toArray,List.getElem_cons_zero,List.getElem_cons_succ,Act.put,zsA,zsB,zsC]
    refine till_done (by kernel_rfl) ?_ _
    go_simp
    go_wp2_with fail
    go_meet
    exact ⟨_,ya,yl,yc,rfl,hbp,Bel.st bel (p := ⟨_,0,none⟩) (by simp only [];omega) _,Row.far rR (p := ⟨_,0,none⟩) (by simp only [];omega) _,Row.set rp 0 _,Rd.setNe hy cp9 (fun _ h => by cases h) _⟩
  ·skip
   go_simp
   obtain ⟨x1_9,hx1_9⟩ : ∃ X,X = Y0.alloc (.cells #[.slice none 0 0] 30) := ⟨_,rfl⟩
   have bx1_9 : Below Y0.heap.size Y0 x1_9 := by rw [hx1_9];exact Bel.al (Below.refl _ _) _
   have rp : Row x1_9 Y0.heap.size 30 [.slice none 0 0] := by rw [hx1_9];exact Row.newOf _ rfl
   have hbp : w.heap.size + 1 + 1 < Y0.heap.size := rR.lt
   rw [← hx1_9]
   clear hx1_9
   replace ha := Rd.below ha bx1_9
   replace hb := Rd.below hb bx1_9
   replace ra := Row.keep ra bx1_9
   replace rb := Row.keep rb bx1_9
   replace bel := Bel.to bel bx1_9
   replace rR := Row.keep rR bx1_9
   refine hK.out _ _ ⟨Bel.cellOf bx1_9 hHeld.1,Bel.cellOf bx1_9 hHeld.2⟩ (fun hHeld => ?_)
   clear hK K bx1_9
   try simp only [List.getElem_toArray,List.getElem_cons_zero,List.getElem_cons_succ,Act.put,zsA,zsB,zsC]
   refine till_ready (rs := [1]) (by kernel_rfl) (by simp) ?_
   refine TillReady.cons (o := _) rfl (fun K hK => ?_) TillReady.nil
   go_simp
   refine (halves _ m x1_9 ha (by omega)).mono ?_
   rintro e x2_1 ⟨u,rfl,hu,bx2_1,-⟩
   replace ha := Rd.below ha bx2_1
   replace hb := Rd.below hb bx2_1
   replace ra := Row.keep ra bx2_1
   replace rb := Row.keep rb bx2_1
   replace bel := Bel.to bel bx2_1
   replace rR := Row.keep rR bx2_1
   replace rp := Row.keep rp bx2_1
   go_wp2_with fail
   refine hK.out _ _ ⟨Bel.cellOf bx2_1 hHeld.1,Bel.cellOf bx2_1 hHeld.2⟩ (fun hHeld => ?_)
   clear hK K bx2_1
   try simp only [List.getElem_toArray,List.getElem_cons_zero,List.getElem_cons_succ,Act.put,zsA,zsB,zsC]
   refine till_ready (rs := [3]) (by kernel_rfl) (by simp) ?_
   refine TillReady.cons (o := _) rfl (fun K hK => ?_) TillReady.nil
   go_simp
   refine (halves _ n x2_1 hb (by omega)).mono ?_
   rintro e x3_3 ⟨v,rfl,hv,bx3_3,-⟩
   replace ha := Rd.below ha bx3_3
   replace hb := Rd.below hb bx3_3
   replace ra := Row.keep ra bx3_3
   replace rb := Row.keep rb bx3_3
   replace bel := Bel.to bel bx3_3
   replace rR := Row.keep rR bx3_3
   replace rp := Row.keep rp bx3_3
   replace hu := Rd.below hu bx3_3
   go_wp2_with fail
   refine hK.out _ _ ⟨Bel.cellOf bx3_3 hHeld.1,Bel.cellOf bx3_3 hHeld.2⟩ (fun hHeld => ?_)
   clear hK K bx3_3
   try simp only [List.getElem_toArray,List.getElem_cons_zero,List.getElem_cons_succ,Act.put,zsA,zsB,zsC]
   refine till_ready (rs := [4]) (by kernel_rfl) (by simp) ?_
   refine TillReady.cons (o := _) rfl (fun K hK => ?_) TillReady.nil
   go_simp
   refine (rsub _ _ m n x3_3 hu hv hmn (by have := dm.out;omega)).mono ?_
   rintro e x4_4 ⟨z,rfl,hz,bx4_4,-⟩
   replace ha := Rd.below ha bx4_4
   replace hb := Rd.below hb bx4_4
   replace ra := Row.keep ra bx4_4
   replace rb := Row.keep rb bx4_4
   replace bel := Bel.to bel bx4_4
   replace rR := Row.keep rR bx4_4
   replace rp := Row.keep rp bx4_4
   replace hu := Rd.below hu bx4_4
   replace hv := Rd.below hv bx4_4
   go_wp2_with fail
   refine hK.out _ _ ⟨Bel.cellOf bx4_4 hHeld.1,Bel.cellOf bx4_4 hHeld.2⟩ (fun hHeld => ?_)
   clear hK K bx4_4
   try simp only [List.getElem_toArray,List.getElem_cons_zero,List.getElem_cons_succ,Act.put,zsA,zsB,zsC]
   refine till_ready (rs := [5]) (by kernel_rfl) (by simp) ?_
   refine TillReady.cons (o := _) rfl (fun K hK => ?_) TillReady.nil
   go_simp
   refine (whole_ok _ (m - n) x4_4 hz dz.out).mono ?_
   rintro e x5_5 ⟨y,rfl,hy,bx5_5⟩
   obtain ⟨ya,yl,yc,rfl⟩ := Rd.shape hy
   replace ha := Rd.below ha bx5_5
   replace hb := Rd.below hb bx5_5
   replace ra := Row.keep ra bx5_5
   replace rb := Row.keep rb bx5_5
   replace bel := Bel.to bel bx5_5
   replace rR := Row.keep rR bx5_5
   replace rp := Row.keep rp bx5_5
   replace hu := Rd.below hu bx5_5
   replace hv := Rd.below hv bx5_5
   clear hz
   go_wp2_with fail
   refine hK.out _ _ ⟨Bel.cellOf bx5_5 hHeld.1,Bel.cellOf bx5_5 hHeld.2⟩ (fun hHeld => ?_)
   clear hK K bx5_5
   try simp only [List.getElem_toArray,List.getElem_cons_zero,List.getElem_cons_succ,Act.put,zsA,zsB,zsC]
   refine' till_pure (i := 6) (oi := _) (v := .tuple #[.agg #[.slice ya yl yc],.bool true]) rfl (by kernel_rfl) (by kernel_rfl) (by kernel_rfl) (by kernel_rfl) (fun _ _ _ h => h) (Or.inl ⟨by first | (go_simp;done) | rfl,fun X _ => by go_simp⟩) hHeld ?_
   try simp only [List.getElem_toArray,List.getElem_cons_zero,List.getElem_cons_succ,Act.put,zsA,zsB,zsC]
   refine' till_pure (i := 7) (oi := _) (v := .agg #[.slice ya yl yc]) rfl (by kernel_rfl) (by kernel_rfl) (by kernel_rfl) (by kernel_rfl) (fun _ _ _ h => h) (Or.inl ⟨by first | (go_simp;done) | rfl,fun X _ => by go_simp⟩) hHeld ?_
   try simp only [List.getElem_toArray,List.getElem_cons_zero,List.getElem_cons_succ,Act.put,zsA,zsB,zsC]
   refine' till_pure (i := 8) (oi := _) (v := .bool true) rfl (by kernel_rfl) (by kernel_rfl) (by kernel_rfl) (by kernel_rfl) (fun _ _ _ h => h) (Or.inl ⟨by first | (go_simp;done) | rfl,fun X _ => by go_simp⟩) hHeld ?_
   try simp only [List.getElem_toArray,List.getElem_cons_zero,List.getElem_cons_succ,Act.put,zsA,zsB,zsC]
   have cp9 := rp.cell? 0
   have fp9 := rp.frozen 0
   simp only [List.getElem?_cons_zero] at cp9
   refine till_ready (rs := [10]) (by kernel_rfl) (by simp) ?_
   refine TillReady.last (o := _) rfl (by kernel_rfl) (fun K hK => ?_) TillReady.nil
   go_simp
   refine hK.out _ _ ?_
   clear hK K
   try simp only [List.getElem_toArray,List.getElem_cons_zero,List.getElem_cons_succ,Act.put,zsA,zsB,zsC]
   refine' till_late (i := 11) (oi := _) (v := .bool true) rfl (by kernel_rfl) (by kernel_rfl) (Or.inl ⟨by first | (go_simp;done) | rfl,fun X _ => by go_simp⟩) ?_
   try simp only [List.getElem_toArray,List.getElem_cons_zero,List.getElem_cons_succ,Act.put,zsA,zsB,zsC]
   refine till_done (by kernel_rfl) ?_ _
   go_simp
   go_wp2_with fail
   go_meet
   exact ⟨_,ya,yl,yc,rfl,hbp,Bel.st bel (p := ⟨_,0,none⟩) (by simp only [];omega) _,Row.far rR (p := ⟨_,0,none⟩) (by simp only [];omega) _,Row.set rp 0 _,Rd.setNe hy cp9 (fun _ h => by cases h) _⟩
 case rest =>
  clear ha hb ra rb rR bel ca cb
  obtain ⟨pb,ya,yl,yc,rfl,hpb,bel,rR,rp,hy⟩ := hcut
  have cp := rp.cell? 0
  have cR := rR.cell? 0
  have fR := rR.frozen 0
  simp only [List.getElem?_cons_zero] at cp cR
  have hf := Rd.setNe hy cR (fun _ h => by cases h) (.slice ya yl yc)
  have belf := Bel.st bel (p := ⟨w.heap.size + 1 + 1,0,none⟩) (by simp only [];omega) (.slice ya yl yc)
  go_wp2
  exact bodyPost_ret (v := .tuple #[.agg #[(.slice ya yl yc)],.int .i64 0]) (by simp [results,Tryz.results104,go_sem,cR]) rfl ⟨_,rfl,hf,belf⟩
end Go.Proofs.YtldikghldcefcaaGreat
end
section
set_option linter.unusedVariables false
set_option linter.unusedSimpArgs false
namespace Go.Proofs.YtldikghldcefcaaGreat
open Go.RowKit
set_option maxHeartbeats 4000000 in
set_option maxRecDepth 100000 in
theorem rprod_any (v : Value) (ps : List NatM) (w : World) (h : NatsR w v ps) (hl : limS (ps.map (·.2)) ≤ 63) (hn : ps.length ≤ 1000) :
  Calls Tryz.prog 42 #[v] w (SomeNat (prodL (ps.map (·.2))) w) := by
 obtain ⟨aa,ca,rfl,hlc,hcm⟩ := RdS.shape h.1
 have hR0 : Row (w.alloc (.cells #[.slice none 0 0] 30)) w.heap.size 30 [.slice none 0 0] := Row.newOf _ rfl
 have hh := hide h
 obtain ⟨n,hnn⟩ : ∃ n,n = ps.length := ⟨_,rfl⟩
 rw [← hnn] at hn ⊢
 have hnn2 := hide hnn
 clear h hlc hcm hnn
 go_enter Tryz.func42,Tryz.ntmps42
 go_wp2_with fail
 refine (ref_of_int 1 _ (by omega) (by omega)).mono ?_
 rintro e w1 ⟨u,rfl,hu,hb1⟩
 obtain ⟨ua,ul,uc,rfl⟩ := Rd.shape hu
 have rR := Row.keep hR0 hb1
 have bel := Bel.one _ hb1
 clear hR0 hb1
 go_upto_region 2 with (fail)
 obtain ⟨b4,hb4⟩ : ∃ b4,b4 = w1.heap.size := ⟨_,rfl⟩
 obtain ⟨w2,hw2⟩ : ∃ X,X = w1.alloc (.cells #[.slice ua ul uc] 30) := ⟨_,rfl⟩
 have b2 : Below w1.heap.size w1 w2 := by rw [hw2];exact Bel.al (Below.refl _ _) _
 have rP : Row w2 b4 30 [.slice ua ul uc] := by rw [hw2,hb4];exact Row.newOf _ rfl
 have h40 : w.heap.size < b4 := by have := rR.lt;omega
 rw [← hw2,← hb4]
 clear hw2 hb4
 replace rR := Row.keep rR b2
 replace bel := Bel.to bel b2
 replace hu := Rd.below hu b2
 clear b2
 go_wp2
 go_loopw [4] (fun ti wr => ∃ (i : Nat) (pa : Option Addr) (pn pc : Nat),i ≤ n ∧ ti = .int .i64 (i : Int) ∧ Row wr b4 30 [.slice pa pn pc] ∧ NV wr (.slice pa pn pc) (prodL ((ps.map (·.2)).take i)) ∧ Row wr w.heap.size 30 [.slice none 0 0] ∧ Below w.heap.size w wr) (fun ti _ => n - (intOf ti).toNat)
 case atStart => exact ⟨0,ua,ul,uc,Nat.zero_le _,rfl,rP,hu,rR,bel⟩
 case round =>
  clear rP hu rR bel
  obtain ⟨i,pa,pn,pc,hi,rfl,rP,hp,rR,bel⟩ := hrel
  have c4 := rP.cell? 0
  simp only [List.getElem?_cons_zero] at c4
  by_cases hin : i < n
  ·have hil : i < ps.length := by have := hnn2.out;omega
   obtain ⟨b,off,rfl,hbb,hcell⟩ := hh.out.1.at_ hil
   obtain ⟨m,hm⟩ : ∃ m,m = ps[i] := ⟨_,rfl⟩
   have hmi : ps[i]? = some m := by rw [hm];exact List.getElem?_eq_getElem hil
   have hmem : m ∈ ps := by rw [hm];exact List.getElem_mem _
   have e1 : wr.cell? ⟨b,off + i,none⟩ = some m.1 := by
    have h1 := hcell i m hmi 0 m.1 rfl
    rw [Nat.mul_one,Nat.add_zero] at h1
    exact Bel.cellOf bel h1
   have hmv := Rd.below (hh.out.2 m hmem) bel
   have hml : (limbs m.2).length ≤ 64 := by have := limS_mem (List.mem_map_of_mem (f := (·.2)) hmem);omega
   have hpl : (limbs (prodL ((ps.map (·.2)).take i))).length ≤ 64 := by have := limS_pre (ps.map (·.2)) i;omega
   have hpl2 := limS_pre (ps.map (·.2)) (i + 1)
   have hst : Hid (prodL ((ps.map (·.2)).take (i + 1)) = prodL ((ps.map (·.2)).take i) * m.2) := by
    show _ = _
    rw [prodL_take _ _ (by rw [List.length_map];exact hil),List.getElem_map,hm]
   have hpd : (digs (prodL ((ps.map (·.2)).take i) * m.2)).length ≤ 128 := by rw [← hst.out];exact digs_limbs_len (k := 64) (by omega)
   obtain ⟨q,hq⟩ : ∃ q,q = prodL ((ps.map (·.2)).take i) := ⟨_,rfl⟩
   rw [← hq] at hp hpl hst hpd
   clear hq hcell hmi hmem hm hpl2
   obtain ⟨mv,mn⟩ := m
   simp only [] at e1 hmv hml hst hpd
   obtain ⟨ma,ml,mc,rfl⟩ := Rd.shape hmv
   have i2 : (i : Int) < (n : Int) := by omega
   have i3 : (n : Int) ≤ 1000 := by omega
   have i0 : (0 : Int) ≤ (i : Int) := by omega
   go_wp2
   refine till_begin 9 (fun X => X.cell? ⟨b4,0,none⟩ = some (.slice pa pn pc) ∧ X.cell? ⟨b,off + i,none⟩ = some (.slice ma ml mc)) (by kernel_rfl) (⟨c4,e1⟩) (fun hHeld => ?_)
   refine' till_take (i := 0) (oi := _) (v := .agg #[.slice pa pn pc]) rfl (by kernel_rfl) (by kernel_rfl) (by kernel_rfl) (by kernel_rfl) (fun _ _ _ h => h) (Or.inl ⟨by first | (go_simp;done) | rfl,fun X hX => by have h0 := hX.1;go_simp⟩) hHeld ?_
   try simp only [Act.put,zsA,zsB,zsC]
   refine' till_pure (i := 1) (oi := _) (v := .slice (some ⟨b,off,none⟩) n ca) rfl (by kernel_rfl) (by kernel_rfl) (by kernel_rfl) (by kernel_rfl) (fun _ _ _ h => h) (Or.inl ⟨by first | (go_simp;done) | rfl,fun X _ => by go_simp⟩) hHeld ?_
   try simp only [Act.put,zsA,zsB,zsC]
   refine' till_pure (i := 2) (oi := _) (v := .int .i64 (i : Int)) rfl (by kernel_rfl) (by kernel_rfl) (by kernel_rfl) (by kernel_rfl) (fun _ _ _ h => h) (Or.inl ⟨by first | (go_simp;done) | rfl,fun X _ => by go_simp⟩) hHeld ?_
   try simp only [Act.put,zsA,zsB,zsC]
   refine' till_pure (i := 3) (oi := _) (v := .pointer (some ⟨b,(off + i),none⟩)) rfl (by kernel_rfl) (by kernel_rfl) (by kernel_rfl) (by kernel_rfl) (fun _ _ _ h => h) (Or.inl ⟨by first | (go_simp;done) | rfl,fun X _ => by go_simp⟩) hHeld ?_
   try simp only [Act.put,zsA,zsB,zsC]
   refine' till_take (i := 4) (oi := _) (v := .agg #[.slice ma ml mc]) rfl (by kernel_rfl) (by kernel_rfl) (by kernel_rfl) (by kernel_rfl) (fun _ _ _ h => h) (Or.inl ⟨by first | (go_simp;done) | rfl,fun X hX => by have h0 := hX.2;go_simp⟩) hHeld ?_
   try simp only [Act.put,zsA,zsB,zsC]
   obtain ⟨Y0,hY0⟩ : ∃ Y,Y = wr.drew := ⟨_,rfl⟩
   have hY1 : Below wr.heap.size wr Y0 := by rw [hY0];exact Below.drew (Below.refl _ _)
   replace rP := Row.keep rP hY1
   replace hp := Rd.below hp hY1
   replace rR := Row.keep rR hY1
   replace bel := Bel.to bel hY1
   replace hmv := Rd.below hmv hY1
   rw [← hY0] at hHeld ⊢
   clear hY0 hY1 c4 e1
   have cM := hide (rmul_nat _ _ q mn Y0 hp hmv hpl hml hpd)
   rw [← hst.out] at cM
   refine till_ready (rs := [5]) (by kernel_rfl) (by simp) ?_
   refine TillReady.cons (o := _) rfl (fun K hK => ?_) TillReady.nil
   go_simp
   refine (cM.out).mono ?_
   rintro e w22 ⟨u,rfl,hu,hb22⟩
   obtain ⟨ua,ul,uc,rfl⟩ := Rd.shape hu
   replace rP := Row.keep rP hb22
   replace rR := Row.keep rR hb22
   replace bel := Bel.to bel hb22
   go_wp2_with fail
   refine hK.out _ _ (⟨Bel.cellOf hb22 hHeld.1,Bel.cellOf hb22 hHeld.2⟩) (fun hHeld => ?_)
   clear hK K hb22
   try simp only [Act.put,zsA,zsB,zsC]
   clear cM hmv hp
   refine' till_pure (i := 6) (oi := _) (v := .tuple #[.agg #[.slice ua ul uc],.int .i64 0]) rfl (by kernel_rfl) (by kernel_rfl) (by kernel_rfl) (by kernel_rfl) (fun _ _ _ h => h) (Or.inl ⟨by first | (go_simp;done) | rfl,fun X _ => by go_simp⟩) hHeld ?_
   try simp only [Act.put,zsA,zsB,zsC]
   refine' till_pure (i := 7) (oi := _) (v := .agg #[.slice ua ul uc]) rfl (by kernel_rfl) (by kernel_rfl) (by kernel_rfl) (by kernel_rfl) (fun _ _ _ h => h) (Or.inl ⟨by first | (go_simp;done) | rfl,fun X _ => by go_simp⟩) hHeld ?_
   try simp only [Act.put,zsA,zsB,zsC]
   refine' till_pure (i := 8) (oi := _) (v := .int .i64 0) rfl (by kernel_rfl) (by kernel_rfl) (by kernel_rfl) (by kernel_rfl) (fun _ _ _ h => h) (Or.inl ⟨by first | (go_simp;done) | rfl,fun X _ => by go_simp⟩) hHeld ?_
   try simp only [Act.put,zsA,zsB,zsC]
   have cb9 := rP.cell? 0
   have fb9 := rP.frozen 0
   simp only [List.getElem?_cons_zero] at cb9
   refine till_ready (rs := [9]) (by kernel_rfl) (by simp) ?_
   refine TillReady.last (o := _) rfl (by kernel_rfl) (fun K hK => ?_) TillReady.nil
   go_simp
   refine hK.out _ _ ?_
   clear hK K
   try simp only [Act.put,zsA,zsB,zsC]
   refine till_done (by kernel_rfl) ?_ _
   go_simp
   obtain ⟨w23,hw23⟩ : ∃ X,X = w22.setCell ⟨b4,0,none⟩ (.slice ua ul uc) := ⟨_,rfl⟩
   have rP2 : Row w23 b4 30 [.slice ua ul uc] := by rw [hw23];exact Row.set rP 0 _
   have hu2 := Rd.setNe hu cb9 (fun _ h => by cases h) (.slice ua ul uc)
   rw [← hw23] at hu2
   have rR2 := Row.far rR (p := ⟨b4,0,none⟩) (by simp only [];omega) (.slice ua ul uc)
   rw [← hw23] at rR2
   have bel2 := Bel.st bel (p := ⟨b4,0,none⟩) (by simp only [];omega) (.slice ua ul uc)
   rw [← hw23] at bel2
   (try rw [← hw23])
   clear hw23 cb9 fb9 rP hu rR bel
   go_wp2
   go_roundw
   case rel => exact ⟨i + 1,ua,ul,uc,by omega,by go_num,rP2,hu2,rR2,bel2⟩
   case measure => simp [intOf];omega
  ·obtain rfl : i = n := by omega
   rw [List.take_of_length_le (by rw [List.length_map,← hnn2.out];exact Nat.le_refl _)] at hp
   have cR := rR.cell? 0
   have fR := rR.frozen 0
   simp only [List.getElem?_cons_zero] at cR
   have hf := Rd.setNe hp cR (fun _ h => by cases h) (.slice pa pn pc)
   have belf := Bel.st bel (p := ⟨w.heap.size,0,none⟩) (Nat.le_refl _) (.slice pa pn pc)
   go_wp2
   exact bodyPost_ret (v := .agg #[(.slice pa pn pc)]) (by simp [results,Tryz.results42,go_sem,cR]) rfl ⟨_,rfl,hf,belf⟩
set_option maxHeartbeats 4000000 in
set_option maxRecDepth 100000 in
theorem rpow_any (d n : Nat) (w : World) (hd : d < 4294967296) (hn : n ≤ 60) :
  Calls Tryz.prog 69 #[.int .i64 (d : Int),.int .i64 (n : Int)] w (SomeNat (d ^ n) w) := by
 have hR0 : Row (w.alloc (.cells #[.slice none 0 0] 30)) w.heap.size 30 [.slice none 0 0] := Row.newOf _ rfl
 have hl1 : (limbs d).length ≤ 1 := length_limbs_lt.1 (by rw [Nat.pow_one];exact hd)
 have hlp : Hid (∀ i,i ≤ n → (limbs (d ^ i)).length ≤ 61) := by
  intro i hi
  have h1 := limS_prod (List.replicate i d)
  have h2 := limS_le (l := List.replicate i d) (c := 1) (fun x hx => by rw [(List.mem_replicate.1 hx).2];exact hl1)
  rw [List.length_replicate] at h2
  rw [prodL_replicate] at h1
  omega
 go_enter Tryz.func69,Tryz.ntmps69
 go_wp2_with fail
 refine (ref_of_int 1 _ (by omega) (by omega)).mono ?_
 rintro e w1 ⟨u,rfl,hu,hb1⟩
 obtain ⟨ua,ul,uc,rfl⟩ := Rd.shape hu
 have rR := Row.keep hR0 hb1
 have bel := Bel.one _ hb1
 clear hR0 hb1
 go_upto_region 2 with (fail)
 obtain ⟨b4,hb4⟩ : ∃ b4,b4 = w1.heap.size := ⟨_,rfl⟩
 obtain ⟨w2,hw2⟩ : ∃ X,X = w1.alloc (.cells #[.slice ua ul uc] 30) := ⟨_,rfl⟩
 have b2 : Below w1.heap.size w1 w2 := by rw [hw2];exact Bel.al (Below.refl _ _) _
 have rP : Row w2 b4 30 [.slice ua ul uc] := by rw [hw2,hb4];exact Row.newOf _ rfl
 have h40 : w.heap.size < b4 := by have := rR.lt;omega
 rw [← hw2,← hb4]
 clear hw2 hb4
 replace rR := Row.keep rR b2
 replace bel := Bel.to bel b2
 replace hu := Rd.below hu b2
 clear b2
 go_wp2
 go_loopw [6] (fun ti wr => ∃ (i : Nat) (pa : Option Addr) (pn pc : Nat),i ≤ n ∧ ti = .int .i64 (i : Int) ∧ Row wr b4 30 [.slice pa pn pc] ∧ NV wr (.slice pa pn pc) (d ^ i) ∧ Row wr w.heap.size 30 [.slice none 0 0] ∧ Below w.heap.size w wr) (fun ti _ => n - (intOf ti).toNat)
 case atStart => exact ⟨0,ua,ul,uc,Nat.zero_le _,rfl,rP,by rw [Nat.pow_zero];exact hu,rR,bel⟩
 case round =>
  clear rP hu rR bel
  obtain ⟨i,pa,pn,pc,hi,rfl,rP,hp,rR,bel⟩ := hrel
  have c4 := rP.cell? 0
  simp only [List.getElem?_cons_zero] at c4
  by_cases hin : i < n
  ·have hpl : (limbs (d ^ i)).length ≤ 64 := by have := hlp.out i hi;omega
   have hml : (limbs d).length ≤ 64 := by omega
   have hpd : (digs (d ^ i * d)).length ≤ 128 := by
    rw [← Nat.pow_succ]
    exact digs_limbs_len (k := 64) (by have := hlp.out (i + 1) (by omega);exact Nat.le_trans this (by omega))
   have i2 : (i : Int) < (n : Int) := by omega
   have i3 : (n : Int) ≤ 60 := by omega
   have wd : IntKind.u64.wrap (d : Int) = (d : Int) := by rw [IntKind.wrap_u64];omega
   go_wp2
   refine till_begin 8 (fun X => X.cell? ⟨b4,0,none⟩ = some (.slice pa pn pc)) (by kernel_rfl) (c4) (fun hHeld => ?_)
   refine' till_take (i := 0) (oi := _) (v := .agg #[.slice pa pn pc]) rfl (by kernel_rfl) (by kernel_rfl) (by kernel_rfl) (by kernel_rfl) (fun _ _ _ h => h) (Or.inl ⟨by first | (go_simp;done) | rfl,fun X hX => by have h0 := hX;go_simp⟩) hHeld ?_
   try simp only [Act.put,zsA,zsB,zsC]
   refine' till_pure (i := 1) (oi := _) (v := .int .i64 (d : Int)) rfl (by kernel_rfl) (by kernel_rfl) (by kernel_rfl) (by kernel_rfl) (fun _ _ _ h => h) (Or.inl ⟨by first | (go_simp;done) | rfl,fun X _ => by go_simp⟩) hHeld ?_
   try simp only [Act.put,zsA,zsB,zsC]
   refine' till_pure (i := 2) (oi := _) (v := .int .u64 (d : Int)) rfl (by kernel_rfl) (by kernel_rfl) (by kernel_rfl) (by kernel_rfl) (fun _ _ _ h => h) (Or.inl ⟨by first | (go_simp;done) | rfl,fun X _ => by go_simp⟩) hHeld ?_
   try simp only [Act.put,zsA,zsB,zsC]
   obtain ⟨Y0,hY0⟩ : ∃ Y,Y = wr.drew := ⟨_,rfl⟩
   have hY1 : Below wr.heap.size wr Y0 := by rw [hY0];exact Below.drew (Below.refl _ _)
   replace rP := Row.keep rP hY1
   replace hp := Rd.below hp hY1
   replace rR := Row.keep rR hY1
   replace bel := Bel.to bel hY1
   rw [← hY0] at hHeld ⊢
   clear hY0 hY1 c4
   refine till_ready (rs := [3]) (by kernel_rfl) (by simp) ?_
   refine TillReady.cons (o := _) rfl (fun K hK => ?_) TillReady.nil
   go_simp
   refine (ref_of_int (d : Int) Y0 (by omega) (by omega)).mono ?_
   rintro e w20 ⟨f,rfl,hf,hb20⟩
   rw [Int.toNat_natCast] at hf
   obtain ⟨fa,fl,fc,rfl⟩ := Rd.shape hf
   replace rP := Row.keep rP hb20
   replace hp := Rd.below hp hb20
   replace rR := Row.keep rR hb20
   replace bel := Bel.to bel hb20
   go_wp2_with fail
   refine hK.out _ _ (Bel.cellOf hb20 hHeld) (fun hHeld => ?_)
   clear hK K hb20
   try simp only [Act.put,zsA,zsB,zsC]
   have cM := hide (rmul_nat _ _ (d ^ i) d w20 hp hf hpl hml hpd)
   rw [← Nat.pow_succ] at cM
   refine till_ready (rs := [4]) (by kernel_rfl) (by simp) ?_
   refine TillReady.cons (o := _) rfl (fun K hK => ?_) TillReady.nil
   go_simp
   refine (cM.out).mono ?_
   rintro e w22 ⟨u,rfl,hu,hb22⟩
   obtain ⟨ua,ul,uc,rfl⟩ := Rd.shape hu
   replace rP := Row.keep rP hb22
   replace rR := Row.keep rR hb22
   replace bel := Bel.to bel hb22
   go_wp2_with fail
   refine hK.out _ _ (Bel.cellOf hb22 hHeld) (fun hHeld => ?_)
   clear hK K hb22
   try simp only [Act.put,zsA,zsB,zsC]
   clear cM hf hp
   refine' till_pure (i := 5) (oi := _) (v := .tuple #[.agg #[.slice ua ul uc],.int .i64 0]) rfl (by kernel_rfl) (by kernel_rfl) (by kernel_rfl) (by kernel_rfl) (fun _ _ _ h => h) (Or.inl ⟨by first | (go_simp;done) | rfl,fun X _ => by go_simp⟩) hHeld ?_
   try simp only [Act.put,zsA,zsB,zsC]
   refine' till_pure (i := 6) (oi := _) (v := .agg #[.slice ua ul uc]) rfl (by kernel_rfl) (by kernel_rfl) (by kernel_rfl) (by kernel_rfl) (fun _ _ _ h => h) (Or.inl ⟨by first | (go_simp;done) | rfl,fun X _ => by go_simp⟩) hHeld ?_
   try simp only [Act.put,zsA,zsB,zsC]
   refine' till_pure (i := 7) (oi := _) (v := .int .i64 0) rfl (by kernel_rfl) (by kernel_rfl) (by kernel_rfl) (by kernel_rfl) (fun _ _ _ h => h) (Or.inl ⟨by first | (go_simp;done) | rfl,fun X _ => by go_simp⟩) hHeld ?_
   try simp only [Act.put,zsA,zsB,zsC]
   have cb9 := rP.cell? 0
   have fb9 := rP.frozen 0
   simp only [List.getElem?_cons_zero] at cb9
   refine till_ready (rs := [8]) (by kernel_rfl) (by simp) ?_
   refine TillReady.last (o := _) rfl (by kernel_rfl) (fun K hK => ?_) TillReady.nil
   go_simp
   refine hK.out _ _ ?_
   clear hK K
   try simp only [Act.put,zsA,zsB,zsC]
   refine till_done (by kernel_rfl) ?_ _
   go_simp
   obtain ⟨w23,hw23⟩ : ∃ X,X = w22.setCell ⟨b4,0,none⟩ (.slice ua ul uc) := ⟨_,rfl⟩
   have rP2 : Row w23 b4 30 [.slice ua ul uc] := by rw [hw23];exact Row.set rP 0 _
   have hu2 := Rd.setNe hu cb9 (fun _ h => by cases h) (.slice ua ul uc)
   rw [← hw23] at hu2
   have rR2 := Row.far rR (p := ⟨b4,0,none⟩) (by simp only [];omega) (.slice ua ul uc)
   rw [← hw23] at rR2
   have bel2 := Bel.st bel (p := ⟨b4,0,none⟩) (by simp only [];omega) (.slice ua ul uc)
   rw [← hw23] at bel2
   (try rw [← hw23])
   clear hw23 cb9 fb9 rP hu rR bel
   go_wp2
   go_roundw
   case rel => exact ⟨i + 1,ua,ul,uc,by omega,by go_num,rP2,hu2,rR2,bel2⟩
   case measure => simp [intOf];omega
  ·obtain rfl : i = n := by omega
   have cR := rR.cell? 0
   have fR := rR.frozen 0
   simp only [List.getElem?_cons_zero] at cR
   have hf := Rd.setNe hp cR (fun _ h => by cases h) (.slice pa pn pc)
   have belf := Bel.st bel (p := ⟨w.heap.size,0,none⟩) (Nat.le_refl _) (.slice pa pn pc)
   go_wp2
   exact bodyPost_ret (v := .agg #[(.slice pa pn pc)]) (by simp [results,Tryz.results69,go_sem,cR]) rfl ⟨_,rfl,hf,belf⟩
set_option maxHeartbeats 4000000 in
set_option maxRecDepth 100000 in
theorem rochoose_any (n k : Int) (w : World) (hn : n ≤ 80) :
  Calls Tryz.prog 78 #[.int .i64 n,.int .i64 k] w (SomeNat (chZ n k) w) := by
 have hR0 : Row (w.alloc (.cells #[.slice none 0 0] 30)) w.heap.size 30 [.slice none 0 0] := Row.newOf _ rfl
 by_cases h0 : n < 0
 ·have e : chZ n k = 0 := by unfold chZ;rw [if_pos h0]
  rw [e]
  clear e
  go_enter Tryz.func78,Tryz.ntmps78
  go_wp2
  refine bodyPost_ret (v := .agg #[.slice none 0 0]) (by simp [results,Tryz.results78,go_sem]) rfl ⟨_,rfl,NV.zero _,?_⟩
  first | exact Bel.al (Below.refl _ _) _ | exact Bel.st (Bel.al (Below.refl _ _) _) (Nat.le_refl _) _
 ·have e : chZ n k = chooseI n k := by unfold chZ;rw [if_neg h0]
  rw [e]
  clear e
  have cC := hide (fun X => rchoose_any n k X)
  have ev : chooseV n k = (chooseI n k,0) := by unfold chooseV;rw [if_pos ⟨by omega,hn⟩]
  rw [ev] at cC
  clear ev
  go_enter Tryz.func78,Tryz.ntmps78
  go_wp2_with fail
  refine (cC.out _).mono ?_
  rintro e w1 ⟨u,rfl,hp,hb1⟩
  obtain ⟨pa,pn,pc,rfl⟩ := Rd.shape hp
  have rR := Row.keep hR0 hb1
  have bel := Bel.one _ hb1
  clear hR0 hb1 cC
  go_upto_region 4 with (fail)
  obtain ⟨w2,hw2⟩ : ∃ X,X = w1.alloc (.cells #[.slice pa pn pc] 30) := ⟨_,rfl⟩
  have b2 : Below w1.heap.size w1 w2 := by rw [hw2];exact Bel.al (Below.refl _ _) _
  have r5 : Row w2 w1.heap.size 30 [.slice pa pn pc] := by rw [hw2];exact Row.newOf _ rfl
  rw [← hw2]
  clear hw2
  replace rR := Row.keep rR b2
  replace bel := Bel.to bel b2
  replace hp := Rd.below hp b2
  have c5 := r5.cell? 0
  simp only [List.getElem?_cons_zero] at c5
  clear b2
  have cR := rR.cell? 0
  have fR := rR.frozen 0
  simp only [List.getElem?_cons_zero] at cR
  have hf := Rd.setNe hp cR (fun _ h => by cases h) (.slice pa pn pc)
  have belf := Bel.st bel (p := ⟨w.heap.size,0,none⟩) (Nat.le_refl _) (.slice pa pn pc)
  go_wp2
  exact bodyPost_ret (v := .agg #[(.slice pa pn pc)]) (by simp [results,Tryz.results78,go_sem,cR]) rfl ⟨_,rfl,hf,belf⟩
set_option maxHeartbeats 4000000 in
set_option maxRecDepth 100000 in
theorem rsum_any (va vb : Value) (m n : Nat) (w : World) (ha : NV w va m) (hb : NV w vb n) (lr : (limbs (m + n)).length ≤ 64) :
  Calls Tryz.prog 39 #[.agg #[va],.agg #[vb]] w (SomeNat (m + n) w) := by
 have lm : (limbs m).length ≤ 64 := Nat.le_trans (limbs_len_le (Nat.le_add_right m n)) lr
 have ln : (limbs n).length ≤ 64 := Nat.le_trans (limbs_len_le (Nat.le_add_left n m)) lr
 have ld : (digs (m + n)).length ≤ 128 := by have := digs_limbs_len lr;omega
 obtain ⟨a0,n0,cp0,rfl⟩ := Rd.shape ha
 obtain ⟨a1,n1,cp1,rfl⟩ := Rd.shape hb
 go_enter Tryz.func39,Tryz.ntmps39
 go_upto_region 1 with (fail)
 obtain ⟨W,hW⟩ : ∃ W,W = (((w.alloc (.cells #[.slice a0 n0 cp0] 30)).alloc (.cells #[.slice a1 n1 cp1] 30)).alloc (.cells #[.slice none 0 0] 30)) := ⟨_,rfl⟩
 have bel : Below w.heap.size w W := by rw [hW];exact Bel.al (Bel.al (Bel.al (Below.refl _ _) _) _) _
 have ra : Row W w.heap.size 30 [.slice a0 n0 cp0] := by rw [hW];exact Row.alloc (Row.alloc (Row.new _ _ _) _) _
 have rb : Row W (w.heap.size + 1) 30 [.slice a1 n1 cp1] := by rw [hW];exact Row.alloc (Row.at2 _ _ _ _) _
 have rR : Row W (w.heap.size + 1 + 1) 30 [.slice none 0 0] := by rw [hW];exact Row.at3 _ _ _ _ _
 replace ha : NV W _ m := Rd.below ha bel
 replace hb : NV W _ n := Rd.below hb bel
 rw [← hW]
 clear hW
 have ca := ra.cell? 0
 have cb := rb.cell? 0
 simp only [List.getElem?_cons_zero] at ca cb
 go_wp2_with fail
 refine (radd_nat _ _ m n _ ha hb lm ln ld).mono ?_
 rintro e w1 ⟨u,rfl,hu,hb1⟩
 obtain ⟨ua,ul,uc,rfl⟩ := Rd.shape hu
 replace rR := Row.keep rR hb1
 replace bel := Bel.to bel hb1
 clear hb1 ca cb ra rb ha hb
 go_upto_region 2 with (fail)
 obtain ⟨w2,hw2⟩ : ∃ X,X = w1.alloc (.cells #[.slice ua ul uc] 30) := ⟨_,rfl⟩
 have b2 : Below w1.heap.size w1 w2 := by rw [hw2];exact Bel.al (Below.refl _ _) _
 have rp : Row w2 w1.heap.size 30 [.slice ua ul uc] := by rw [hw2];exact Row.newOf _ rfl
 rw [← hw2]
 clear hw2
 replace rR := Row.keep rR b2
 replace bel := Bel.to bel b2
 replace hu := Rd.below hu b2
 have cp := rp.cell? 0
 have cR := rR.cell? 0
 have fR := rR.frozen 0
 simp only [List.getElem?_cons_zero] at cp cR
 have hf := Rd.setNe hu cR (fun _ h => by cases h) (.slice ua ul uc)
 have belf := Bel.st bel (p := ⟨w.heap.size + 1 + 1,0,none⟩) (by simp only [];omega) (.slice ua ul uc)
 go_wp2
 exact bodyPost_ret (v := .agg #[(.slice ua ul uc)]) (by simp [results,Tryz.results39,go_sem,cR]) rfl ⟨_,rfl,hf,belf⟩
set_option maxHeartbeats 4000000 in
set_option maxRecDepth 100000 in
theorem rless_any (va vb : Value) (m n : Nat) (w : World) (ha : NV w va m) (hb : NV w vb n) (hmn : n ≤ m) (lm : (limbs m).length ≤ 64) :
  Calls Tryz.prog 71 #[.agg #[va],.agg #[vb]] w (SomeNat (m - n) w) := by
 have ln : (limbs n).length ≤ 64 := Nat.le_trans (limbs_len_le hmn) lm
 obtain ⟨a0,n0,cp0,rfl⟩ := Rd.shape ha
 obtain ⟨a1,n1,cp1,rfl⟩ := Rd.shape hb
 go_enter Tryz.func71,Tryz.ntmps71
 go_upto_region 1 with (fail)
 obtain ⟨W,hW⟩ : ∃ W,W = (((w.alloc (.cells #[.slice a0 n0 cp0] 30)).alloc (.cells #[.slice a1 n1 cp1] 30)).alloc (.cells #[.slice none 0 0] 30)) := ⟨_,rfl⟩
 have bel : Below w.heap.size w W := by rw [hW];exact Bel.al (Bel.al (Bel.al (Below.refl _ _) _) _) _
 have ra : Row W w.heap.size 30 [.slice a0 n0 cp0] := by rw [hW];exact Row.alloc (Row.alloc (Row.new _ _ _) _) _
 have rb : Row W (w.heap.size + 1) 30 [.slice a1 n1 cp1] := by rw [hW];exact Row.alloc (Row.at2 _ _ _ _) _
 have rR : Row W (w.heap.size + 1 + 1) 30 [.slice none 0 0] := by rw [hW];exact Row.at3 _ _ _ _ _
 replace ha : NV W _ m := Rd.below ha bel
 replace hb : NV W _ n := Rd.below hb bel
 rw [← hW]
 clear hW
 have ca := ra.cell? 0
 have cb := rb.cell? 0
 simp only [List.getElem?_cons_zero] at ca cb
 go_wp2_with fail
 refine (rsub_nat _ _ m n _ ha hb hmn lm ln).mono ?_
 rintro e w1 ⟨u,rfl,hu,hb1⟩
 obtain ⟨ua,ul,uc,rfl⟩ := Rd.shape hu
 replace rR := Row.keep rR hb1
 replace bel := Bel.to bel hb1
 clear hb1 ca cb ra rb ha hb
 go_upto_region 2 with (fail)
 obtain ⟨w2,hw2⟩ : ∃ X,X = w1.alloc (.cells #[.slice ua ul uc] 30) := ⟨_,rfl⟩
 have b2 : Below w1.heap.size w1 w2 := by rw [hw2];exact Bel.al (Below.refl _ _) _
 have rp : Row w2 w1.heap.size 30 [.slice ua ul uc] := by rw [hw2];exact Row.newOf _ rfl
 rw [← hw2]
 clear hw2
 replace rR := Row.keep rR b2
 replace bel := Bel.to bel b2
 replace hu := Rd.below hu b2
 have cp := rp.cell? 0
 have cR := rR.cell? 0
 have fR := rR.frozen 0
 simp only [List.getElem?_cons_zero] at cp cR
 have hf := Rd.setNe hu cR (fun _ h => by cases h) (.slice ua ul uc)
 have belf := Bel.st bel (p := ⟨w.heap.size + 1 + 1,0,none⟩) (by simp only [];omega) (.slice ua ul uc)
 go_wp2
 exact bodyPost_ret (v := .agg #[(.slice ua ul uc)]) (by simp [results,Tryz.results71,go_sem,cR]) rfl ⟨_,rfl,hf,belf⟩
set_option maxHeartbeats 8000000 in
set_option maxRecDepth 100000 in
theorem rfirst_any (g : GameD) (av tv : Value) (ms : List AddonM) (m x b' : Int) (w : World) (rg : GameR w av tv ms g) :
  Calls Tryz.prog 72 #[gameVal g av tv,.int .i64 m,.int .i64 b',.int .i64 x] w (IntB (firstGo (hitT m x b') g.tiers 0) w) := by
 have hT := hide rg.2.2
 obtain ⟨P,hP⟩ : ∃ P,P = hitT m x b' := ⟨_,rfl⟩
 rw [← hP]
 replace hP := hide hP
 obtain ⟨R,hR⟩ : ∃ R,R = firstGo P g.tiers 0 := ⟨_,rfl⟩
 rw [← hR]
 have hR0 : Hid (firstGo P (g.tiers.drop 0) 0 = R) := by show _ = _;rw [hR];rfl
 clear hR
 obtain ⟨aa,ac,rfl,hal,ham⟩ := rg.1.1.shape
 obtain ⟨ta,tc,rfl,htl,htm⟩ := rg.2.2.shape
 obtain ⟨an,han⟩ : ∃ an,an = ms.length := ⟨_,rfl⟩
 obtain ⟨tn,htn⟩ : ∃ tn,tn = g.tiers.length := ⟨_,rfl⟩
 have htb : g.tiers.length ≤ 9223372036854775807 := by
  obtain ⟨_,c,_,h1,h2,_⟩ := hT.out
  unfold maxLen at h2
  omega
 rw [← htn] at hT htb
 rw [← han,← htn]
 have htbi : (tn : Int) ≤ 9223372036854775807 := by omega
 replace htn := hide htn
 clear rg hal htl ham htm han
 unfold gameVal
 go_enter Tryz.func72,Tryz.ntmps72
 go_upto_region 1 with (fail)
 obtain ⟨W,hW⟩ : ∃ W,W = w.alloc (Obj.cells #[.string g.name,.int .i64 g.kind,.int .i64 g.price,.int .i64 g.main,.int .i64 g.of,.int .i64 g.bonus,.int .i64 g.bonusOf,.int .i64 g.extra,.int .i64 g.draws,.int .i64 g.system,.int .i64 g.days,.int .i64 g.at_,.int .i64 g.close,.int .i64 g.cancel,.int .i64 g.expiry,.int .i64 g.pool,.int .i64 g.reserve,.int .i64 g.round,.int .i64 g.cap,.int .i64 g.rolls,(.slice aa an ac),(.slice ta tn tc)] 25) := ⟨_,rfl⟩
 have bW : Below w.heap.size w W := by rw [hW];exact Bel.al (Below.refl _ _) _
 have r0 : GameAt W w.heap.size g (.slice aa an ac) (.slice ta tn tc) := by rw [hW];exact Row.new _ _ _
 rw [← hW]
 clear hW
 have ct := r0.tiers
 clear r0
 go_wp2
 go_loopw [9] (fun ti wr => ∃ (i : Nat),i ≤ tn ∧ ti = .int .i64 (i : Int) ∧ Hid (firstGo P (g.tiers.drop i) i = R) ∧ Below W.heap.size W wr) (fun ti _ => tn - (intOf ti).toNat)
 case atStart => exact ⟨0,Nat.zero_le _,rfl,hR0,Below.refl _ _⟩
 case round =>
  obtain ⟨i,hi,rfl,hG,hB⟩ := hrel
  replace ct := Bel.cellOf hB ct
  by_cases hlt : i < tn
  ·have hlt2 := hide hlt
   have hil : i < g.tiers.length := by rw [← htn.out];exact hlt
   obtain ⟨b,off,rfl,hbb,hcell⟩ := (hT.out.below (Bel.to bW hB)).at_ hil
   have hG2 := hG.out
   rw [List.drop_eq_getElem_cons hil,firstGo] at hG2
   have i2 : (i : Int) < (tn : Int) := by omega
   obtain ⟨t,ht⟩ : ∃ t,t = g.tiers[i] := ⟨_,rfl⟩
   have hti : g.tiers[i]? = some t := by rw [ht];exact List.getElem?_eq_getElem hil
   have hrange : wr.rangeAt b (off + i * 6) (tierCells t) := fun j u hu => hcell i t hti j u hu
   rw [← ht] at hG2
   clear hcell hti ht
   obtain ⟨tm,tb,tx,tmode,tkind,tvalue⟩ := t
   unfold tierCells at hrange
   simp only [] at hrange
   have hthere := hide (show (wr.alloc (.cells #[.int .i64 0,.int .i64 0,.int .i64 0,.int .i64 0,.int .i64 0,.int .i64 0] 73)).there wr.heap.size 0 6 from Row.there (Row.newOf (cs := [.int .i64 0,.int .i64 0,.int .i64 0,.int .i64 0,.int .i64 0,.int .i64 0]) _ rfl))
   have i1 : (0 : Int) ≤ (i : Int) := by omega
   go_upto_region 5 with (first | (refine wpList_load_mid rfl 73 _ rfl b (off + i * 6) rfl [.int .i64 tm,.int .i64 tb,.int .i64 tx,.int .i64 tmode,.int .i64 tkind,.int .i64 tvalue] _ hrange Tryz.underlying73 rfl (by kernel_rfl) ?_) | (refine wpList_store_mid rfl 73 _ _ rfl wr.heap.size 0 _ rfl rfl hthere.out (by kernel_rfl) (by rfl) ?_) | fail)
   obtain ⟨W1,hW1⟩ : ∃ W1,W1 = wr.alloc (.cells #[.int .i64 tm,.int .i64 tb,.int .i64 tx,.int .i64 tmode,.int .i64 tkind,.int .i64 tvalue] 73) := ⟨_,rfl⟩
   have hb1 : Below wr.heap.size wr W1 := by rw [hW1];exact Bel.al (Below.refl _ _) _
   have hw1 : Row W1 wr.heap.size 73 [.int .i64 tm,.int .i64 tb,.int .i64 tx,.int .i64 tmode,.int .i64 tkind,.int .i64 tvalue] := by rw [hW1];exact Row.newOf _ rfl
   rw [← hW1]
   clear hW1 hthere hrange
   have q0 : W1.cell? ⟨wr.heap.size,0,none⟩ = some (.int .i64 tm) := (hw1.cell? 0).trans rfl
   have q1 : W1.cell? ⟨wr.heap.size,1,none⟩ = some (.int .i64 tb) := (hw1.cell? 1).trans rfl
   have q2 : W1.cell? ⟨wr.heap.size,2,none⟩ = some (.int .i64 tx) := (hw1.cell? 2).trans rfl
   have q3 : W1.cell? ⟨wr.heap.size,3,none⟩ = some (.int .i64 tmode) := (hw1.cell? 3).trans rfl
   clear hw1
   clear hG
   by_cases h1 : tm ≤ m
   ·by_cases h3 : tb ≤ b'
    ·by_cases h2 : tx ≤ x
     ·have hfin : Hid ((i : Int) = R) := by
       show _ = _
       rw [← hG2,if_pos]
       rw [hP.out]
       unfold hitT
       simp [h1,h2,h3]
      clear hG2
      go_wp2
      go_ret
      exact ⟨by rw [← hfin.out];rfl,Bel.to bW (Bel.to hB hb1)⟩
     ·skip
      have hG3 : Hid (firstGo P (g.tiers.drop (i + 1)) (i + 1) = R) := by
       show _ = _
       rw [← hG2,if_neg]
       rw [hP.out];unfold hitT
       simp only []
       simp [h2]
      clear hG2
      go_wp2
      go_roundw
      case rel => exact ⟨i + 1,by have := hlt2.out;omega,by (have := hlt2.out;go_num),hG3,Bel.to hB hb1⟩
      case measure => simp [intOf];have := hlt2.out;omega
    ·skip
     have hG3 : Hid (firstGo P (g.tiers.drop (i + 1)) (i + 1) = R) := by
      show _ = _
      rw [← hG2,if_neg]
      rw [hP.out];unfold hitT
      simp only []
      simp [h3]
     clear hG2
     go_wp2
     go_roundw
     case rel => exact ⟨i + 1,by have := hlt2.out;omega,by (have := hlt2.out;go_num),hG3,Bel.to hB hb1⟩
     case measure => simp [intOf];have := hlt2.out;omega
   ·skip
    have hG3 : Hid (firstGo P (g.tiers.drop (i + 1)) (i + 1) = R) := by
     show _ = _
     rw [← hG2,if_neg]
     rw [hP.out];unfold hitT
     simp only []
     simp [h1]
    clear hG2
    go_wp2
    go_roundw
    case rel => exact ⟨i + 1,by have := hlt2.out;omega,by (have := hlt2.out;go_num),hG3,Bel.to hB hb1⟩
    case measure => simp [intOf];have := hlt2.out;omega
  ·obtain rfl : i = tn := by omega
   have hfin : Hid ((-1 : Int) = R) := by
    show _ = _
    rw [← hG.out,List.drop_eq_nil_of_le (by rw [← htn.out];exact Nat.le_refl _)]
    rfl
   clear hG
   go_wp2
   go_ret
   exact ⟨by rw [← hfin.out];rfl,Bel.to bW hB⟩
def metB (fa fb : Int) (box equal : Bool) (t : TierD) : Bool := if t.mode = 1 then equal else if t.mode = 2 then box || equal else if t.mode = 3 then equal || decide (t.main ≤ fa) else equal || decide (t.main ≤ fb)
set_option maxHeartbeats 4000000 in
set_option maxRecDepth 100000 in
theorem rmet_any (t : TierD) (fa fb : Int) (box equal : Bool) (w : World) :
  Calls Tryz.prog 102 #[.agg (tierCells t).toArray,.int .i64 fa,.int .i64 fb,.bool box,.bool equal] w (BoolB (metB fa fb box equal t) w) := by
 obtain ⟨tm,tb,tx,tmode,tkind,tvalue⟩ := t
 obtain ⟨R,hR⟩ : ∃ R,R = metB fa fb box equal ⟨tm,tb,tx,tmode,tkind,tvalue⟩ := ⟨_,rfl⟩
 rw [← hR]
 unfold metB at hR
 simp only [] at hR
 replace hR := hide hR.symm
 unfold tierCells
 go_enter Tryz.func102,Tryz.ntmps102
 go_upto_region 1 with (fail)
 obtain ⟨W,hW⟩ : ∃ W,W = w.alloc (Obj.cells #[.int .i64 tm,.int .i64 tb,.int .i64 tx,.int .i64 tmode,.int .i64 tkind,.int .i64 tvalue] 73) := ⟨_,rfl⟩
 have bW : Below w.heap.size w W := by rw [hW];exact Bel.al (Below.refl _ _) _
 have r0 : Row W w.heap.size 73 [.int .i64 tm,.int .i64 tb,.int .i64 tx,.int .i64 tmode,.int .i64 tkind,.int .i64 tvalue] := by rw [hW];exact Row.new _ _ _
 rw [← hW]
 clear hW
 have q0 := r0.cell? 0
 have q3 := r0.cell? 3
 simp only [List.getElem?_cons_zero,List.getElem?_cons_succ] at q0 q3
 clear r0
 by_cases h1 : tmode = 1
 ·have hv := hR.out
  rw [if_pos h1] at hv
  subst hv h1
  clear hR
  go_wp2
  go_ret
  exact ⟨rfl,bW⟩
 have h1b : (tmode == 1) = false := by simpa using h1
 by_cases h2 : tmode = 2
 ·have hv := hR.out
  rw [if_neg h1,if_pos h2] at hv
  clear hR
  subst h2
  cases box <;> (simp only [Bool.true_or,Bool.false_or] at hv;subst hv;go_wp2;go_ret;exact ⟨rfl,bW⟩)
 have h2b : (tmode == 2) = false := by simpa using h2
 by_cases h3 : tmode = 3
 ·have hv := hR.out
  rw [if_neg h1,if_neg h2,if_pos h3] at hv
  clear hR
  subst h3
  cases equal
  ·rw [Bool.false_or] at hv
   by_cases h4 : tm ≤ fa
   ·rw [decide_eq_true h4] at hv
    subst hv
    go_wp2
    go_ret
    exact ⟨rfl,bW⟩
   ·rw [decide_eq_false h4] at hv
    subst hv
    go_wp2
    go_ret
    exact ⟨rfl,bW⟩
  ·rw [Bool.true_or] at hv
   subst hv
   go_wp2
   go_ret
   exact ⟨rfl,bW⟩
 have h3b : (tmode == 3) = false := by simpa using h3
 have hv := hR.out
 rw [if_neg h1,if_neg h2,if_neg h3] at hv
 clear hR h1 h2 h3
 cases equal
 ·rw [Bool.false_or] at hv
  by_cases h4 : tm ≤ fb
  ·rw [decide_eq_true h4] at hv
   subst hv
   go_wp2
   go_ret
   exact ⟨rfl,bW⟩
  ·rw [decide_eq_false h4] at hv
   subst hv
   go_wp2
   go_ret
   exact ⟨rfl,bW⟩
 ·rw [Bool.true_or] at hv
  subst hv
  go_wp2
  go_ret
  exact ⟨rfl,bW⟩
set_option maxHeartbeats 8000000 in
set_option maxRecDepth 100000 in
theorem rfirstd_any (g : GameD) (av tv : Value) (ms : List AddonM) (fa fb : Int) (box equal : Bool) (w : World) (rg : GameR w av tv ms g) :
  Calls Tryz.prog 68 #[gameVal g av tv,.int .i64 fa,.int .i64 fb,.bool box,.bool equal] w (IntB (firstGo (metB fa fb box equal) g.tiers 0) w) := by
 have hT := hide rg.2.2
 obtain ⟨P,hP⟩ : ∃ P,P = metB fa fb box equal := ⟨_,rfl⟩
 rw [← hP]
 replace hP := hide hP
 obtain ⟨R,hR⟩ : ∃ R,R = firstGo P g.tiers 0 := ⟨_,rfl⟩
 rw [← hR]
 have hR0 : Hid (firstGo P (g.tiers.drop 0) 0 = R) := by show _ = _;rw [hR];rfl
 clear hR
 obtain ⟨aa,ac,rfl,hal,ham⟩ := rg.1.1.shape
 obtain ⟨ta,tc,rfl,htl,htm⟩ := rg.2.2.shape
 obtain ⟨an,han⟩ : ∃ an,an = ms.length := ⟨_,rfl⟩
 obtain ⟨tn,htn⟩ : ∃ tn,tn = g.tiers.length := ⟨_,rfl⟩
 have htb : g.tiers.length ≤ 9223372036854775807 := by
  obtain ⟨_,c,_,h1,h2,_⟩ := hT.out
  unfold maxLen at h2
  omega
 rw [← htn] at hT htb
 rw [← han,← htn]
 have htbi : (tn : Int) ≤ 9223372036854775807 := by omega
 replace htn := hide htn
 clear rg hal htl ham htm han
 unfold gameVal
 go_enter Tryz.func68,Tryz.ntmps68
 go_upto_region 1 with (fail)
 obtain ⟨W,hW⟩ : ∃ W,W = w.alloc (Obj.cells #[.string g.name,.int .i64 g.kind,.int .i64 g.price,.int .i64 g.main,.int .i64 g.of,.int .i64 g.bonus,.int .i64 g.bonusOf,.int .i64 g.extra,.int .i64 g.draws,.int .i64 g.system,.int .i64 g.days,.int .i64 g.at_,.int .i64 g.close,.int .i64 g.cancel,.int .i64 g.expiry,.int .i64 g.pool,.int .i64 g.reserve,.int .i64 g.round,.int .i64 g.cap,.int .i64 g.rolls,(.slice aa an ac),(.slice ta tn tc)] 25) := ⟨_,rfl⟩
 have bW : Below w.heap.size w W := by rw [hW];exact Bel.al (Below.refl _ _) _
 have r0 : GameAt W w.heap.size g (.slice aa an ac) (.slice ta tn tc) := by rw [hW];exact Row.new _ _ _
 rw [← hW]
 clear hW
 have ct := r0.tiers
 clear r0
 go_wp2
 go_loopw [11] (fun ti wr => ∃ (i : Nat),i ≤ tn ∧ ti = .int .i64 (i : Int) ∧ Hid (firstGo P (g.tiers.drop i) i = R) ∧ Below W.heap.size W wr) (fun ti _ => tn - (intOf ti).toNat)
 case atStart => exact ⟨0,Nat.zero_le _,rfl,hR0,Below.refl _ _⟩
 case round =>
  obtain ⟨i,hi,rfl,hG,hB⟩ := hrel
  replace ct := Bel.cellOf hB ct
  by_cases hlt : i < tn
  ·have hlt2 := hide hlt
   have hil : i < g.tiers.length := by rw [← htn.out];exact hlt
   obtain ⟨b,off,rfl,hbb,hcell⟩ := (hT.out.below (Bel.to bW hB)).at_ hil
   have hG2 := hG.out
   rw [List.drop_eq_getElem_cons hil,firstGo] at hG2
   have i2 : (i : Int) < (tn : Int) := by omega
   obtain ⟨t,ht⟩ : ∃ t,t = g.tiers[i] := ⟨_,rfl⟩
   have hti : g.tiers[i]? = some t := by rw [ht];exact List.getElem?_eq_getElem hil
   have hrange : wr.rangeAt b (off + i * 6) (tierCells t) := fun j u hu => hcell i t hti j u hu
   rw [← ht] at hG2
   clear hcell hti ht
   obtain ⟨v,hv⟩ : ∃ v,v = P t := ⟨_,rfl⟩
   have cM := hide (fun X => rmet_any t fa fb box equal X)
   rw [← hv] at hG2
   have hvP : metB fa fb box equal t = v := by rw [hv,hP.out]
   rw [hvP] at cM
   clear hv hvP
   obtain ⟨tm,tb,tx,tmode,tkind,tvalue⟩ := t
   unfold tierCells at hrange cM
   simp only [] at hrange cM
   have i1 : (0 : Int) ≤ (i : Int) := by omega
   clear hG
   go_wp2_with (first | (refine wpList_load_mid rfl 73 _ rfl b (off + i * 6) rfl [.int .i64 tm,.int .i64 tb,.int .i64 tx,.int .i64 tmode,.int .i64 tkind,.int .i64 tvalue] _ hrange Tryz.underlying73 rfl (by kernel_rfl) ?_) | fail)
   refine (cM.out _).mono ?_
   rintro e W1 ⟨rfl,hb1⟩
   cases v
   ·have hG3 : Hid (firstGo P (g.tiers.drop (i + 1)) (i + 1) = R) := by
     show _ = _
     rw [← hG2,if_neg (by decide)]
    clear hG2
    go_wp2
    go_roundw
    case rel => exact ⟨i + 1,by have := hlt2.out;omega,by (have := hlt2.out;go_num),hG3,Bel.to hB hb1⟩
    case measure => simp [intOf];have := hlt2.out;omega
   ·have hfin : Hid ((i : Int) = R) := by
     show _ = _
     rw [← hG2,if_pos rfl]
    clear hG2
    go_wp2
    go_ret
    exact ⟨by rw [← hfin.out];rfl,Bel.to bW (Bel.to hB hb1)⟩
  ·obtain rfl : i = tn := by omega
   have hfin : Hid ((-1 : Int) = R) := by
    show _ = _
    rw [← hG.out,List.drop_eq_nil_of_le (by rw [← htn.out];exact Nat.le_refl _)]
    rfl
   clear hG
   go_wp2
   go_ret
   exact ⟨by rw [← hfin.out];rfl,Bel.to bW hB⟩
theorem limS_two {a b : Nat} (ha : (limbs a).length ≤ 3) (hb : (limbs b).length ≤ 3) : limS [a,b] ≤ 63 ∧ (limbs (a * b)).length ≤ 6 := by
 refine ⟨by simp [limS];omega,?_⟩
 have := limbs_mul a b
 omega
set_option maxHeartbeats 8000000 in
set_option maxRecDepth 100000 in
theorem rways_any (g : GameD) (av tv : Value) (ms : List AddonM) (m x b : Nat) (w : World) (hr : GameR w av tv ms g) (hF : ChoF g) (hm : (m : Int) ≤ g.main) (hx : x ≤ 4) (hb : b ≤ 4) :
  Calls Tryz.prog 73 #[gameVal g av tv,.int .i64 (m : Int),.int .i64 (b : Int),.int .i64 (x : Int)] w (SomeNat (wayN g m x b) w) := by
 have hPe : wayN g m x b = chZ g.main (m : Int) * chZ (g.of - g.main) (g.main - (m : Int)) * (chZ (g.main - (m : Int)) (x : Int) * chZ (g.of - 2 * g.main + (m : Int)) (g.extra - (x : Int)) * (chZ g.bonus (b : Int) * chZ (g.bonusOf - g.bonus) (g.bonus - (b : Int)))) := by
  unfold wayN wayP
  simp only [List.map_cons,List.map_nil,prodL,Nat.mul_one]
  unfold chP
  simp only [Nat.mul_assoc]
 obtain ⟨PP,hPP0⟩ : ∃ P,P = wayN g m x b := ⟨_,rfl⟩
 rw [← hPP0] at hPe ⊢
 have a1 := hF.m1
 have a2 := hF.m2
 have a3 := hF.o1
 have a4 := hF.o2
 have a5 := hF.b1
 have a6 := hF.b2
 have a7 := hF.p1
 have a8 := hF.p2
 have a9 := hF.e1
 have a0 := hF.e2
 have h1 : g.main ≤ 80 := by omega
 have h2 : g.of - g.main ≤ 80 := by omega
 have h3 : g.main - (m : Int) ≤ 80 := by omega
 have h4 : g.of - 2 * g.main + (m : Int) ≤ 80 := by omega
 have h5 : g.bonus ≤ 80 := by omega
 have h6 : g.bonusOf - g.bonus ≤ 80 := by omega
 have t1 := limS_two (chZ_limbs g.main (m : Int) h1) (chZ_limbs (g.of - g.main) (g.main - (m : Int)) h2)
 have t2 := limS_two (chZ_limbs (g.main - (m : Int)) (x : Int) h3) (chZ_limbs (g.of - 2 * g.main + (m : Int)) (g.extra - (x : Int)) h4)
 have t3 := chZ_limbs g.bonus (b : Int) h5
 have t4 := chZ_limbs (g.bonusOf - g.bonus) (g.bonus - (b : Int)) h6
 have hl1 := t1.1
 have hl2 := t2.1
 obtain ⟨P1,hP1⟩ : ∃ P,P = chZ g.main (m : Int) * chZ (g.of - g.main) (g.main - (m : Int)) := ⟨_,rfl⟩
 obtain ⟨P2,hP2⟩ : ∃ P,P = chZ (g.main - (m : Int)) (x : Int) * chZ (g.of - 2 * g.main + (m : Int)) (g.extra - (x : Int)) := ⟨_,rfl⟩
 rw [← hP1,← hP2] at hPe
 rw [← hP1] at t1
 rw [← hP2] at t2
 have hl3 : limS [P1,P2,chZ g.bonus (b : Int),chZ (g.bonusOf - g.bonus) (g.bonus - (b : Int))] ≤ 63 := by simp [limS];omega
 have hPP := hide hPe.symm
 replace hP1 := hide hP1
 replace hP2 := hide hP2
 have w1 : IntKind.i64.wrap (g.of - g.main) = g.of - g.main := by rw [IntKind.wrap_i64];omega
 have w2 : IntKind.i64.wrap (g.main - (m : Int)) = g.main - (m : Int) := by rw [IntKind.wrap_i64];omega
 have w3 : IntKind.i64.wrap (2 * g.main) = 2 * g.main := by rw [IntKind.wrap_i64];omega
 have w4 : IntKind.i64.wrap (g.of - 2 * g.main) = g.of - 2 * g.main := by rw [IntKind.wrap_i64];omega
 have w5 : IntKind.i64.wrap (g.of - 2 * g.main + (m : Int)) = g.of - 2 * g.main + (m : Int) := by rw [IntKind.wrap_i64];omega
 have w6 : IntKind.i64.wrap (g.extra - (x : Int)) = g.extra - (x : Int) := by rw [IntKind.wrap_i64];omega
 have w7 : IntKind.i64.wrap (g.bonusOf - g.bonus) = g.bonusOf - g.bonus := by rw [IntKind.wrap_i64];omega
 have w8 : IntKind.i64.wrap (g.bonus - (b : Int)) = g.bonus - (b : Int) := by rw [IntKind.wrap_i64];omega
 have cH := hide (fun n k X (h : n ≤ 80) => rochoose_any n k X h)
 clear hPP0 hPe t1 t2 t3 t4 hF hm hx hb
 obtain ⟨aa,ac,rfl,hal,ham⟩ := hr.1.1.shape
 obtain ⟨ta,tc,rfl,htl,htm⟩ := hr.2.2.shape
 obtain ⟨an,han⟩ : ∃ an,an = ms.length := ⟨_,rfl⟩
 obtain ⟨tn,htn⟩ : ∃ tn,tn = g.tiers.length := ⟨_,rfl⟩
 rw [← han,← htn]
 clear hr hal htl ham htm han htn
 unfold gameVal
 go_enter Tryz.func73,Tryz.ntmps73
 go_upto_region 1 with (fail)
 obtain ⟨W,hW⟩ : ∃ W,W = (w.alloc (Obj.cells #[.string g.name,.int .i64 g.kind,.int .i64 g.price,.int .i64 g.main,.int .i64 g.of,.int .i64 g.bonus,.int .i64 g.bonusOf,.int .i64 g.extra,.int .i64 g.draws,.int .i64 g.system,.int .i64 g.days,.int .i64 g.at_,.int .i64 g.close,.int .i64 g.cancel,.int .i64 g.expiry,.int .i64 g.pool,.int .i64 g.reserve,.int .i64 g.round,.int .i64 g.cap,.int .i64 g.rolls,(.slice aa an ac),(.slice ta tn tc)] 25)).alloc (Obj.cells #[.slice none 0 0] 30) := ⟨_,rfl⟩
 have bel : Below w.heap.size w W := by rw [hW];exact Bel.al (Bel.al (Below.refl _ _) _) _
 have rg : GameAt W w.heap.size g (.slice aa an ac) (.slice ta tn tc) := by rw [hW];exact Row.alloc (Row.new _ _ _) _
 have rR : Row W (w.heap.size + 1) 30 [.slice none 0 0] := by rw [hW];exact Row.at2 _ _ _ _
 rw [← hW]
 clear hW
 have c3 := rg.main
 have c4 := rg.of
 have c7 := rg.extra
 go_cut [9] (fun p X => ∃ (b9 : Nat) (pa : Option Addr) (pl pc : Nat),p = .pointer (some ⟨b9,0,none⟩) ∧ w.heap.size + 1 < b9 ∧ GameAt X w.heap.size g (.slice aa an ac) (.slice ta tn tc) ∧ Row X (w.heap.size + 1) 30 [.slice none 0 0] ∧ Below w.heap.size w X ∧ Row X b9 30 [.slice pa pl pc] ∧ NV X (.slice pa pl pc) P1)
 case first =>
  refine till_begin 17 (fun X => X.cell? ⟨w.heap.size,3,none⟩ = some (.int .i64 g.main) ∧ X.cell? ⟨w.heap.size,4,none⟩ = some (.int .i64 g.of) ∧ X.cell? ⟨w.heap.size,7,none⟩ = some (.int .i64 g.extra)) (by kernel_rfl) (⟨c3,c4,c7⟩) (fun hHeld => ?_)
  refine' till_pure (i := 0) (oi := _) (v := .pointer (some ⟨w.heap.size,3,none⟩)) rfl (by kernel_rfl) (by kernel_rfl) (by kernel_rfl) (by kernel_rfl) (fun _ _ _ h => h) (Or.inl ⟨by first | (go_simp;done) | rfl,fun X _ => by go_simp⟩) hHeld ?_
  try simp only [List.getElem_toArray,List.getElem_cons_zero,List.getElem_cons_succ,Act.put,zsA,zsB,zsC]
  refine' till_take (i := 1) (oi := _) (v := .int .i64 g.main) rfl (by kernel_rfl) (by kernel_rfl) (by kernel_rfl) (by kernel_rfl) (fun _ _ _ h => h) (Or.inl ⟨by first | (go_simp;done) | rfl,fun X hX => by have h0 := hX.1;go_simp⟩) hHeld ?_
  try simp only [List.getElem_toArray,List.getElem_cons_zero,List.getElem_cons_succ,Act.put,zsA,zsB,zsC]
  refine' till_pure (i := 2) (oi := _) (v := .int .i64 (m : Int)) rfl (by kernel_rfl) (by kernel_rfl) (by kernel_rfl) (by kernel_rfl) (fun _ _ _ h => h) (Or.inl ⟨by first | (go_simp;done) | rfl,fun X _ => by go_simp⟩) hHeld ?_
  try simp only [List.getElem_toArray,List.getElem_cons_zero,List.getElem_cons_succ,Act.put,zsA,zsB,zsC]
  refine' till_pure (i := 4) (oi := _) (v := .pointer (some ⟨w.heap.size,4,none⟩)) rfl (by kernel_rfl) (by kernel_rfl) (by kernel_rfl) (by kernel_rfl) (fun _ _ _ h => h) (Or.inl ⟨by first | (go_simp;done) | rfl,fun X _ => by go_simp⟩) hHeld ?_
  try simp only [List.getElem_toArray,List.getElem_cons_zero,List.getElem_cons_succ,Act.put,zsA,zsB,zsC]
  refine' till_take (i := 5) (oi := _) (v := .int .i64 g.of) rfl (by kernel_rfl) (by kernel_rfl) (by kernel_rfl) (by kernel_rfl) (fun _ _ _ h => h) (Or.inl ⟨by first | (go_simp;done) | rfl,fun X hX => by have h0 := hX.2.1;go_simp⟩) hHeld ?_
  try simp only [List.getElem_toArray,List.getElem_cons_zero,List.getElem_cons_succ,Act.put,zsA,zsB,zsC]
  refine' till_pure (i := 6) (oi := _) (v := .pointer (some ⟨w.heap.size,3,none⟩)) rfl (by kernel_rfl) (by kernel_rfl) (by kernel_rfl) (by kernel_rfl) (fun _ _ _ h => h) (Or.inl ⟨by first | (go_simp;done) | rfl,fun X _ => by go_simp⟩) hHeld ?_
  try simp only [List.getElem_toArray,List.getElem_cons_zero,List.getElem_cons_succ,Act.put,zsA,zsB,zsC]
  refine' till_take (i := 7) (oi := _) (v := .int .i64 g.main) rfl (by kernel_rfl) (by kernel_rfl) (by kernel_rfl) (by kernel_rfl) (fun _ _ _ h => h) (Or.inl ⟨by first | (go_simp;done) | rfl,fun X hX => by have h0 := hX.1;go_simp⟩) hHeld ?_
  try simp only [List.getElem_toArray,List.getElem_cons_zero,List.getElem_cons_succ,Act.put,zsA,zsB,zsC]
  refine' till_pure (i := 8) (oi := _) (v := .int .i64 (g.of - g.main)) rfl (by kernel_rfl) (by kernel_rfl) (by kernel_rfl) (by kernel_rfl) (fun _ _ _ h => h) (Or.inl ⟨by first | (go_simp;done) | rfl,fun X _ => by go_simp⟩) hHeld ?_
  try simp only [List.getElem_toArray,List.getElem_cons_zero,List.getElem_cons_succ,Act.put,zsA,zsB,zsC]
  refine' till_pure (i := 9) (oi := _) (v := .pointer (some ⟨w.heap.size,3,none⟩)) rfl (by kernel_rfl) (by kernel_rfl) (by kernel_rfl) (by kernel_rfl) (fun _ _ _ h => h) (Or.inl ⟨by first | (go_simp;done) | rfl,fun X _ => by go_simp⟩) hHeld ?_
  try simp only [List.getElem_toArray,List.getElem_cons_zero,List.getElem_cons_succ,Act.put,zsA,zsB,zsC]
  refine' till_take (i := 10) (oi := _) (v := .int .i64 g.main) rfl (by kernel_rfl) (by kernel_rfl) (by kernel_rfl) (by kernel_rfl) (fun _ _ _ h => h) (Or.inl ⟨by first | (go_simp;done) | rfl,fun X hX => by have h0 := hX.1;go_simp⟩) hHeld ?_
  try simp only [List.getElem_toArray,List.getElem_cons_zero,List.getElem_cons_succ,Act.put,zsA,zsB,zsC]
  refine' till_pure (i := 11) (oi := _) (v := .int .i64 (m : Int)) rfl (by kernel_rfl) (by kernel_rfl) (by kernel_rfl) (by kernel_rfl) (fun _ _ _ h => h) (Or.inl ⟨by first | (go_simp;done) | rfl,fun X _ => by go_simp⟩) hHeld ?_
  try simp only [List.getElem_toArray,List.getElem_cons_zero,List.getElem_cons_succ,Act.put,zsA,zsB,zsC]
  refine' till_pure (i := 12) (oi := _) (v := .int .i64 (g.main - (m : Int))) rfl (by kernel_rfl) (by kernel_rfl) (by kernel_rfl) (by kernel_rfl) (fun _ _ _ h => h) (Or.inl ⟨by first | (go_simp;done) | rfl,fun X _ => by go_simp⟩) hHeld ?_
  try simp only [List.getElem_toArray,List.getElem_cons_zero,List.getElem_cons_succ,Act.put,zsA,zsB,zsC]
  obtain ⟨Y0,hY0⟩ : ∃ Y,Y = W.drew := ⟨_,rfl⟩
  have hY1 : Below W.heap.size W Y0 := by rw [hY0];exact Below.drew (Below.refl _ _)
  replace rg := GameAt.keep rg hY1
  replace rR := Row.keep rR hY1
  replace bel := Bel.to bel hY1
  rw [← hY0] at hHeld ⊢
  clear hY0 hY1 c3 c4 c7
  refine till_ready (rs := [3,16]) (by kernel_rfl) (by simp) ?_
  refine TillReady.cons (o := _) rfl (fun K hK => ?_) (TillReady.cons (o := _) rfl (fun K hK => ?_) TillReady.nil)
  ·skip
   go_simp
   refine (cH.out (g.main) ((m : Int)) Y0 h1).mono ?_
   rintro e x1_3 ⟨u,rfl,hu,bx1_3⟩
   obtain ⟨ua,ul,uc,rfl⟩ := Rd.shape hu
   replace rg := GameAt.keep rg bx1_3
   replace rR := Row.keep rR bx1_3
   replace bel := Bel.to bel bx1_3
   go_wp2_with fail
   refine hK.out _ _ ⟨Bel.cellOf bx1_3 hHeld.1,Bel.cellOf bx1_3 hHeld.2.1,Bel.cellOf bx1_3 hHeld.2.2⟩ (fun hHeld => ?_)
   clear hK K bx1_3
   try simp only [List.getElem_toArray,List.getElem_cons_zero,List.getElem_cons_succ,Act.put,zsA,zsB,zsC]
   refine till_ready (rs := [13,16]) (by kernel_rfl) (by simp) ?_
   refine TillReady.cons (o := _) rfl (fun K hK => ?_) (TillReady.cons (o := _) rfl (fun K hK => ?_) TillReady.nil)
   ·skip
    go_simp
    refine (cH.out (g.of - g.main) (g.main - (m : Int)) x1_3 h2).mono ?_
    rintro e x2_13 ⟨v,rfl,hv,bx2_13⟩
    obtain ⟨va,vl,vc,rfl⟩ := Rd.shape hv
    replace rg := GameAt.keep rg bx2_13
    replace rR := Row.keep rR bx2_13
    replace bel := Bel.to bel bx2_13
    replace hu := Rd.below hu bx2_13
    go_wp2_with fail
    refine hK.out _ _ ⟨Bel.cellOf bx2_13 hHeld.1,Bel.cellOf bx2_13 hHeld.2.1,Bel.cellOf bx2_13 hHeld.2.2⟩ (fun hHeld => ?_)
    clear hK K bx2_13
    try simp only [List.getElem_toArray,List.getElem_cons_zero,List.getElem_cons_succ,Act.put,zsA,zsB,zsC]
    refine till_ready (rs := [14,16]) (by kernel_rfl) (by simp) ?_
    refine TillReady.cons (o := _) rfl (fun K hK => ?_) (TillReady.cons (o := _) rfl (fun K hK => ?_) TillReady.nil)
    ·skip
     go_simp
     obtain ⟨x3_14,hx3_14⟩ : ∃ X,X = x2_13.alloc (.cells #[.slice ua ul uc,.slice va vl vc] 30) := ⟨_,rfl⟩
     have bx3_14 : Below x2_13.heap.size x2_13 x3_14 := by rw [hx3_14];exact Bel.al (Below.refl _ _) _
     have r21 : Row x3_14 x2_13.heap.size 30 ([(.slice ua ul uc,chZ g.main (m : Int)),(.slice va vl vc,chZ (g.of - g.main) (g.main - (m : Int)))].map (fun p : NatM => p.1)) := by rw [hx3_14];exact Row.newOf _ rfl
     rw [← hx3_14]
     clear hx3_14
     replace rg := GameAt.keep rg bx3_14
     replace rR := Row.keep rR bx3_14
     replace bel := Bel.to bel bx3_14
     replace hu := Rd.below hu bx3_14
     replace hv := Rd.below hv bx3_14
     have hN := Row.nats (n := 2) r21 rfl (by decide) (fun p hp => by
      simp only [List.mem_cons,List.not_mem_nil,or_false] at hp
      rcases hp with rfl | rfl
      ·exact hu
      ·exact hv)
     clear r21
     refine hK.out _ _ ⟨Bel.cellOf bx3_14 hHeld.1,Bel.cellOf bx3_14 hHeld.2.1,Bel.cellOf bx3_14 hHeld.2.2⟩ (fun hHeld => ?_)
     clear hK K bx3_14
     try simp only [List.getElem_toArray,List.getElem_cons_zero,List.getElem_cons_succ,Act.put,zsA,zsB,zsC]
     refine till_ready (rs := [15,16]) (by kernel_rfl) (by simp) ?_
     refine TillReady.cons (o := _) rfl (fun K hK => ?_) (TillReady.cons (o := _) rfl (fun K hK => ?_) TillReady.nil)
     ·skip
      go_simp
      refine (rprod_any _ _ x3_14 hN hl1 (by simp)).mono ?_
      rintro e x4_15 ⟨y,rfl,hy,bx4_15⟩
      obtain ⟨ya,yl,yc,rfl⟩ := Rd.shape hy
      simp only [List.map_cons,List.map_nil,prodL,Nat.mul_one] at hy
      replace rg := GameAt.keep rg bx4_15
      replace rR := Row.keep rR bx4_15
      replace bel := Bel.to bel bx4_15
      replace hu := Rd.below hu bx4_15
      replace hv := Rd.below hv bx4_15
      clear hN
      go_wp2_with fail
      refine hK.out _ _ ⟨Bel.cellOf bx4_15 hHeld.1,Bel.cellOf bx4_15 hHeld.2.1,Bel.cellOf bx4_15 hHeld.2.2⟩ (fun hHeld => ?_)
      clear hK K bx4_15
      try simp only [List.getElem_toArray,List.getElem_cons_zero,List.getElem_cons_succ,Act.put,zsA,zsB,zsC]
      refine till_ready (rs := [16]) (by kernel_rfl) (by simp) ?_
      refine TillReady.cons (o := _) rfl (fun K hK => ?_) TillReady.nil
      go_simp
      obtain ⟨x5_16,hx5_16⟩ : ∃ X,X = x4_15.alloc (.cells #[.slice none 0 0] 30) := ⟨_,rfl⟩
      have bx5_16 : Below x4_15.heap.size x4_15 x5_16 := by rw [hx5_16];exact Bel.al (Below.refl _ _) _
      have rp : Row x5_16 x4_15.heap.size 30 [.slice none 0 0] := by rw [hx5_16];exact Row.newOf _ rfl
      have hbp : w.heap.size + 1 < x4_15.heap.size := rR.lt
      rw [← hx5_16]
      clear hx5_16
      replace rg := GameAt.keep rg bx5_16
      replace rR := Row.keep rR bx5_16
      replace bel := Bel.to bel bx5_16
      replace hu := Rd.below hu bx5_16
      replace hv := Rd.below hv bx5_16
      replace hy := Rd.below hy bx5_16
      refine hK.out _ _ ⟨Bel.cellOf bx5_16 hHeld.1,Bel.cellOf bx5_16 hHeld.2.1,Bel.cellOf bx5_16 hHeld.2.2⟩ (fun hHeld => ?_)
      clear hK K bx5_16
      try simp only [List.getElem_toArray,List.getElem_cons_zero,List.getElem_cons_succ,Act.put,zsA,zsB,zsC]
      have cp9 := rp.cell? 0
      have fp9 := rp.frozen 0
      simp only [List.getElem?_cons_zero] at cp9
      refine till_ready (rs := [17]) (by kernel_rfl) (by simp) ?_
      refine TillReady.last (o := _) rfl (by kernel_rfl) (fun K hK => ?_) TillReady.nil
      go_simp
      refine hK.out _ _ ?_
      clear hK K
      try simp only [List.getElem_toArray,List.getElem_cons_zero,List.getElem_cons_succ,Act.put,zsA,zsB,zsC]
      refine till_done (by kernel_rfl) ?_ _
      go_simp
      rw [← hP1.out] at hy
      go_wp2_with fail
      go_meet
      exact ⟨_,ya,yl,yc,rfl,hbp,Row.far rg (p := ⟨_,0,none⟩) (by simp only [];omega) _,Row.far rR (p := ⟨_,0,none⟩) (by simp only [];omega) _,Bel.st bel (p := ⟨_,0,none⟩) (by simp only [];omega) _,Row.set rp 0 _,Rd.setNe hy cp9 (fun _ h => by cases h) _⟩
     ·skip
      go_simp
      obtain ⟨x4_16,hx4_16⟩ : ∃ X,X = x3_14.alloc (.cells #[.slice none 0 0] 30) := ⟨_,rfl⟩
      have bx4_16 : Below x3_14.heap.size x3_14 x4_16 := by rw [hx4_16];exact Bel.al (Below.refl _ _) _
      have rp : Row x4_16 x3_14.heap.size 30 [.slice none 0 0] := by rw [hx4_16];exact Row.newOf _ rfl
      have hbp : w.heap.size + 1 < x3_14.heap.size := rR.lt
      rw [← hx4_16]
      clear hx4_16
      replace rg := GameAt.keep rg bx4_16
      replace rR := Row.keep rR bx4_16
      replace bel := Bel.to bel bx4_16
      replace hu := Rd.below hu bx4_16
      replace hv := Rd.below hv bx4_16
      replace hN := hN.below bx4_16
      refine hK.out _ _ ⟨Bel.cellOf bx4_16 hHeld.1,Bel.cellOf bx4_16 hHeld.2.1,Bel.cellOf bx4_16 hHeld.2.2⟩ (fun hHeld => ?_)
      clear hK K bx4_16
      try simp only [List.getElem_toArray,List.getElem_cons_zero,List.getElem_cons_succ,Act.put,zsA,zsB,zsC]
      refine till_ready (rs := [15]) (by kernel_rfl) (by simp) ?_
      refine TillReady.cons (o := _) rfl (fun K hK => ?_) TillReady.nil
      go_simp
      refine (rprod_any _ _ x4_16 hN hl1 (by simp)).mono ?_
      rintro e x5_15 ⟨y,rfl,hy,bx5_15⟩
      obtain ⟨ya,yl,yc,rfl⟩ := Rd.shape hy
      simp only [List.map_cons,List.map_nil,prodL,Nat.mul_one] at hy
      replace rg := GameAt.keep rg bx5_15
      replace rR := Row.keep rR bx5_15
      replace bel := Bel.to bel bx5_15
      replace hu := Rd.below hu bx5_15
      replace hv := Rd.below hv bx5_15
      replace rp := Row.keep rp bx5_15
      clear hN
      go_wp2_with fail
      refine hK.out _ _ ⟨Bel.cellOf bx5_15 hHeld.1,Bel.cellOf bx5_15 hHeld.2.1,Bel.cellOf bx5_15 hHeld.2.2⟩ (fun hHeld => ?_)
      clear hK K bx5_15
      try simp only [List.getElem_toArray,List.getElem_cons_zero,List.getElem_cons_succ,Act.put,zsA,zsB,zsC]
      have cp9 := rp.cell? 0
      have fp9 := rp.frozen 0
      simp only [List.getElem?_cons_zero] at cp9
      refine till_ready (rs := [17]) (by kernel_rfl) (by simp) ?_
      refine TillReady.last (o := _) rfl (by kernel_rfl) (fun K hK => ?_) TillReady.nil
      go_simp
      refine hK.out _ _ ?_
      clear hK K
      try simp only [List.getElem_toArray,List.getElem_cons_zero,List.getElem_cons_succ,Act.put,zsA,zsB,zsC]
      refine till_done (by kernel_rfl) ?_ _
      go_simp
      rw [← hP1.out] at hy
      go_wp2_with fail
      go_meet
      exact ⟨_,ya,yl,yc,rfl,hbp,Row.far rg (p := ⟨_,0,none⟩) (by simp only [];omega) _,Row.far rR (p := ⟨_,0,none⟩) (by simp only [];omega) _,Bel.st bel (p := ⟨_,0,none⟩) (by simp only [];omega) _,Row.set rp 0 _,Rd.setNe hy cp9 (fun _ h => by cases h) _⟩
    ·skip
     go_simp
     obtain ⟨x3_16,hx3_16⟩ : ∃ X,X = x2_13.alloc (.cells #[.slice none 0 0] 30) := ⟨_,rfl⟩
     have bx3_16 : Below x2_13.heap.size x2_13 x3_16 := by rw [hx3_16];exact Bel.al (Below.refl _ _) _
     have rp : Row x3_16 x2_13.heap.size 30 [.slice none 0 0] := by rw [hx3_16];exact Row.newOf _ rfl
     have hbp : w.heap.size + 1 < x2_13.heap.size := rR.lt
     rw [← hx3_16]
     clear hx3_16
     replace rg := GameAt.keep rg bx3_16
     replace rR := Row.keep rR bx3_16
     replace bel := Bel.to bel bx3_16
     replace hu := Rd.below hu bx3_16
     replace hv := Rd.below hv bx3_16
     refine hK.out _ _ ⟨Bel.cellOf bx3_16 hHeld.1,Bel.cellOf bx3_16 hHeld.2.1,Bel.cellOf bx3_16 hHeld.2.2⟩ (fun hHeld => ?_)
     clear hK K bx3_16
     try simp only [List.getElem_toArray,List.getElem_cons_zero,List.getElem_cons_succ,Act.put,zsA,zsB,zsC]
     refine till_ready (rs := [14]) (by kernel_rfl) (by simp) ?_
     refine TillReady.cons (o := _) rfl (fun K hK => ?_) TillReady.nil
     go_simp
     obtain ⟨x4_14,hx4_14⟩ : ∃ X,X = x3_16.alloc (.cells #[.slice ua ul uc,.slice va vl vc] 30) := ⟨_,rfl⟩
     have bx4_14 : Below x3_16.heap.size x3_16 x4_14 := by rw [hx4_14];exact Bel.al (Below.refl _ _) _
     have r21 : Row x4_14 x3_16.heap.size 30 ([(.slice ua ul uc,chZ g.main (m : Int)),(.slice va vl vc,chZ (g.of - g.main) (g.main - (m : Int)))].map (fun p : NatM => p.1)) := by rw [hx4_14];exact Row.newOf _ rfl
     rw [← hx4_14]
     clear hx4_14
     replace rg := GameAt.keep rg bx4_14
     replace rR := Row.keep rR bx4_14
     replace bel := Bel.to bel bx4_14
     replace hu := Rd.below hu bx4_14
     replace hv := Rd.below hv bx4_14
     replace rp := Row.keep rp bx4_14
     have hN := Row.nats (n := 2) r21 rfl (by decide) (fun p hp => by
      simp only [List.mem_cons,List.not_mem_nil,or_false] at hp
      rcases hp with rfl | rfl
      ·exact hu
      ·exact hv)
     clear r21
     refine hK.out _ _ ⟨Bel.cellOf bx4_14 hHeld.1,Bel.cellOf bx4_14 hHeld.2.1,Bel.cellOf bx4_14 hHeld.2.2⟩ (fun hHeld => ?_)
     clear hK K bx4_14
     try simp only [List.getElem_toArray,List.getElem_cons_zero,List.getElem_cons_succ,Act.put,zsA,zsB,zsC]
     refine till_ready (rs := [15]) (by kernel_rfl) (by simp) ?_
     refine TillReady.cons (o := _) rfl (fun K hK => ?_) TillReady.nil
     go_simp
     refine (rprod_any _ _ x4_14 hN hl1 (by simp)).mono ?_
     rintro e x5_15 ⟨y,rfl,hy,bx5_15⟩
     obtain ⟨ya,yl,yc,rfl⟩ := Rd.shape hy
     simp only [List.map_cons,List.map_nil,prodL,Nat.mul_one] at hy
     replace rg := GameAt.keep rg bx5_15
     replace rR := Row.keep rR bx5_15
     replace bel := Bel.to bel bx5_15
     replace hu := Rd.below hu bx5_15
     replace hv := Rd.below hv bx5_15
     replace rp := Row.keep rp bx5_15
     clear hN
     go_wp2_with fail
     refine hK.out _ _ ⟨Bel.cellOf bx5_15 hHeld.1,Bel.cellOf bx5_15 hHeld.2.1,Bel.cellOf bx5_15 hHeld.2.2⟩ (fun hHeld => ?_)
     clear hK K bx5_15
     try simp only [List.getElem_toArray,List.getElem_cons_zero,List.getElem_cons_succ,Act.put,zsA,zsB,zsC]
     have cp9 := rp.cell? 0
     have fp9 := rp.frozen 0
     simp only [List.getElem?_cons_zero] at cp9
     refine till_ready (rs := [17]) (by kernel_rfl) (by simp) ?_
     refine TillReady.last (o := _) rfl (by kernel_rfl) (fun K hK => ?_) TillReady.nil
     go_simp
     refine hK.out _ _ ?_
     clear hK K
     try simp only [List.getElem_toArray,List.getElem_cons_zero,List.getElem_cons_succ,Act.put,zsA,zsB,zsC]
     refine till_done (by kernel_rfl) ?_ _
     go_simp
     rw [← hP1.out] at hy
     go_wp2_with fail
     go_meet
     exact ⟨_,ya,yl,yc,rfl,hbp,Row.far rg (p := ⟨_,0,none⟩) (by simp only [];omega) _,Row.far rR (p := ⟨_,0,none⟩) (by simp only [];omega) _,Bel.st bel (p := ⟨_,0,none⟩) (by simp only [];omega) _,Row.set rp 0 _,Rd.setNe hy cp9 (fun _ h => by cases h) _⟩
   ·skip
    go_simp
    obtain ⟨x2_16,hx2_16⟩ : ∃ X,X = x1_3.alloc (.cells #[.slice none 0 0] 30) := ⟨_,rfl⟩
    have bx2_16 : Below x1_3.heap.size x1_3 x2_16 := by rw [hx2_16];exact Bel.al (Below.refl _ _) _
    have rp : Row x2_16 x1_3.heap.size 30 [.slice none 0 0] := by rw [hx2_16];exact Row.newOf _ rfl
    have hbp : w.heap.size + 1 < x1_3.heap.size := rR.lt
    rw [← hx2_16]
    clear hx2_16
    replace rg := GameAt.keep rg bx2_16
    replace rR := Row.keep rR bx2_16
    replace bel := Bel.to bel bx2_16
    replace hu := Rd.below hu bx2_16
    refine hK.out _ _ ⟨Bel.cellOf bx2_16 hHeld.1,Bel.cellOf bx2_16 hHeld.2.1,Bel.cellOf bx2_16 hHeld.2.2⟩ (fun hHeld => ?_)
    clear hK K bx2_16
    try simp only [List.getElem_toArray,List.getElem_cons_zero,List.getElem_cons_succ,Act.put,zsA,zsB,zsC]
    refine till_ready (rs := [13]) (by kernel_rfl) (by simp) ?_
    refine TillReady.cons (o := _) rfl (fun K hK => ?_) TillReady.nil
    go_simp
    refine (cH.out (g.of - g.main) (g.main - (m : Int)) x2_16 h2).mono ?_
    rintro e x3_13 ⟨v,rfl,hv,bx3_13⟩
    obtain ⟨va,vl,vc,rfl⟩ := Rd.shape hv
    replace rg := GameAt.keep rg bx3_13
    replace rR := Row.keep rR bx3_13
    replace bel := Bel.to bel bx3_13
    replace hu := Rd.below hu bx3_13
    replace rp := Row.keep rp bx3_13
    go_wp2_with fail
    refine hK.out _ _ ⟨Bel.cellOf bx3_13 hHeld.1,Bel.cellOf bx3_13 hHeld.2.1,Bel.cellOf bx3_13 hHeld.2.2⟩ (fun hHeld => ?_)
    clear hK K bx3_13
    try simp only [List.getElem_toArray,List.getElem_cons_zero,List.getElem_cons_succ,Act.put,zsA,zsB,zsC]
    refine till_ready (rs := [14]) (by kernel_rfl) (by simp) ?_
    refine TillReady.cons (o := _) rfl (fun K hK => ?_) TillReady.nil
    go_simp
    obtain ⟨x4_14,hx4_14⟩ : ∃ X,X = x3_13.alloc (.cells #[.slice ua ul uc,.slice va vl vc] 30) := ⟨_,rfl⟩
    have bx4_14 : Below x3_13.heap.size x3_13 x4_14 := by rw [hx4_14];exact Bel.al (Below.refl _ _) _
    have r21 : Row x4_14 x3_13.heap.size 30 ([(.slice ua ul uc,chZ g.main (m : Int)),(.slice va vl vc,chZ (g.of - g.main) (g.main - (m : Int)))].map (fun p : NatM => p.1)) := by rw [hx4_14];exact Row.newOf _ rfl
    rw [← hx4_14]
    clear hx4_14
    replace rg := GameAt.keep rg bx4_14
    replace rR := Row.keep rR bx4_14
    replace bel := Bel.to bel bx4_14
    replace hu := Rd.below hu bx4_14
    replace rp := Row.keep rp bx4_14
    replace hv := Rd.below hv bx4_14
    have hN := Row.nats (n := 2) r21 rfl (by decide) (fun p hp => by
     simp only [List.mem_cons,List.not_mem_nil,or_false] at hp
     rcases hp with rfl | rfl
     ·exact hu
     ·exact hv)
    clear r21
    refine hK.out _ _ ⟨Bel.cellOf bx4_14 hHeld.1,Bel.cellOf bx4_14 hHeld.2.1,Bel.cellOf bx4_14 hHeld.2.2⟩ (fun hHeld => ?_)
    clear hK K bx4_14
    try simp only [List.getElem_toArray,List.getElem_cons_zero,List.getElem_cons_succ,Act.put,zsA,zsB,zsC]
    refine till_ready (rs := [15]) (by kernel_rfl) (by simp) ?_
    refine TillReady.cons (o := _) rfl (fun K hK => ?_) TillReady.nil
    go_simp
    refine (rprod_any _ _ x4_14 hN hl1 (by simp)).mono ?_
    rintro e x5_15 ⟨y,rfl,hy,bx5_15⟩
    obtain ⟨ya,yl,yc,rfl⟩ := Rd.shape hy
    simp only [List.map_cons,List.map_nil,prodL,Nat.mul_one] at hy
    replace rg := GameAt.keep rg bx5_15
    replace rR := Row.keep rR bx5_15
    replace bel := Bel.to bel bx5_15
    replace hu := Rd.below hu bx5_15
    replace rp := Row.keep rp bx5_15
    replace hv := Rd.below hv bx5_15
    clear hN
    go_wp2_with fail
    refine hK.out _ _ ⟨Bel.cellOf bx5_15 hHeld.1,Bel.cellOf bx5_15 hHeld.2.1,Bel.cellOf bx5_15 hHeld.2.2⟩ (fun hHeld => ?_)
    clear hK K bx5_15
    try simp only [List.getElem_toArray,List.getElem_cons_zero,List.getElem_cons_succ,Act.put,zsA,zsB,zsC]
    have cp9 := rp.cell? 0
    have fp9 := rp.frozen 0
    simp only [List.getElem?_cons_zero] at cp9
    refine till_ready (rs := [17]) (by kernel_rfl) (by simp) ?_
    refine TillReady.last (o := _) rfl (by kernel_rfl) (fun K hK => ?_) TillReady.nil
    go_simp
    refine hK.out _ _ ?_
    clear hK K
    try simp only [List.getElem_toArray,List.getElem_cons_zero,List.getElem_cons_succ,Act.put,zsA,zsB,zsC]
    refine till_done (by kernel_rfl) ?_ _
    go_simp
    rw [← hP1.out] at hy
    go_wp2_with fail
    go_meet
    exact ⟨_,ya,yl,yc,rfl,hbp,Row.far rg (p := ⟨_,0,none⟩) (by simp only [];omega) _,Row.far rR (p := ⟨_,0,none⟩) (by simp only [];omega) _,Bel.st bel (p := ⟨_,0,none⟩) (by simp only [];omega) _,Row.set rp 0 _,Rd.setNe hy cp9 (fun _ h => by cases h) _⟩
  ·skip
   go_simp
   obtain ⟨x1_16,hx1_16⟩ : ∃ X,X = Y0.alloc (.cells #[.slice none 0 0] 30) := ⟨_,rfl⟩
   have bx1_16 : Below Y0.heap.size Y0 x1_16 := by rw [hx1_16];exact Bel.al (Below.refl _ _) _
   have rp : Row x1_16 Y0.heap.size 30 [.slice none 0 0] := by rw [hx1_16];exact Row.newOf _ rfl
   have hbp : w.heap.size + 1 < Y0.heap.size := rR.lt
   rw [← hx1_16]
   clear hx1_16
   replace rg := GameAt.keep rg bx1_16
   replace rR := Row.keep rR bx1_16
   replace bel := Bel.to bel bx1_16
   refine hK.out _ _ ⟨Bel.cellOf bx1_16 hHeld.1,Bel.cellOf bx1_16 hHeld.2.1,Bel.cellOf bx1_16 hHeld.2.2⟩ (fun hHeld => ?_)
   clear hK K bx1_16
   try simp only [List.getElem_toArray,List.getElem_cons_zero,List.getElem_cons_succ,Act.put,zsA,zsB,zsC]
   refine till_ready (rs := [3]) (by kernel_rfl) (by simp) ?_
   refine TillReady.cons (o := _) rfl (fun K hK => ?_) TillReady.nil
   go_simp
   refine (cH.out (g.main) ((m : Int)) x1_16 h1).mono ?_
   rintro e x2_3 ⟨u,rfl,hu,bx2_3⟩
   obtain ⟨ua,ul,uc,rfl⟩ := Rd.shape hu
   replace rg := GameAt.keep rg bx2_3
   replace rR := Row.keep rR bx2_3
   replace bel := Bel.to bel bx2_3
   replace rp := Row.keep rp bx2_3
   go_wp2_with fail
   refine hK.out _ _ ⟨Bel.cellOf bx2_3 hHeld.1,Bel.cellOf bx2_3 hHeld.2.1,Bel.cellOf bx2_3 hHeld.2.2⟩ (fun hHeld => ?_)
   clear hK K bx2_3
   try simp only [List.getElem_toArray,List.getElem_cons_zero,List.getElem_cons_succ,Act.put,zsA,zsB,zsC]
   refine till_ready (rs := [13]) (by kernel_rfl) (by simp) ?_
   refine TillReady.cons (o := _) rfl (fun K hK => ?_) TillReady.nil
   go_simp
   refine (cH.out (g.of - g.main) (g.main - (m : Int)) x2_3 h2).mono ?_
   rintro e x3_13 ⟨v,rfl,hv,bx3_13⟩
   obtain ⟨va,vl,vc,rfl⟩ := Rd.shape hv
   replace rg := GameAt.keep rg bx3_13
   replace rR := Row.keep rR bx3_13
   replace bel := Bel.to bel bx3_13
   replace rp := Row.keep rp bx3_13
   replace hu := Rd.below hu bx3_13
   go_wp2_with fail
   refine hK.out _ _ ⟨Bel.cellOf bx3_13 hHeld.1,Bel.cellOf bx3_13 hHeld.2.1,Bel.cellOf bx3_13 hHeld.2.2⟩ (fun hHeld => ?_)
   clear hK K bx3_13
   try simp only [List.getElem_toArray,List.getElem_cons_zero,List.getElem_cons_succ,Act.put,zsA,zsB,zsC]
   refine till_ready (rs := [14]) (by kernel_rfl) (by simp) ?_
   refine TillReady.cons (o := _) rfl (fun K hK => ?_) TillReady.nil
   go_simp
   obtain ⟨x4_14,hx4_14⟩ : ∃ X,X = x3_13.alloc (.cells #[.slice ua ul uc,.slice va vl vc] 30) := ⟨_,rfl⟩
   have bx4_14 : Below x3_13.heap.size x3_13 x4_14 := by rw [hx4_14];exact Bel.al (Below.refl _ _) _
   have r21 : Row x4_14 x3_13.heap.size 30 ([(.slice ua ul uc,chZ g.main (m : Int)),(.slice va vl vc,chZ (g.of - g.main) (g.main - (m : Int)))].map (fun p : NatM => p.1)) := by rw [hx4_14];exact Row.newOf _ rfl
   rw [← hx4_14]
   clear hx4_14
   replace rg := GameAt.keep rg bx4_14
   replace rR := Row.keep rR bx4_14
   replace bel := Bel.to bel bx4_14
   replace rp := Row.keep rp bx4_14
   replace hu := Rd.below hu bx4_14
   replace hv := Rd.below hv bx4_14
   have hN := Row.nats (n := 2) r21 rfl (by decide) (fun p hp => by
    simp only [List.mem_cons,List.not_mem_nil,or_false] at hp
    rcases hp with rfl | rfl
    ·exact hu
    ·exact hv)
   clear r21
   refine hK.out _ _ ⟨Bel.cellOf bx4_14 hHeld.1,Bel.cellOf bx4_14 hHeld.2.1,Bel.cellOf bx4_14 hHeld.2.2⟩ (fun hHeld => ?_)
   clear hK K bx4_14
   try simp only [List.getElem_toArray,List.getElem_cons_zero,List.getElem_cons_succ,Act.put,zsA,zsB,zsC]
   refine till_ready (rs := [15]) (by kernel_rfl) (by simp) ?_
   refine TillReady.cons (o := _) rfl (fun K hK => ?_) TillReady.nil
   go_simp
   refine (rprod_any _ _ x4_14 hN hl1 (by simp)).mono ?_
   rintro e x5_15 ⟨y,rfl,hy,bx5_15⟩
   obtain ⟨ya,yl,yc,rfl⟩ := Rd.shape hy
   simp only [List.map_cons,List.map_nil,prodL,Nat.mul_one] at hy
   replace rg := GameAt.keep rg bx5_15
   replace rR := Row.keep rR bx5_15
   replace bel := Bel.to bel bx5_15
   replace rp := Row.keep rp bx5_15
   replace hu := Rd.below hu bx5_15
   replace hv := Rd.below hv bx5_15
   clear hN
   go_wp2_with fail
   refine hK.out _ _ ⟨Bel.cellOf bx5_15 hHeld.1,Bel.cellOf bx5_15 hHeld.2.1,Bel.cellOf bx5_15 hHeld.2.2⟩ (fun hHeld => ?_)
   clear hK K bx5_15
   try simp only [List.getElem_toArray,List.getElem_cons_zero,List.getElem_cons_succ,Act.put,zsA,zsB,zsC]
   have cp9 := rp.cell? 0
   have fp9 := rp.frozen 0
   simp only [List.getElem?_cons_zero] at cp9
   refine till_ready (rs := [17]) (by kernel_rfl) (by simp) ?_
   refine TillReady.last (o := _) rfl (by kernel_rfl) (fun K hK => ?_) TillReady.nil
   go_simp
   refine hK.out _ _ ?_
   clear hK K
   try simp only [List.getElem_toArray,List.getElem_cons_zero,List.getElem_cons_succ,Act.put,zsA,zsB,zsC]
   refine till_done (by kernel_rfl) ?_ _
   go_simp
   rw [← hP1.out] at hy
   go_wp2_with fail
   go_meet
   exact ⟨_,ya,yl,yc,rfl,hbp,Row.far rg (p := ⟨_,0,none⟩) (by simp only [];omega) _,Row.far rR (p := ⟨_,0,none⟩) (by simp only [];omega) _,Bel.st bel (p := ⟨_,0,none⟩) (by simp only [];omega) _,Row.set rp 0 _,Rd.setNe hy cp9 (fun _ h => by cases h) _⟩
 case rest =>
  clear rg rR bel c3 c4 c7
  obtain ⟨b9,pa,pl,pc,rfl,h9,rg,rR,bel,r9,hp⟩ := hcut
  have c3 := rg.main
  have c4 := rg.of
  have c7 := rg.extra
  go_upto_region 2 with (fail)
  go_cut [10] (fun p X => ∃ (b10 : Nat) (qa : Option Addr) (ql qc : Nat),p = .pointer (some ⟨b10,0,none⟩) ∧ b9 < b10 ∧ GameAt X w.heap.size g (.slice aa an ac) (.slice ta tn tc) ∧ Row X (w.heap.size + 1) 30 [.slice none 0 0] ∧ Below w.heap.size w X ∧ (Row X b9 30 [.slice pa pl pc] ∧ NV X (.slice pa pl pc) P1) ∧ Row X b10 30 [.slice qa ql qc] ∧ NV X (.slice qa ql qc) P2)
  case first =>
   refine till_begin 22 (fun X => X.cell? ⟨w.heap.size,3,none⟩ = some (.int .i64 g.main) ∧ X.cell? ⟨w.heap.size,4,none⟩ = some (.int .i64 g.of) ∧ X.cell? ⟨w.heap.size,7,none⟩ = some (.int .i64 g.extra)) (by kernel_rfl) (⟨c3,c4,c7⟩) (fun hHeld => ?_)
   refine' till_pure (i := 0) (oi := _) (v := .pointer (some ⟨w.heap.size,3,none⟩)) rfl (by kernel_rfl) (by kernel_rfl) (by kernel_rfl) (by kernel_rfl) (fun _ _ _ h => h) (Or.inl ⟨by first | (go_simp;done) | rfl,fun X _ => by go_simp⟩) hHeld ?_
   try simp only [List.getElem_toArray,List.getElem_cons_zero,List.getElem_cons_succ,Act.put,zsA,zsB,zsC]
   refine' till_take (i := 1) (oi := _) (v := .int .i64 g.main) rfl (by kernel_rfl) (by kernel_rfl) (by kernel_rfl) (by kernel_rfl) (fun _ _ _ h => h) (Or.inl ⟨by first | (go_simp;done) | rfl,fun X hX => by have h0 := hX.1;go_simp⟩) hHeld ?_
   try simp only [List.getElem_toArray,List.getElem_cons_zero,List.getElem_cons_succ,Act.put,zsA,zsB,zsC]
   refine' till_pure (i := 2) (oi := _) (v := .int .i64 (m : Int)) rfl (by kernel_rfl) (by kernel_rfl) (by kernel_rfl) (by kernel_rfl) (fun _ _ _ h => h) (Or.inl ⟨by first | (go_simp;done) | rfl,fun X _ => by go_simp⟩) hHeld ?_
   try simp only [List.getElem_toArray,List.getElem_cons_zero,List.getElem_cons_succ,Act.put,zsA,zsB,zsC]
   refine' till_pure (i := 3) (oi := _) (v := .int .i64 (g.main - (m : Int))) rfl (by kernel_rfl) (by kernel_rfl) (by kernel_rfl) (by kernel_rfl) (fun _ _ _ h => h) (Or.inl ⟨by first | (go_simp;done) | rfl,fun X _ => by go_simp⟩) hHeld ?_
   try simp only [List.getElem_toArray,List.getElem_cons_zero,List.getElem_cons_succ,Act.put,zsA,zsB,zsC]
   refine' till_pure (i := 4) (oi := _) (v := .int .i64 (x : Int)) rfl (by kernel_rfl) (by kernel_rfl) (by kernel_rfl) (by kernel_rfl) (fun _ _ _ h => h) (Or.inl ⟨by first | (go_simp;done) | rfl,fun X _ => by go_simp⟩) hHeld ?_
   try simp only [List.getElem_toArray,List.getElem_cons_zero,List.getElem_cons_succ,Act.put,zsA,zsB,zsC]
   refine' till_pure (i := 6) (oi := _) (v := .pointer (some ⟨w.heap.size,4,none⟩)) rfl (by kernel_rfl) (by kernel_rfl) (by kernel_rfl) (by kernel_rfl) (fun _ _ _ h => h) (Or.inl ⟨by first | (go_simp;done) | rfl,fun X _ => by go_simp⟩) hHeld ?_
   try simp only [List.getElem_toArray,List.getElem_cons_zero,List.getElem_cons_succ,Act.put,zsA,zsB,zsC]
   refine' till_take (i := 7) (oi := _) (v := .int .i64 g.of) rfl (by kernel_rfl) (by kernel_rfl) (by kernel_rfl) (by kernel_rfl) (fun _ _ _ h => h) (Or.inl ⟨by first | (go_simp;done) | rfl,fun X hX => by have h0 := hX.2.1;go_simp⟩) hHeld ?_
   try simp only [List.getElem_toArray,List.getElem_cons_zero,List.getElem_cons_succ,Act.put,zsA,zsB,zsC]
   refine' till_pure (i := 8) (oi := _) (v := .pointer (some ⟨w.heap.size,3,none⟩)) rfl (by kernel_rfl) (by kernel_rfl) (by kernel_rfl) (by kernel_rfl) (fun _ _ _ h => h) (Or.inl ⟨by first | (go_simp;done) | rfl,fun X _ => by go_simp⟩) hHeld ?_
   try simp only [List.getElem_toArray,List.getElem_cons_zero,List.getElem_cons_succ,Act.put,zsA,zsB,zsC]
   refine' till_take (i := 9) (oi := _) (v := .int .i64 g.main) rfl (by kernel_rfl) (by kernel_rfl) (by kernel_rfl) (by kernel_rfl) (fun _ _ _ h => h) (Or.inl ⟨by first | (go_simp;done) | rfl,fun X hX => by have h0 := hX.1;go_simp⟩) hHeld ?_
   try simp only [List.getElem_toArray,List.getElem_cons_zero,List.getElem_cons_succ,Act.put,zsA,zsB,zsC]
   refine' till_pure (i := 10) (oi := _) (v := .int .i64 (2 * g.main)) rfl (by kernel_rfl) (by kernel_rfl) (by kernel_rfl) (by kernel_rfl) (fun _ _ _ h => h) (Or.inl ⟨by first | (go_simp;done) | rfl,fun X _ => by go_simp⟩) hHeld ?_
   try simp only [List.getElem_toArray,List.getElem_cons_zero,List.getElem_cons_succ,Act.put,zsA,zsB,zsC]
   refine' till_pure (i := 11) (oi := _) (v := .int .i64 (g.of - 2 * g.main)) rfl (by kernel_rfl) (by kernel_rfl) (by kernel_rfl) (by kernel_rfl) (fun _ _ _ h => h) (Or.inl ⟨by first | (go_simp;done) | rfl,fun X _ => by go_simp⟩) hHeld ?_
   try simp only [List.getElem_toArray,List.getElem_cons_zero,List.getElem_cons_succ,Act.put,zsA,zsB,zsC]
   refine' till_pure (i := 12) (oi := _) (v := .int .i64 (m : Int)) rfl (by kernel_rfl) (by kernel_rfl) (by kernel_rfl) (by kernel_rfl) (fun _ _ _ h => h) (Or.inl ⟨by first | (go_simp;done) | rfl,fun X _ => by go_simp⟩) hHeld ?_
   try simp only [List.getElem_toArray,List.getElem_cons_zero,List.getElem_cons_succ,Act.put,zsA,zsB,zsC]
   refine' till_pure (i := 13) (oi := _) (v := .int .i64 (g.of - 2 * g.main + (m : Int))) rfl (by kernel_rfl) (by kernel_rfl) (by kernel_rfl) (by kernel_rfl) (fun _ _ _ h => h) (Or.inl ⟨by first | (go_simp;done) | rfl,fun X _ => by go_simp⟩) hHeld ?_
   try simp only [List.getElem_toArray,List.getElem_cons_zero,List.getElem_cons_succ,Act.put,zsA,zsB,zsC]
   refine' till_pure (i := 14) (oi := _) (v := .pointer (some ⟨w.heap.size,7,none⟩)) rfl (by kernel_rfl) (by kernel_rfl) (by kernel_rfl) (by kernel_rfl) (fun _ _ _ h => h) (Or.inl ⟨by first | (go_simp;done) | rfl,fun X _ => by go_simp⟩) hHeld ?_
   try simp only [List.getElem_toArray,List.getElem_cons_zero,List.getElem_cons_succ,Act.put,zsA,zsB,zsC]
   refine' till_take (i := 15) (oi := _) (v := .int .i64 g.extra) rfl (by kernel_rfl) (by kernel_rfl) (by kernel_rfl) (by kernel_rfl) (fun _ _ _ h => h) (Or.inl ⟨by first | (go_simp;done) | rfl,fun X hX => by have h0 := hX.2.2;go_simp⟩) hHeld ?_
   try simp only [List.getElem_toArray,List.getElem_cons_zero,List.getElem_cons_succ,Act.put,zsA,zsB,zsC]
   refine' till_pure (i := 16) (oi := _) (v := .int .i64 (x : Int)) rfl (by kernel_rfl) (by kernel_rfl) (by kernel_rfl) (by kernel_rfl) (fun _ _ _ h => h) (Or.inl ⟨by first | (go_simp;done) | rfl,fun X _ => by go_simp⟩) hHeld ?_
   try simp only [List.getElem_toArray,List.getElem_cons_zero,List.getElem_cons_succ,Act.put,zsA,zsB,zsC]
   refine' till_pure (i := 17) (oi := _) (v := .int .i64 (g.extra - (x : Int))) rfl (by kernel_rfl) (by kernel_rfl) (by kernel_rfl) (by kernel_rfl) (fun _ _ _ h => h) (Or.inl ⟨by first | (go_simp;done) | rfl,fun X _ => by go_simp⟩) hHeld ?_
   try simp only [List.getElem_toArray,List.getElem_cons_zero,List.getElem_cons_succ,Act.put,zsA,zsB,zsC]
   obtain ⟨Y0,hY0⟩ : ∃ Y,Y = wc.drew := ⟨_,rfl⟩
   have hY1 : Below wc.heap.size wc Y0 := by rw [hY0];exact Below.drew (Below.refl _ _)
   replace rg := GameAt.keep rg hY1
   replace rR := Row.keep rR hY1
   replace bel := Bel.to bel hY1
   replace r9 := Row.keep r9 hY1
   replace hp := Rd.below hp hY1
   rw [← hY0] at hHeld ⊢
   clear hY0 hY1 c3 c4 c7
   refine till_ready (rs := [5,21]) (by kernel_rfl) (by simp) ?_
   refine TillReady.cons (o := _) rfl (fun K hK => ?_) (TillReady.cons (o := _) rfl (fun K hK => ?_) TillReady.nil)
   ·skip
    go_simp
    refine (cH.out (g.main - (m : Int)) ((x : Int)) Y0 h3).mono ?_
    rintro e x1_5 ⟨u,rfl,hu,bx1_5⟩
    obtain ⟨ua,ul,uc,rfl⟩ := Rd.shape hu
    replace rg := GameAt.keep rg bx1_5
    replace rR := Row.keep rR bx1_5
    replace bel := Bel.to bel bx1_5
    replace r9 := Row.keep r9 bx1_5
    replace hp := Rd.below hp bx1_5
    go_wp2_with fail
    refine hK.out _ _ ⟨Bel.cellOf bx1_5 hHeld.1,Bel.cellOf bx1_5 hHeld.2.1,Bel.cellOf bx1_5 hHeld.2.2⟩ (fun hHeld => ?_)
    clear hK K bx1_5
    try simp only [List.getElem_toArray,List.getElem_cons_zero,List.getElem_cons_succ,Act.put,zsA,zsB,zsC]
    refine till_ready (rs := [18,21]) (by kernel_rfl) (by simp) ?_
    refine TillReady.cons (o := _) rfl (fun K hK => ?_) (TillReady.cons (o := _) rfl (fun K hK => ?_) TillReady.nil)
    ·skip
     go_simp
     refine (cH.out (g.of - 2 * g.main + (m : Int)) (g.extra - (x : Int)) x1_5 h4).mono ?_
     rintro e x2_18 ⟨v,rfl,hv,bx2_18⟩
     obtain ⟨va,vl,vc,rfl⟩ := Rd.shape hv
     replace rg := GameAt.keep rg bx2_18
     replace rR := Row.keep rR bx2_18
     replace bel := Bel.to bel bx2_18
     replace r9 := Row.keep r9 bx2_18
     replace hp := Rd.below hp bx2_18
     replace hu := Rd.below hu bx2_18
     go_wp2_with fail
     refine hK.out _ _ ⟨Bel.cellOf bx2_18 hHeld.1,Bel.cellOf bx2_18 hHeld.2.1,Bel.cellOf bx2_18 hHeld.2.2⟩ (fun hHeld => ?_)
     clear hK K bx2_18
     try simp only [List.getElem_toArray,List.getElem_cons_zero,List.getElem_cons_succ,Act.put,zsA,zsB,zsC]
     refine till_ready (rs := [19,21]) (by kernel_rfl) (by simp) ?_
     refine TillReady.cons (o := _) rfl (fun K hK => ?_) (TillReady.cons (o := _) rfl (fun K hK => ?_) TillReady.nil)
     ·skip
      go_simp
      obtain ⟨x3_19,hx3_19⟩ : ∃ X,X = x2_18.alloc (.cells #[.slice ua ul uc,.slice va vl vc] 30) := ⟨_,rfl⟩
      have bx3_19 : Below x2_18.heap.size x2_18 x3_19 := by rw [hx3_19];exact Bel.al (Below.refl _ _) _
      have r21 : Row x3_19 x2_18.heap.size 30 ([(.slice ua ul uc,chZ (g.main - (m : Int)) (x : Int)),(.slice va vl vc,chZ (g.of - 2 * g.main + (m : Int)) (g.extra - (x : Int)))].map (fun p : NatM => p.1)) := by rw [hx3_19];exact Row.newOf _ rfl
      rw [← hx3_19]
      clear hx3_19
      replace rg := GameAt.keep rg bx3_19
      replace rR := Row.keep rR bx3_19
      replace bel := Bel.to bel bx3_19
      replace r9 := Row.keep r9 bx3_19
      replace hp := Rd.below hp bx3_19
      replace hu := Rd.below hu bx3_19
      replace hv := Rd.below hv bx3_19
      have hN := Row.nats (n := 2) r21 rfl (by decide) (fun p hp => by
       simp only [List.mem_cons,List.not_mem_nil,or_false] at hp
       rcases hp with rfl | rfl
       ·exact hu
       ·exact hv)
      clear r21
      refine hK.out _ _ ⟨Bel.cellOf bx3_19 hHeld.1,Bel.cellOf bx3_19 hHeld.2.1,Bel.cellOf bx3_19 hHeld.2.2⟩ (fun hHeld => ?_)
      clear hK K bx3_19
      try simp only [List.getElem_toArray,List.getElem_cons_zero,List.getElem_cons_succ,Act.put,zsA,zsB,zsC]
      refine till_ready (rs := [20,21]) (by kernel_rfl) (by simp) ?_
      refine TillReady.cons (o := _) rfl (fun K hK => ?_) (TillReady.cons (o := _) rfl (fun K hK => ?_) TillReady.nil)
      ·skip
       go_simp
       refine (rprod_any _ _ x3_19 hN hl2 (by simp)).mono ?_
       rintro e x4_20 ⟨y,rfl,hy,bx4_20⟩
       obtain ⟨ya,yl,yc,rfl⟩ := Rd.shape hy
       simp only [List.map_cons,List.map_nil,prodL,Nat.mul_one] at hy
       replace rg := GameAt.keep rg bx4_20
       replace rR := Row.keep rR bx4_20
       replace bel := Bel.to bel bx4_20
       replace r9 := Row.keep r9 bx4_20
       replace hp := Rd.below hp bx4_20
       replace hu := Rd.below hu bx4_20
       replace hv := Rd.below hv bx4_20
       clear hN
       go_wp2_with fail
       refine hK.out _ _ ⟨Bel.cellOf bx4_20 hHeld.1,Bel.cellOf bx4_20 hHeld.2.1,Bel.cellOf bx4_20 hHeld.2.2⟩ (fun hHeld => ?_)
       clear hK K bx4_20
       try simp only [List.getElem_toArray,List.getElem_cons_zero,List.getElem_cons_succ,Act.put,zsA,zsB,zsC]
       refine till_ready (rs := [21]) (by kernel_rfl) (by simp) ?_
       refine TillReady.cons (o := _) rfl (fun K hK => ?_) TillReady.nil
       go_simp
       obtain ⟨x5_21,hx5_21⟩ : ∃ X,X = x4_20.alloc (.cells #[.slice none 0 0] 30) := ⟨_,rfl⟩
       have bx5_21 : Below x4_20.heap.size x4_20 x5_21 := by rw [hx5_21];exact Bel.al (Below.refl _ _) _
       have rp : Row x5_21 x4_20.heap.size 30 [.slice none 0 0] := by rw [hx5_21];exact Row.newOf _ rfl
       have hbp : b9 < x4_20.heap.size := r9.lt
       rw [← hx5_21]
       clear hx5_21
       replace rg := GameAt.keep rg bx5_21
       replace rR := Row.keep rR bx5_21
       replace bel := Bel.to bel bx5_21
       replace r9 := Row.keep r9 bx5_21
       replace hp := Rd.below hp bx5_21
       replace hu := Rd.below hu bx5_21
       replace hv := Rd.below hv bx5_21
       replace hy := Rd.below hy bx5_21
       refine hK.out _ _ ⟨Bel.cellOf bx5_21 hHeld.1,Bel.cellOf bx5_21 hHeld.2.1,Bel.cellOf bx5_21 hHeld.2.2⟩ (fun hHeld => ?_)
       clear hK K bx5_21
       try simp only [List.getElem_toArray,List.getElem_cons_zero,List.getElem_cons_succ,Act.put,zsA,zsB,zsC]
       have cp9 := rp.cell? 0
       have fp9 := rp.frozen 0
       simp only [List.getElem?_cons_zero] at cp9
       refine till_ready (rs := [22]) (by kernel_rfl) (by simp) ?_
       refine TillReady.last (o := _) rfl (by kernel_rfl) (fun K hK => ?_) TillReady.nil
       go_simp
       refine hK.out _ _ ?_
       clear hK K
       try simp only [List.getElem_toArray,List.getElem_cons_zero,List.getElem_cons_succ,Act.put,zsA,zsB,zsC]
       refine till_done (by kernel_rfl) ?_ _
       go_simp
       rw [← hP2.out] at hy
       go_wp2_with fail
       go_meet
       exact ⟨_,ya,yl,yc,rfl,hbp,Row.far rg (p := ⟨_,0,none⟩) (by simp only [];omega) _,Row.far rR (p := ⟨_,0,none⟩) (by simp only [];omega) _,Bel.st bel (p := ⟨_,0,none⟩) (by simp only [];omega) _,⟨Row.far r9 (p := ⟨_,0,none⟩) (by simp only [];omega) _,Rd.setNe hp cp9 (fun _ h => by cases h) _⟩,Row.set rp 0 _,Rd.setNe hy cp9 (fun _ h => by cases h) _⟩
      ·skip
       go_simp
       obtain ⟨x4_21,hx4_21⟩ : ∃ X,X = x3_19.alloc (.cells #[.slice none 0 0] 30) := ⟨_,rfl⟩
       have bx4_21 : Below x3_19.heap.size x3_19 x4_21 := by rw [hx4_21];exact Bel.al (Below.refl _ _) _
       have rp : Row x4_21 x3_19.heap.size 30 [.slice none 0 0] := by rw [hx4_21];exact Row.newOf _ rfl
       have hbp : b9 < x3_19.heap.size := r9.lt
       rw [← hx4_21]
       clear hx4_21
       replace rg := GameAt.keep rg bx4_21
       replace rR := Row.keep rR bx4_21
       replace bel := Bel.to bel bx4_21
       replace r9 := Row.keep r9 bx4_21
       replace hp := Rd.below hp bx4_21
       replace hu := Rd.below hu bx4_21
       replace hv := Rd.below hv bx4_21
       replace hN := hN.below bx4_21
       refine hK.out _ _ ⟨Bel.cellOf bx4_21 hHeld.1,Bel.cellOf bx4_21 hHeld.2.1,Bel.cellOf bx4_21 hHeld.2.2⟩ (fun hHeld => ?_)
       clear hK K bx4_21
       try simp only [List.getElem_toArray,List.getElem_cons_zero,List.getElem_cons_succ,Act.put,zsA,zsB,zsC]
       refine till_ready (rs := [20]) (by kernel_rfl) (by simp) ?_
       refine TillReady.cons (o := _) rfl (fun K hK => ?_) TillReady.nil
       go_simp
       refine (rprod_any _ _ x4_21 hN hl2 (by simp)).mono ?_
       rintro e x5_20 ⟨y,rfl,hy,bx5_20⟩
       obtain ⟨ya,yl,yc,rfl⟩ := Rd.shape hy
       simp only [List.map_cons,List.map_nil,prodL,Nat.mul_one] at hy
       replace rg := GameAt.keep rg bx5_20
       replace rR := Row.keep rR bx5_20
       replace bel := Bel.to bel bx5_20
       replace r9 := Row.keep r9 bx5_20
       replace hp := Rd.below hp bx5_20
       replace hu := Rd.below hu bx5_20
       replace hv := Rd.below hv bx5_20
       replace rp := Row.keep rp bx5_20
       clear hN
       go_wp2_with fail
       refine hK.out _ _ ⟨Bel.cellOf bx5_20 hHeld.1,Bel.cellOf bx5_20 hHeld.2.1,Bel.cellOf bx5_20 hHeld.2.2⟩ (fun hHeld => ?_)
       clear hK K bx5_20
       try simp only [List.getElem_toArray,List.getElem_cons_zero,List.getElem_cons_succ,Act.put,zsA,zsB,zsC]
       have cp9 := rp.cell? 0
       have fp9 := rp.frozen 0
       simp only [List.getElem?_cons_zero] at cp9
       refine till_ready (rs := [22]) (by kernel_rfl) (by simp) ?_
       refine TillReady.last (o := _) rfl (by kernel_rfl) (fun K hK => ?_) TillReady.nil
       go_simp
       refine hK.out _ _ ?_
       clear hK K
       try simp only [List.getElem_toArray,List.getElem_cons_zero,List.getElem_cons_succ,Act.put,zsA,zsB,zsC]
       refine till_done (by kernel_rfl) ?_ _
       go_simp
       rw [← hP2.out] at hy
       go_wp2_with fail
       go_meet
       exact ⟨_,ya,yl,yc,rfl,hbp,Row.far rg (p := ⟨_,0,none⟩) (by simp only [];omega) _,Row.far rR (p := ⟨_,0,none⟩) (by simp only [];omega) _,Bel.st bel (p := ⟨_,0,none⟩) (by simp only [];omega) _,⟨Row.far r9 (p := ⟨_,0,none⟩) (by simp only [];omega) _,Rd.setNe hp cp9 (fun _ h => by cases h) _⟩,Row.set rp 0 _,Rd.setNe hy cp9 (fun _ h => by cases h) _⟩
     ·skip
      go_simp
      obtain ⟨x3_21,hx3_21⟩ : ∃ X,X = x2_18.alloc (.cells #[.slice none 0 0] 30) := ⟨_,rfl⟩
      have bx3_21 : Below x2_18.heap.size x2_18 x3_21 := by rw [hx3_21];exact Bel.al (Below.refl _ _) _
      have rp : Row x3_21 x2_18.heap.size 30 [.slice none 0 0] := by rw [hx3_21];exact Row.newOf _ rfl
      have hbp : b9 < x2_18.heap.size := r9.lt
      rw [← hx3_21]
      clear hx3_21
      replace rg := GameAt.keep rg bx3_21
      replace rR := Row.keep rR bx3_21
      replace bel := Bel.to bel bx3_21
      replace r9 := Row.keep r9 bx3_21
      replace hp := Rd.below hp bx3_21
      replace hu := Rd.below hu bx3_21
      replace hv := Rd.below hv bx3_21
      refine hK.out _ _ ⟨Bel.cellOf bx3_21 hHeld.1,Bel.cellOf bx3_21 hHeld.2.1,Bel.cellOf bx3_21 hHeld.2.2⟩ (fun hHeld => ?_)
      clear hK K bx3_21
      try simp only [List.getElem_toArray,List.getElem_cons_zero,List.getElem_cons_succ,Act.put,zsA,zsB,zsC]
      refine till_ready (rs := [19]) (by kernel_rfl) (by simp) ?_
      refine TillReady.cons (o := _) rfl (fun K hK => ?_) TillReady.nil
      go_simp
      obtain ⟨x4_19,hx4_19⟩ : ∃ X,X = x3_21.alloc (.cells #[.slice ua ul uc,.slice va vl vc] 30) := ⟨_,rfl⟩
      have bx4_19 : Below x3_21.heap.size x3_21 x4_19 := by rw [hx4_19];exact Bel.al (Below.refl _ _) _
      have r21 : Row x4_19 x3_21.heap.size 30 ([(.slice ua ul uc,chZ (g.main - (m : Int)) (x : Int)),(.slice va vl vc,chZ (g.of - 2 * g.main + (m : Int)) (g.extra - (x : Int)))].map (fun p : NatM => p.1)) := by rw [hx4_19];exact Row.newOf _ rfl
      rw [← hx4_19]
      clear hx4_19
      replace rg := GameAt.keep rg bx4_19
      replace rR := Row.keep rR bx4_19
      replace bel := Bel.to bel bx4_19
      replace r9 := Row.keep r9 bx4_19
      replace hp := Rd.below hp bx4_19
      replace hu := Rd.below hu bx4_19
      replace hv := Rd.below hv bx4_19
      replace rp := Row.keep rp bx4_19
      have hN := Row.nats (n := 2) r21 rfl (by decide) (fun p hp => by
       simp only [List.mem_cons,List.not_mem_nil,or_false] at hp
       rcases hp with rfl | rfl
       ·exact hu
       ·exact hv)
      clear r21
      refine hK.out _ _ ⟨Bel.cellOf bx4_19 hHeld.1,Bel.cellOf bx4_19 hHeld.2.1,Bel.cellOf bx4_19 hHeld.2.2⟩ (fun hHeld => ?_)
      clear hK K bx4_19
      try simp only [List.getElem_toArray,List.getElem_cons_zero,List.getElem_cons_succ,Act.put,zsA,zsB,zsC]
      refine till_ready (rs := [20]) (by kernel_rfl) (by simp) ?_
      refine TillReady.cons (o := _) rfl (fun K hK => ?_) TillReady.nil
      go_simp
      refine (rprod_any _ _ x4_19 hN hl2 (by simp)).mono ?_
      rintro e x5_20 ⟨y,rfl,hy,bx5_20⟩
      obtain ⟨ya,yl,yc,rfl⟩ := Rd.shape hy
      simp only [List.map_cons,List.map_nil,prodL,Nat.mul_one] at hy
      replace rg := GameAt.keep rg bx5_20
      replace rR := Row.keep rR bx5_20
      replace bel := Bel.to bel bx5_20
      replace r9 := Row.keep r9 bx5_20
      replace hp := Rd.below hp bx5_20
      replace hu := Rd.below hu bx5_20
      replace hv := Rd.below hv bx5_20
      replace rp := Row.keep rp bx5_20
      clear hN
      go_wp2_with fail
      refine hK.out _ _ ⟨Bel.cellOf bx5_20 hHeld.1,Bel.cellOf bx5_20 hHeld.2.1,Bel.cellOf bx5_20 hHeld.2.2⟩ (fun hHeld => ?_)
      clear hK K bx5_20
      try simp only [List.getElem_toArray,List.getElem_cons_zero,List.getElem_cons_succ,Act.put,zsA,zsB,zsC]
      have cp9 := rp.cell? 0
      have fp9 := rp.frozen 0
      simp only [List.getElem?_cons_zero] at cp9
      refine till_ready (rs := [22]) (by kernel_rfl) (by simp) ?_
      refine TillReady.last (o := _) rfl (by kernel_rfl) (fun K hK => ?_) TillReady.nil
      go_simp
      refine hK.out _ _ ?_
      clear hK K
      try simp only [List.getElem_toArray,List.getElem_cons_zero,List.getElem_cons_succ,Act.put,zsA,zsB,zsC]
      refine till_done (by kernel_rfl) ?_ _
      go_simp
      rw [← hP2.out] at hy
      go_wp2_with fail
      go_meet
      exact ⟨_,ya,yl,yc,rfl,hbp,Row.far rg (p := ⟨_,0,none⟩) (by simp only [];omega) _,Row.far rR (p := ⟨_,0,none⟩) (by simp only [];omega) _,Bel.st bel (p := ⟨_,0,none⟩) (by simp only [];omega) _,⟨Row.far r9 (p := ⟨_,0,none⟩) (by simp only [];omega) _,Rd.setNe hp cp9 (fun _ h => by cases h) _⟩,Row.set rp 0 _,Rd.setNe hy cp9 (fun _ h => by cases h) _⟩
    ·skip
     go_simp
     obtain ⟨x2_21,hx2_21⟩ : ∃ X,X = x1_5.alloc (.cells #[.slice none 0 0] 30) := ⟨_,rfl⟩
     have bx2_21 : Below x1_5.heap.size x1_5 x2_21 := by rw [hx2_21];exact Bel.al (Below.refl _ _) _
     have rp : Row x2_21 x1_5.heap.size 30 [.slice none 0 0] := by rw [hx2_21];exact Row.newOf _ rfl
     have hbp : b9 < x1_5.heap.size := r9.lt
     rw [← hx2_21]
     clear hx2_21
     replace rg := GameAt.keep rg bx2_21
     replace rR := Row.keep rR bx2_21
     replace bel := Bel.to bel bx2_21
     replace r9 := Row.keep r9 bx2_21
     replace hp := Rd.below hp bx2_21
     replace hu := Rd.below hu bx2_21
     refine hK.out _ _ ⟨Bel.cellOf bx2_21 hHeld.1,Bel.cellOf bx2_21 hHeld.2.1,Bel.cellOf bx2_21 hHeld.2.2⟩ (fun hHeld => ?_)
     clear hK K bx2_21
     try simp only [List.getElem_toArray,List.getElem_cons_zero,List.getElem_cons_succ,Act.put,zsA,zsB,zsC]
     refine till_ready (rs := [18]) (by kernel_rfl) (by simp) ?_
     refine TillReady.cons (o := _) rfl (fun K hK => ?_) TillReady.nil
     go_simp
     refine (cH.out (g.of - 2 * g.main + (m : Int)) (g.extra - (x : Int)) x2_21 h4).mono ?_
     rintro e x3_18 ⟨v,rfl,hv,bx3_18⟩
     obtain ⟨va,vl,vc,rfl⟩ := Rd.shape hv
     replace rg := GameAt.keep rg bx3_18
     replace rR := Row.keep rR bx3_18
     replace bel := Bel.to bel bx3_18
     replace r9 := Row.keep r9 bx3_18
     replace hp := Rd.below hp bx3_18
     replace hu := Rd.below hu bx3_18
     replace rp := Row.keep rp bx3_18
     go_wp2_with fail
     refine hK.out _ _ ⟨Bel.cellOf bx3_18 hHeld.1,Bel.cellOf bx3_18 hHeld.2.1,Bel.cellOf bx3_18 hHeld.2.2⟩ (fun hHeld => ?_)
     clear hK K bx3_18
     try simp only [List.getElem_toArray,List.getElem_cons_zero,List.getElem_cons_succ,Act.put,zsA,zsB,zsC]
     refine till_ready (rs := [19]) (by kernel_rfl) (by simp) ?_
     refine TillReady.cons (o := _) rfl (fun K hK => ?_) TillReady.nil
     go_simp
     obtain ⟨x4_19,hx4_19⟩ : ∃ X,X = x3_18.alloc (.cells #[.slice ua ul uc,.slice va vl vc] 30) := ⟨_,rfl⟩
     have bx4_19 : Below x3_18.heap.size x3_18 x4_19 := by rw [hx4_19];exact Bel.al (Below.refl _ _) _
     have r21 : Row x4_19 x3_18.heap.size 30 ([(.slice ua ul uc,chZ (g.main - (m : Int)) (x : Int)),(.slice va vl vc,chZ (g.of - 2 * g.main + (m : Int)) (g.extra - (x : Int)))].map (fun p : NatM => p.1)) := by rw [hx4_19];exact Row.newOf _ rfl
     rw [← hx4_19]
     clear hx4_19
     replace rg := GameAt.keep rg bx4_19
     replace rR := Row.keep rR bx4_19
     replace bel := Bel.to bel bx4_19
     replace r9 := Row.keep r9 bx4_19
     replace hp := Rd.below hp bx4_19
     replace hu := Rd.below hu bx4_19
     replace rp := Row.keep rp bx4_19
     replace hv := Rd.below hv bx4_19
     have hN := Row.nats (n := 2) r21 rfl (by decide) (fun p hp => by
      simp only [List.mem_cons,List.not_mem_nil,or_false] at hp
      rcases hp with rfl | rfl
      ·exact hu
      ·exact hv)
     clear r21
     refine hK.out _ _ ⟨Bel.cellOf bx4_19 hHeld.1,Bel.cellOf bx4_19 hHeld.2.1,Bel.cellOf bx4_19 hHeld.2.2⟩ (fun hHeld => ?_)
     clear hK K bx4_19
     try simp only [List.getElem_toArray,List.getElem_cons_zero,List.getElem_cons_succ,Act.put,zsA,zsB,zsC]
     refine till_ready (rs := [20]) (by kernel_rfl) (by simp) ?_
     refine TillReady.cons (o := _) rfl (fun K hK => ?_) TillReady.nil
     go_simp
     refine (rprod_any _ _ x4_19 hN hl2 (by simp)).mono ?_
     rintro e x5_20 ⟨y,rfl,hy,bx5_20⟩
     obtain ⟨ya,yl,yc,rfl⟩ := Rd.shape hy
     simp only [List.map_cons,List.map_nil,prodL,Nat.mul_one] at hy
     replace rg := GameAt.keep rg bx5_20
     replace rR := Row.keep rR bx5_20
     replace bel := Bel.to bel bx5_20
     replace r9 := Row.keep r9 bx5_20
     replace hp := Rd.below hp bx5_20
     replace hu := Rd.below hu bx5_20
     replace rp := Row.keep rp bx5_20
     replace hv := Rd.below hv bx5_20
     clear hN
     go_wp2_with fail
     refine hK.out _ _ ⟨Bel.cellOf bx5_20 hHeld.1,Bel.cellOf bx5_20 hHeld.2.1,Bel.cellOf bx5_20 hHeld.2.2⟩ (fun hHeld => ?_)
     clear hK K bx5_20
     try simp only [List.getElem_toArray,List.getElem_cons_zero,List.getElem_cons_succ,Act.put,zsA,zsB,zsC]
     have cp9 := rp.cell? 0
     have fp9 := rp.frozen 0
     simp only [List.getElem?_cons_zero] at cp9
     refine till_ready (rs := [22]) (by kernel_rfl) (by simp) ?_
     refine TillReady.last (o := _) rfl (by kernel_rfl) (fun K hK => ?_) TillReady.nil
     go_simp
     refine hK.out _ _ ?_
     clear hK K
     try simp only [List.getElem_toArray,List.getElem_cons_zero,List.getElem_cons_succ,Act.put,zsA,zsB,zsC]
     refine till_done (by kernel_rfl) ?_ _
     go_simp
     rw [← hP2.out] at hy
     go_wp2_with fail
     go_meet
     exact ⟨_,ya,yl,yc,rfl,hbp,Row.far rg (p := ⟨_,0,none⟩) (by simp only [];omega) _,Row.far rR (p := ⟨_,0,none⟩) (by simp only [];omega) _,Bel.st bel (p := ⟨_,0,none⟩) (by simp only [];omega) _,⟨Row.far r9 (p := ⟨_,0,none⟩) (by simp only [];omega) _,Rd.setNe hp cp9 (fun _ h => by cases h) _⟩,Row.set rp 0 _,Rd.setNe hy cp9 (fun _ h => by cases h) _⟩
   ·skip
    go_simp
    obtain ⟨x1_21,hx1_21⟩ : ∃ X,X = Y0.alloc (.cells #[.slice none 0 0] 30) := ⟨_,rfl⟩
    have bx1_21 : Below Y0.heap.size Y0 x1_21 := by rw [hx1_21];exact Bel.al (Below.refl _ _) _
    have rp : Row x1_21 Y0.heap.size 30 [.slice none 0 0] := by rw [hx1_21];exact Row.newOf _ rfl
    have hbp : b9 < Y0.heap.size := r9.lt
    rw [← hx1_21]
    clear hx1_21
    replace rg := GameAt.keep rg bx1_21
    replace rR := Row.keep rR bx1_21
    replace bel := Bel.to bel bx1_21
    replace r9 := Row.keep r9 bx1_21
    replace hp := Rd.below hp bx1_21
    refine hK.out _ _ ⟨Bel.cellOf bx1_21 hHeld.1,Bel.cellOf bx1_21 hHeld.2.1,Bel.cellOf bx1_21 hHeld.2.2⟩ (fun hHeld => ?_)
    clear hK K bx1_21
    try simp only [List.getElem_toArray,List.getElem_cons_zero,List.getElem_cons_succ,Act.put,zsA,zsB,zsC]
    refine till_ready (rs := [5]) (by kernel_rfl) (by simp) ?_
    refine TillReady.cons (o := _) rfl (fun K hK => ?_) TillReady.nil
    go_simp
    refine (cH.out (g.main - (m : Int)) ((x : Int)) x1_21 h3).mono ?_
    rintro e x2_5 ⟨u,rfl,hu,bx2_5⟩
    obtain ⟨ua,ul,uc,rfl⟩ := Rd.shape hu
    replace rg := GameAt.keep rg bx2_5
    replace rR := Row.keep rR bx2_5
    replace bel := Bel.to bel bx2_5
    replace r9 := Row.keep r9 bx2_5
    replace hp := Rd.below hp bx2_5
    replace rp := Row.keep rp bx2_5
    go_wp2_with fail
    refine hK.out _ _ ⟨Bel.cellOf bx2_5 hHeld.1,Bel.cellOf bx2_5 hHeld.2.1,Bel.cellOf bx2_5 hHeld.2.2⟩ (fun hHeld => ?_)
    clear hK K bx2_5
    try simp only [List.getElem_toArray,List.getElem_cons_zero,List.getElem_cons_succ,Act.put,zsA,zsB,zsC]
    refine till_ready (rs := [18]) (by kernel_rfl) (by simp) ?_
    refine TillReady.cons (o := _) rfl (fun K hK => ?_) TillReady.nil
    go_simp
    refine (cH.out (g.of - 2 * g.main + (m : Int)) (g.extra - (x : Int)) x2_5 h4).mono ?_
    rintro e x3_18 ⟨v,rfl,hv,bx3_18⟩
    obtain ⟨va,vl,vc,rfl⟩ := Rd.shape hv
    replace rg := GameAt.keep rg bx3_18
    replace rR := Row.keep rR bx3_18
    replace bel := Bel.to bel bx3_18
    replace r9 := Row.keep r9 bx3_18
    replace hp := Rd.below hp bx3_18
    replace rp := Row.keep rp bx3_18
    replace hu := Rd.below hu bx3_18
    go_wp2_with fail
    refine hK.out _ _ ⟨Bel.cellOf bx3_18 hHeld.1,Bel.cellOf bx3_18 hHeld.2.1,Bel.cellOf bx3_18 hHeld.2.2⟩ (fun hHeld => ?_)
    clear hK K bx3_18
    try simp only [List.getElem_toArray,List.getElem_cons_zero,List.getElem_cons_succ,Act.put,zsA,zsB,zsC]
    refine till_ready (rs := [19]) (by kernel_rfl) (by simp) ?_
    refine TillReady.cons (o := _) rfl (fun K hK => ?_) TillReady.nil
    go_simp
    obtain ⟨x4_19,hx4_19⟩ : ∃ X,X = x3_18.alloc (.cells #[.slice ua ul uc,.slice va vl vc] 30) := ⟨_,rfl⟩
    have bx4_19 : Below x3_18.heap.size x3_18 x4_19 := by rw [hx4_19];exact Bel.al (Below.refl _ _) _
    have r21 : Row x4_19 x3_18.heap.size 30 ([(.slice ua ul uc,chZ (g.main - (m : Int)) (x : Int)),(.slice va vl vc,chZ (g.of - 2 * g.main + (m : Int)) (g.extra - (x : Int)))].map (fun p : NatM => p.1)) := by rw [hx4_19];exact Row.newOf _ rfl
    rw [← hx4_19]
    clear hx4_19
    replace rg := GameAt.keep rg bx4_19
    replace rR := Row.keep rR bx4_19
    replace bel := Bel.to bel bx4_19
    replace r9 := Row.keep r9 bx4_19
    replace hp := Rd.below hp bx4_19
    replace rp := Row.keep rp bx4_19
    replace hu := Rd.below hu bx4_19
    replace hv := Rd.below hv bx4_19
    have hN := Row.nats (n := 2) r21 rfl (by decide) (fun p hp => by
     simp only [List.mem_cons,List.not_mem_nil,or_false] at hp
     rcases hp with rfl | rfl
     ·exact hu
     ·exact hv)
    clear r21
    refine hK.out _ _ ⟨Bel.cellOf bx4_19 hHeld.1,Bel.cellOf bx4_19 hHeld.2.1,Bel.cellOf bx4_19 hHeld.2.2⟩ (fun hHeld => ?_)
    clear hK K bx4_19
    try simp only [List.getElem_toArray,List.getElem_cons_zero,List.getElem_cons_succ,Act.put,zsA,zsB,zsC]
    refine till_ready (rs := [20]) (by kernel_rfl) (by simp) ?_
    refine TillReady.cons (o := _) rfl (fun K hK => ?_) TillReady.nil
    go_simp
    refine (rprod_any _ _ x4_19 hN hl2 (by simp)).mono ?_
    rintro e x5_20 ⟨y,rfl,hy,bx5_20⟩
    obtain ⟨ya,yl,yc,rfl⟩ := Rd.shape hy
    simp only [List.map_cons,List.map_nil,prodL,Nat.mul_one] at hy
    replace rg := GameAt.keep rg bx5_20
    replace rR := Row.keep rR bx5_20
    replace bel := Bel.to bel bx5_20
    replace r9 := Row.keep r9 bx5_20
    replace hp := Rd.below hp bx5_20
    replace rp := Row.keep rp bx5_20
    replace hu := Rd.below hu bx5_20
    replace hv := Rd.below hv bx5_20
    clear hN
    go_wp2_with fail
    refine hK.out _ _ ⟨Bel.cellOf bx5_20 hHeld.1,Bel.cellOf bx5_20 hHeld.2.1,Bel.cellOf bx5_20 hHeld.2.2⟩ (fun hHeld => ?_)
    clear hK K bx5_20
    try simp only [List.getElem_toArray,List.getElem_cons_zero,List.getElem_cons_succ,Act.put,zsA,zsB,zsC]
    have cp9 := rp.cell? 0
    have fp9 := rp.frozen 0
    simp only [List.getElem?_cons_zero] at cp9
    refine till_ready (rs := [22]) (by kernel_rfl) (by simp) ?_
    refine TillReady.last (o := _) rfl (by kernel_rfl) (fun K hK => ?_) TillReady.nil
    go_simp
    refine hK.out _ _ ?_
    clear hK K
    try simp only [List.getElem_toArray,List.getElem_cons_zero,List.getElem_cons_succ,Act.put,zsA,zsB,zsC]
    refine till_done (by kernel_rfl) ?_ _
    go_simp
    rw [← hP2.out] at hy
    go_wp2_with fail
    go_meet
    exact ⟨_,ya,yl,yc,rfl,hbp,Row.far rg (p := ⟨_,0,none⟩) (by simp only [];omega) _,Row.far rR (p := ⟨_,0,none⟩) (by simp only [];omega) _,Bel.st bel (p := ⟨_,0,none⟩) (by simp only [];omega) _,⟨Row.far r9 (p := ⟨_,0,none⟩) (by simp only [];omega) _,Rd.setNe hp cp9 (fun _ h => by cases h) _⟩,Row.set rp 0 _,Rd.setNe hy cp9 (fun _ h => by cases h) _⟩
  case rest =>
   clear rg rR bel c3 c4 c7 r9 hp
   obtain ⟨b10,qa,ql,qc,rfl,h10,rg,rR,bel,⟨r9,hp⟩,r10,hq⟩ := hcut
   have c5 := rg.bonus
   have c6 := rg.bonusOf
   have c3 := rg.main
   have c9 := r9.cell? 0
   have c10 := r10.cell? 0
   simp only [List.getElem?_cons_zero] at c9 c10
   go_upto_region 3 with (fail)
   refine till_begin 18 (fun X => X.cell? ⟨w.heap.size,5,none⟩ = some (.int .i64 g.bonus) ∧ X.cell? ⟨w.heap.size,6,none⟩ = some (.int .i64 g.bonusOf) ∧ X.cell? ⟨w.heap.size,3,none⟩ = some (.int .i64 g.main) ∧ X.cell? ⟨b9,0,none⟩ = some (.slice pa pl pc) ∧ X.cell? ⟨b10,0,none⟩ = some (.slice qa ql qc)) (by kernel_rfl) (⟨c5,c6,c3,c9,c10⟩) (fun hHeld => ?_)
   refine' till_take (i := 0) (oi := _) (v := .agg #[.slice pa pl pc]) rfl (by kernel_rfl) (by kernel_rfl) (by kernel_rfl) (by kernel_rfl) (fun _ _ _ h => h) (Or.inl ⟨by first | (go_simp;done) | rfl,fun X hX => by have h0 := hX.2.2.2.1;go_simp⟩) hHeld ?_
   try simp only [List.getElem_toArray,List.getElem_cons_zero,List.getElem_cons_succ,Act.put,zsA,zsB,zsC]
   refine' till_take (i := 1) (oi := _) (v := .agg #[.slice qa ql qc]) rfl (by kernel_rfl) (by kernel_rfl) (by kernel_rfl) (by kernel_rfl) (fun _ _ _ h => h) (Or.inl ⟨by first | (go_simp;done) | rfl,fun X hX => by have h0 := hX.2.2.2.2;go_simp⟩) hHeld ?_
   try simp only [List.getElem_toArray,List.getElem_cons_zero,List.getElem_cons_succ,Act.put,zsA,zsB,zsC]
   refine' till_pure (i := 2) (oi := _) (v := .pointer (some ⟨w.heap.size,5,none⟩)) rfl (by kernel_rfl) (by kernel_rfl) (by kernel_rfl) (by kernel_rfl) (fun _ _ _ h => h) (Or.inl ⟨by first | (go_simp;done) | rfl,fun X _ => by go_simp⟩) hHeld ?_
   try simp only [List.getElem_toArray,List.getElem_cons_zero,List.getElem_cons_succ,Act.put,zsA,zsB,zsC]
   refine' till_take (i := 3) (oi := _) (v := .int .i64 g.bonus) rfl (by kernel_rfl) (by kernel_rfl) (by kernel_rfl) (by kernel_rfl) (fun _ _ _ h => h) (Or.inl ⟨by first | (go_simp;done) | rfl,fun X hX => by have h0 := hX.1;go_simp⟩) hHeld ?_
   try simp only [List.getElem_toArray,List.getElem_cons_zero,List.getElem_cons_succ,Act.put,zsA,zsB,zsC]
   refine' till_pure (i := 4) (oi := _) (v := .int .i64 (b : Int)) rfl (by kernel_rfl) (by kernel_rfl) (by kernel_rfl) (by kernel_rfl) (fun _ _ _ h => h) (Or.inl ⟨by first | (go_simp;done) | rfl,fun X _ => by go_simp⟩) hHeld ?_
   try simp only [List.getElem_toArray,List.getElem_cons_zero,List.getElem_cons_succ,Act.put,zsA,zsB,zsC]
   refine' till_pure (i := 6) (oi := _) (v := .pointer (some ⟨w.heap.size,6,none⟩)) rfl (by kernel_rfl) (by kernel_rfl) (by kernel_rfl) (by kernel_rfl) (fun _ _ _ h => h) (Or.inl ⟨by first | (go_simp;done) | rfl,fun X _ => by go_simp⟩) hHeld ?_
   try simp only [List.getElem_toArray,List.getElem_cons_zero,List.getElem_cons_succ,Act.put,zsA,zsB,zsC]
   refine' till_take (i := 7) (oi := _) (v := .int .i64 g.bonusOf) rfl (by kernel_rfl) (by kernel_rfl) (by kernel_rfl) (by kernel_rfl) (fun _ _ _ h => h) (Or.inl ⟨by first | (go_simp;done) | rfl,fun X hX => by have h0 := hX.2.1;go_simp⟩) hHeld ?_
   try simp only [List.getElem_toArray,List.getElem_cons_zero,List.getElem_cons_succ,Act.put,zsA,zsB,zsC]
   refine' till_pure (i := 8) (oi := _) (v := .pointer (some ⟨w.heap.size,5,none⟩)) rfl (by kernel_rfl) (by kernel_rfl) (by kernel_rfl) (by kernel_rfl) (fun _ _ _ h => h) (Or.inl ⟨by first | (go_simp;done) | rfl,fun X _ => by go_simp⟩) hHeld ?_
   try simp only [List.getElem_toArray,List.getElem_cons_zero,List.getElem_cons_succ,Act.put,zsA,zsB,zsC]
   refine' till_take (i := 9) (oi := _) (v := .int .i64 g.bonus) rfl (by kernel_rfl) (by kernel_rfl) (by kernel_rfl) (by kernel_rfl) (fun _ _ _ h => h) (Or.inl ⟨by first | (go_simp;done) | rfl,fun X hX => by have h0 := hX.1;go_simp⟩) hHeld ?_
   try simp only [List.getElem_toArray,List.getElem_cons_zero,List.getElem_cons_succ,Act.put,zsA,zsB,zsC]
   refine' till_pure (i := 10) (oi := _) (v := .int .i64 (g.bonusOf - g.bonus)) rfl (by kernel_rfl) (by kernel_rfl) (by kernel_rfl) (by kernel_rfl) (fun _ _ _ h => h) (Or.inl ⟨by first | (go_simp;done) | rfl,fun X _ => by go_simp⟩) hHeld ?_
   try simp only [List.getElem_toArray,List.getElem_cons_zero,List.getElem_cons_succ,Act.put,zsA,zsB,zsC]
   refine' till_pure (i := 11) (oi := _) (v := .pointer (some ⟨w.heap.size,5,none⟩)) rfl (by kernel_rfl) (by kernel_rfl) (by kernel_rfl) (by kernel_rfl) (fun _ _ _ h => h) (Or.inl ⟨by first | (go_simp;done) | rfl,fun X _ => by go_simp⟩) hHeld ?_
   try simp only [List.getElem_toArray,List.getElem_cons_zero,List.getElem_cons_succ,Act.put,zsA,zsB,zsC]
   refine' till_take (i := 12) (oi := _) (v := .int .i64 g.bonus) rfl (by kernel_rfl) (by kernel_rfl) (by kernel_rfl) (by kernel_rfl) (fun _ _ _ h => h) (Or.inl ⟨by first | (go_simp;done) | rfl,fun X hX => by have h0 := hX.1;go_simp⟩) hHeld ?_
   try simp only [List.getElem_toArray,List.getElem_cons_zero,List.getElem_cons_succ,Act.put,zsA,zsB,zsC]
   refine' till_pure (i := 13) (oi := _) (v := .int .i64 (b : Int)) rfl (by kernel_rfl) (by kernel_rfl) (by kernel_rfl) (by kernel_rfl) (fun _ _ _ h => h) (Or.inl ⟨by first | (go_simp;done) | rfl,fun X _ => by go_simp⟩) hHeld ?_
   try simp only [List.getElem_toArray,List.getElem_cons_zero,List.getElem_cons_succ,Act.put,zsA,zsB,zsC]
   refine' till_pure (i := 14) (oi := _) (v := .int .i64 (g.bonus - (b : Int))) rfl (by kernel_rfl) (by kernel_rfl) (by kernel_rfl) (by kernel_rfl) (fun _ _ _ h => h) (Or.inl ⟨by first | (go_simp;done) | rfl,fun X _ => by go_simp⟩) hHeld ?_
   try simp only [List.getElem_toArray,List.getElem_cons_zero,List.getElem_cons_succ,Act.put,zsA,zsB,zsC]
   obtain ⟨Y0,hY0⟩ : ∃ Y,Y = wc.drew := ⟨_,rfl⟩
   have hY1 : Below wc.heap.size wc Y0 := by rw [hY0];exact Below.drew (Below.refl _ _)
   replace rg := GameAt.keep rg hY1
   replace rR := Row.keep rR hY1
   replace bel := Bel.to bel hY1
   replace r9 := Row.keep r9 hY1
   replace hp := Rd.below hp hY1
   replace r10 := Row.keep r10 hY1
   replace hq := Rd.below hq hY1
   rw [← hY0] at hHeld ⊢
   clear hY0 hY1 c5 c6 c3 c9 c10
   refine till_ready (rs := [5]) (by kernel_rfl) (by simp) ?_
   refine TillReady.cons (o := _) rfl (fun K hK => ?_) TillReady.nil
   go_simp
   refine (cH.out (g.bonus) ((b : Int)) Y0 h5).mono ?_
   rintro e x1_5 ⟨u,rfl,hu,bx1_5⟩
   obtain ⟨ua,ul,uc,rfl⟩ := Rd.shape hu
   replace rg := GameAt.keep rg bx1_5
   replace rR := Row.keep rR bx1_5
   replace bel := Bel.to bel bx1_5
   replace r9 := Row.keep r9 bx1_5
   replace hp := Rd.below hp bx1_5
   replace r10 := Row.keep r10 bx1_5
   replace hq := Rd.below hq bx1_5
   go_wp2_with fail
   refine hK.out _ _ ⟨Bel.cellOf bx1_5 hHeld.1,Bel.cellOf bx1_5 hHeld.2.1,Bel.cellOf bx1_5 hHeld.2.2.1,Bel.cellOf bx1_5 hHeld.2.2.2.1,Bel.cellOf bx1_5 hHeld.2.2.2.2⟩ (fun hHeld => ?_)
   clear hK K bx1_5
   try simp only [List.getElem_toArray,List.getElem_cons_zero,List.getElem_cons_succ,Act.put,zsA,zsB,zsC]
   refine till_ready (rs := [15]) (by kernel_rfl) (by simp) ?_
   refine TillReady.cons (o := _) rfl (fun K hK => ?_) TillReady.nil
   go_simp
   refine (cH.out (g.bonusOf - g.bonus) (g.bonus - (b : Int)) x1_5 h6).mono ?_
   rintro e x2_15 ⟨v,rfl,hv,bx2_15⟩
   obtain ⟨va,vl,vc,rfl⟩ := Rd.shape hv
   replace rg := GameAt.keep rg bx2_15
   replace rR := Row.keep rR bx2_15
   replace bel := Bel.to bel bx2_15
   replace r9 := Row.keep r9 bx2_15
   replace hp := Rd.below hp bx2_15
   replace r10 := Row.keep r10 bx2_15
   replace hq := Rd.below hq bx2_15
   replace hu := Rd.below hu bx2_15
   go_wp2_with fail
   refine hK.out _ _ ⟨Bel.cellOf bx2_15 hHeld.1,Bel.cellOf bx2_15 hHeld.2.1,Bel.cellOf bx2_15 hHeld.2.2.1,Bel.cellOf bx2_15 hHeld.2.2.2.1,Bel.cellOf bx2_15 hHeld.2.2.2.2⟩ (fun hHeld => ?_)
   clear hK K bx2_15
   try simp only [List.getElem_toArray,List.getElem_cons_zero,List.getElem_cons_succ,Act.put,zsA,zsB,zsC]
   refine till_ready (rs := [16]) (by kernel_rfl) (by simp) ?_
   refine TillReady.cons (o := _) rfl (fun K hK => ?_) TillReady.nil
   go_simp
   obtain ⟨x3_16,hx3_16⟩ : ∃ X,X = x2_15.alloc (.cells #[.slice pa pl pc,.slice qa ql qc,.slice ua ul uc,.slice va vl vc] 30) := ⟨_,rfl⟩
   have bx3_16 : Below x2_15.heap.size x2_15 x3_16 := by rw [hx3_16];exact Bel.al (Below.refl _ _) _
   have r21 : Row x3_16 x2_15.heap.size 30 ([(.slice pa pl pc,P1),(.slice qa ql qc,P2),(.slice ua ul uc,chZ g.bonus (b : Int)),(.slice va vl vc,chZ (g.bonusOf - g.bonus) (g.bonus - (b : Int)))].map (fun p : NatM => p.1)) := by rw [hx3_16];exact Row.newOf _ rfl
   rw [← hx3_16]
   clear hx3_16
   replace rg := GameAt.keep rg bx3_16
   replace rR := Row.keep rR bx3_16
   replace bel := Bel.to bel bx3_16
   replace r9 := Row.keep r9 bx3_16
   replace hp := Rd.below hp bx3_16
   replace r10 := Row.keep r10 bx3_16
   replace hq := Rd.below hq bx3_16
   replace hu := Rd.below hu bx3_16
   replace hv := Rd.below hv bx3_16
   have hN := Row.nats (n := 4) r21 rfl (by decide) (fun p hp => by
    simp only [List.mem_cons,List.not_mem_nil,or_false] at hp
    rcases hp with rfl | rfl | rfl | rfl
    ·exact hp
    ·exact hq
    ·exact hu
    ·exact hv)
   clear r21
   refine hK.out _ _ ⟨Bel.cellOf bx3_16 hHeld.1,Bel.cellOf bx3_16 hHeld.2.1,Bel.cellOf bx3_16 hHeld.2.2.1,Bel.cellOf bx3_16 hHeld.2.2.2.1,Bel.cellOf bx3_16 hHeld.2.2.2.2⟩ (fun hHeld => ?_)
   clear hK K bx3_16
   try simp only [List.getElem_toArray,List.getElem_cons_zero,List.getElem_cons_succ,Act.put,zsA,zsB,zsC]
   refine till_ready (rs := [17]) (by kernel_rfl) (by simp) ?_
   refine TillReady.cons (o := _) rfl (fun K hK => ?_) TillReady.nil
   go_simp
   refine (rprod_any _ _ x3_16 hN hl3 (by simp)).mono ?_
   rintro e x4_17 ⟨y,rfl,hy,bx4_17⟩
   obtain ⟨ya,yl,yc,rfl⟩ := Rd.shape hy
   simp only [List.map_cons,List.map_nil,prodL,Nat.mul_one] at hy
   replace rg := GameAt.keep rg bx4_17
   replace rR := Row.keep rR bx4_17
   replace bel := Bel.to bel bx4_17
   replace r9 := Row.keep r9 bx4_17
   replace hp := Rd.below hp bx4_17
   replace r10 := Row.keep r10 bx4_17
   replace hq := Rd.below hq bx4_17
   replace hu := Rd.below hu bx4_17
   replace hv := Rd.below hv bx4_17
   clear hN
   go_wp2_with fail
   refine hK.out _ _ ⟨Bel.cellOf bx4_17 hHeld.1,Bel.cellOf bx4_17 hHeld.2.1,Bel.cellOf bx4_17 hHeld.2.2.1,Bel.cellOf bx4_17 hHeld.2.2.2.1,Bel.cellOf bx4_17 hHeld.2.2.2.2⟩ (fun hHeld => ?_)
   clear hK K bx4_17
   try simp only [List.getElem_toArray,List.getElem_cons_zero,List.getElem_cons_succ,Act.put,zsA,zsB,zsC]
   have cp9 := rR.cell? 0
   have fp9 := rR.frozen 0
   simp only [List.getElem?_cons_zero] at cp9
   refine till_ready (rs := [18]) (by kernel_rfl) (by simp) ?_
   refine TillReady.last (o := _) rfl (by kernel_rfl) (fun K hK => ?_) TillReady.nil
   go_simp
   refine hK.out _ _ ?_
   clear hK K
   try simp only [List.getElem_toArray,List.getElem_cons_zero,List.getElem_cons_succ,Act.put,zsA,zsB,zsC]
   refine till_done (by kernel_rfl) ?_ _
   go_simp
   have hf := Rd.setNe hy cp9 (fun _ h => by cases h) (.slice ya yl yc)
   rw [hPP.out] at hf
   have belf := Bel.st bel (p := ⟨w.heap.size + 1,0,none⟩) (by simp only [];omega) (.slice ya yl yc)
   go_wp2
   exact bodyPost_ret (v := .agg #[(.slice ya yl yc)]) (by simp [results,Tryz.results73,go_sem,cp9]) rfl ⟨_,rfl,hf,belf⟩
end Go.Proofs.YtldikghldcefcaaGreat
end

/- Lemmas, merged out of smaller texts (wip/tools/mergedce.py). No condition. -/
import Derived.Test.YtldikghldcefcaaHX
import Derived.Test.YtldikghldcefcaaHI
import Derived.Test.YtldikghldcefcaaHC
import Derived.Test.YtldikghldcefcaaHE
import Derived.Test.YtldikghldcefcaaHD
import Derived.Test.YtldikghldcefcaaHB
import Derived.Test.YtldikghldcefcaaHCore
section
set_option linter.unusedVariables false
set_option linter.unusedSimpArgs false
namespace Go.Proofs.Ytldikghldcefcaa
theorem frac_same {a b c d : Nat} (hb : 0 < b) (hd : 0 < d) (h : a * d = c * b) : a / Nat.gcd a b = c / Nat.gcd c d ∧ b / Nat.gcd a b = d / Nat.gcd c d := by
 have e1 := scale_gcd (k := d) (a := a) (b := b) hd
 have e2 := scale_gcd (k := b) (a := c) (b := d) hb
 rw [show d * a = b * c by rw [Nat.mul_comm,h,Nat.mul_comm],show d * b = b * d by rw [Nat.mul_comm]] at e1
 exact ⟨e1.1.symm.trans e2.1,e1.2.symm.trans e2.2⟩
def numR (s n : Nat) : Nat := s / Nat.gcd s n
def denR (s n : Nat) : Nat := n / Nat.gcd s n
theorem denR_pos {s n : Nat} (h : 0 < n) : 0 < denR s n := Nat.div_pos (Nat.gcd_le_right s h) (Nat.gcd_pos_of_pos_right s h)
theorem redR_gcd {s n : Nat} (h : 0 < n) : Nat.gcd (numR s n) (denR s n) = 1 := Nat.gcd_div_gcd_div_gcd_of_pos_right h
theorem numR_le (s n : Nat) : numR s n ≤ s := Nat.div_le_self _ _
theorem denR_le (s n : Nat) : denR s n ≤ n := Nat.div_le_self _ _
theorem redR_mul (s n : Nat) : s = Nat.gcd s n * numR s n ∧ n = Nat.gcd s n * denR s n := ⟨(Nat.mul_div_cancel' (Nat.gcd_dvd_left s n)).symm,(Nat.mul_div_cancel' (Nat.gcd_dvd_right s n)).symm⟩
theorem redR_add {s v n : Nat} (h : 0 < n) : numR (numR s n * denR v n + numR v n * denR s n) (denR s n * denR v n) = numR (s + v) n ∧ denR (numR s n * denR v n + numR v n * denR s n) (denR s n * denR v n) = denR (s + v) n := by
 refine frac_same (Nat.mul_pos (denR_pos h) (denR_pos h)) h ?_
 obtain ⟨a1,a2⟩ := redR_mul s n
 obtain ⟨b1,b2⟩ := redR_mul v n
 generalize numR s n = P at *
 generalize denR s n = Q at *
 generalize numR v n = r at *
 generalize denR v n = t at *
 generalize Nat.gcd s n = g at *
 generalize Nat.gcd v n = k at *
 have e1 : P * t * n = s * (Q * t) := by rw [a1];rw [show P * t * n = P * t * (g * Q) by rw [← a2]];grind
 have e2 : r * Q * n = v * (Q * t) := by rw [b1];rw [show r * Q * n = r * Q * (k * t) by rw [← b2]];grind
 rw [Nat.add_mul,e1,e2,← Nat.add_mul]
theorem redR_zero {n : Nat} (h : 0 < n) : numR 0 n = 0 ∧ denR 0 n = 1 := by
 unfold numR denR
 rw [Nat.gcd_zero_left]
 exact ⟨Nat.zero_div _,Nat.div_self h⟩
end Go.Proofs.Ytldikghldcefcaa
end
section
open Go.RowKit
set_option linter.unusedVariables false
set_option linter.unusedSimpArgs false
namespace Go.Proofs.Ytldikghldcefcaa
set_option maxHeartbeats 4000000 in
set_option maxRecDepth 100000 in
theorem rcmp_nat (va vb : Value) (m n : Nat) (w : World) (ha : NV w va m) (hb : NV w vb n) (lm : (limbs m).length ≤ 64) (ln : (limbs n).length ≤ 64) :
  Calls Try.prog 19 #[.agg #[va],.agg #[vb]] w (DrewB (.int .i64 (cmpV m n)) w) := by
 obtain ⟨a0,n0,cp0,rfl⟩ := Rd.shape ha
 obtain ⟨a1,n1,cp1,rfl⟩ := Rd.shape hb
 go_enter Try.func19,Try.ntmps19
 go_upto_region 1 with (fail)
 obtain ⟨W,hW⟩ : ∃ W,W = ((w.alloc (.cells #[.slice a0 n0 cp0] 30)).alloc (.cells #[.slice a1 n1 cp1] 30)) := ⟨_,rfl⟩
 have bel : Below w.heap.size w W := by rw [hW];exact Bel.al (Bel.al (Below.refl _ _) _) _
 have ra : Row W w.heap.size 30 [.slice a0 n0 cp0] := by rw [hW];exact Row.alloc (Row.new _ _ _) _
 have rb : Row W (w.heap.size + 1) 30 [.slice a1 n1 cp1] := by rw [hW];exact Row.at2 _ _ _ _
 replace ha : NV W _ m := Rd.below ha bel
 replace hb : NV W _ n := Rd.below hb bel
 rw [← hW]
 clear hW
 have ca := ra.cell? 0
 have cb := rb.cell? 0
 simp only [List.getElem?_cons_zero] at ca cb
 go_wp2_with fail
 refine (rvalid _ m _ ha lm).mono ?_
 rintro e w1 ⟨rfl,hbw1⟩
 replace ha := Rd.below ha hbw1
 replace hb := Rd.below hb hbw1
 replace ra := Row.keep ra hbw1
 replace rb := Row.keep rb hbw1
 replace bel := Bel.to bel hbw1
 clear hbw1 ca cb
 have ca := ra.cell? 0
 have cb := rb.cell? 0
 simp only [List.getElem?_cons_zero] at ca cb
 go_wp2_with fail
 refine (rvalid _ n _ hb ln).mono ?_
 rintro e w2 ⟨rfl,hbw2⟩
 replace ha := Rd.below ha hbw2
 replace hb := Rd.below hb hbw2
 replace ra := Row.keep ra hbw2
 replace rb := Row.keep rb hbw2
 replace bel := Bel.to bel hbw2
 clear hbw2 ca cb
 have ca := ra.cell? 0
 have cb := rb.cell? 0
 simp only [List.getElem?_cons_zero] at ca cb
 go_upto_region 3 with (fail)
 refine till_begin 5 (fun X => X.cell? ⟨w.heap.size,0,none⟩ = some (.slice a0 n0 cp0) ∧ X.cell? ⟨w.heap.size + 1,0,none⟩ = some (.slice a1 n1 cp1)) (by kernel_rfl) (⟨ca,cb⟩) (fun hHeld => ?_)
 refine' till_take (i := 0) (oi := _) (v := .agg #[.slice a0 n0 cp0]) rfl (by kernel_rfl) (by kernel_rfl) (by kernel_rfl) (by kernel_rfl) (fun _ _ _ h => h) (Or.inl ⟨by first | (go_simp;done) | rfl,fun X hX => by have h0 := hX.1;go_simp⟩) hHeld ?_
 try simp only [List.getElem_toArray,List.getElem_cons_zero,List.getElem_cons_succ,Act.put,zsA,zsB,zsC]
 refine' till_take (i := 2) (oi := _) (v := .agg #[.slice a1 n1 cp1]) rfl (by kernel_rfl) (by kernel_rfl) (by kernel_rfl) (by kernel_rfl) (fun _ _ _ h => h) (Or.inl ⟨by first | (go_simp;done) | rfl,fun X hX => by have h0 := hX.2;go_simp⟩) hHeld ?_
 try simp only [List.getElem_toArray,List.getElem_cons_zero,List.getElem_cons_succ,Act.put,zsA,zsB,zsC]
 obtain ⟨Y0,hY0⟩ : ∃ Y,Y = w2.drew := ⟨_,rfl⟩
 have hY1 : Below w2.heap.size w2 Y0 := by rw [hY0];exact Below.drew (Below.refl _ _)
 replace ha := Rd.below ha hY1
 replace hb := Rd.below hb hY1
 replace ra := Row.keep ra hY1
 replace rb := Row.keep rb hY1
 replace bel := Bel.to bel hY1
 rw [← hY0] at hHeld ⊢
 clear hY0 hY1 ca cb
 refine till_ready (rs := [1]) (by kernel_rfl) (by simp) ?_
 refine TillReady.cons (o := _) rfl (fun K hK => ?_) TillReady.nil
 go_simp
 refine (halves _ m Y0 ha (by omega)).mono ?_
 rintro e x1_1 ⟨u,rfl,hu,bx1_1,-⟩
 replace ha := Rd.below ha bx1_1
 replace hb := Rd.below hb bx1_1
 replace ra := Row.keep ra bx1_1
 replace rb := Row.keep rb bx1_1
 replace bel := Bel.to bel bx1_1
 go_wp2_with fail
 refine hK.out _ _ ⟨Bel.cellOf bx1_1 hHeld.1,Bel.cellOf bx1_1 hHeld.2⟩ (fun hHeld => ?_)
 clear hK K bx1_1
 try simp only [List.getElem_toArray,List.getElem_cons_zero,List.getElem_cons_succ,Act.put,zsA,zsB,zsC]
 refine till_ready (rs := [3]) (by kernel_rfl) (by simp) ?_
 refine TillReady.cons (o := _) rfl (fun K hK => ?_) TillReady.nil
 go_simp
 refine (halves _ n x1_1 hb (by omega)).mono ?_
 rintro e x2_3 ⟨v,rfl,hv,bx2_3,-⟩
 replace ha := Rd.below ha bx2_3
 replace hb := Rd.below hb bx2_3
 replace ra := Row.keep ra bx2_3
 replace rb := Row.keep rb bx2_3
 replace bel := Bel.to bel bx2_3
 replace hu := Rd.below hu bx2_3
 go_wp2_with fail
 refine hK.out _ _ ⟨Bel.cellOf bx2_3 hHeld.1,Bel.cellOf bx2_3 hHeld.2⟩ (fun hHeld => ?_)
 clear hK K bx2_3
 try simp only [List.getElem_toArray,List.getElem_cons_zero,List.getElem_cons_succ,Act.put,zsA,zsB,zsC]
 refine till_ready (rs := [4]) (by kernel_rfl) (by simp) ?_
 refine TillReady.cons (o := _) rfl (fun K hK => ?_) TillReady.nil
 go_simp
 refine (rcmp _ _ m n x2_3 hu hv).mono ?_
 rintro e x3_4 ⟨rfl,bx3_4⟩
 replace ha := Rd.below ha bx3_4
 replace hb := Rd.below hb bx3_4
 replace ra := Row.keep ra bx3_4
 replace rb := Row.keep rb bx3_4
 replace bel := Bel.to bel bx3_4
 replace hu := Rd.below hu bx3_4
 replace hv := Rd.below hv bx3_4
 go_wp2_with fail
 refine hK.out _ _ ⟨Bel.cellOf bx3_4 hHeld.1,Bel.cellOf bx3_4 hHeld.2⟩ (fun hHeld => ?_)
 clear hK K bx3_4
 try simp only [List.getElem_toArray,List.getElem_cons_zero,List.getElem_cons_succ,Act.put,zsA,zsB,zsC]
 refine till_ready (rs := [5]) (by kernel_rfl) (by simp) ?_
 refine TillReady.last (o := _) rfl (by kernel_rfl) (fun K hK => ?_) TillReady.nil
 go_simp
 refine hK.out _ _ ?_
 clear hK K
 try simp only [List.getElem_toArray,List.getElem_cons_zero,List.getElem_cons_succ,Act.put,zsA,zsB,zsC]
 refine till_done (by kernel_rfl) ?_ _
 go_simp
 go_wp2
 go_ret
 exact ⟨rfl,bel⟩
end Go.Proofs.Ytldikghldcefcaa
end
section
set_option linter.unusedVariables false
set_option linter.unusedSimpArgs false
namespace Go.Proofs.Ytldikghldcefcaa
open Go.RowKit
set_option maxHeartbeats 4000000 in
set_option maxRecDepth 100000 in
theorem rfvalid_ok (va vb : Value) (m n : Nat) (w : World) (ha : NV w va m) (hb : NV w vb n) (hm : (limbs m).length ≤ 64) (hn : (limbs n).length ≤ 64) (h0 : 0 < n) (hg1 : Nat.gcd m n = 1) :
  Calls Try.prog 37 #[.agg #[va,vb]] w (BoolB true w) := by
 have hbl : (limbs n).length ≠ 0 := by rw [limbs_pos (by omega)];simp
 have hlb := hide (fun (ab : Option Addr) (lb cb : Nat) (X : World) (h : NV X (.slice ab lb cb) n) => (Rd.len_eq h : lb = _))
 have cG := hide (fun va vb X (h1 : NV X va m) (h2 : NV X vb n) => rgcd_any va vb m n X h1 h2 hm hn (by omega))
 rw [hg1] at cG
 obtain ⟨aa,la,ca,rfl⟩ := Rd.shape ha
 obtain ⟨ab,lb,cb,rfl⟩ := Rd.shape hb
 have hl := hlb.out _ _ _ _ hb
 have hl1 : lb ≠ 0 := by omega
 have hl2 : (lb == 0) = false := by simpa using hl1
 have hl3 : ((lb : Int) == 0) = false := by simp;omega
 have hl4 : ¬ (lb : Int) = 0 := by omega
 replace hl := hide hl
 replace hbl := hide hbl
 clear hg1
 go_enter Try.func37,Try.ntmps37
 go_upto_region 1 with (fail)
 obtain ⟨W,hW⟩ : ∃ W,W = w.alloc (.cells #[.slice aa la ca,.slice ab lb cb] 36) := ⟨_,rfl⟩
 have bel : Below w.heap.size w W := by rw [hW];exact Bel.al (Below.refl _ _) _
 have r0 : Row W w.heap.size 36 [.slice aa la ca,.slice ab lb cb] := by rw [hW];exact Row.newOf _ rfl
 replace ha := Rd.below ha bel
 replace hb := Rd.below hb bel
 rw [← hW]
 clear hW
 have c0 := r0.cell? 0
 have c1 := r0.cell? 1
 simp only [List.getElem?_cons_zero,List.getElem?_cons_succ] at c0 c1
 go_wp2_with fail
 refine (rvalid _ m _ ha hm).mono ?_
 rintro e w1 ⟨rfl,hb1⟩
 replace ha := Rd.below ha hb1
 replace hb := Rd.below hb hb1
 replace bel := Bel.to bel hb1
 replace c0 := Bel.cellOf hb1 c0
 replace c1 := Bel.cellOf hb1 c1
 clear hb1 r0
 go_wp2_with fail
 refine (rvalid _ n _ hb hn).mono ?_
 rintro e w2 ⟨rfl,hb1⟩
 replace ha := Rd.below ha hb1
 replace hb := Rd.below hb hb1
 replace bel := Bel.to bel hb1
 replace c0 := Bel.cellOf hb1 c0
 replace c1 := Bel.cellOf hb1 c1
 clear hb1
 go_wp2_with fail
 refine (cG.out _ _ _ ha hb).mono ?_
 rintro e w3 ⟨u,rfl,hg,hb1⟩
 obtain ⟨ga,gl,gc,rfl⟩ := Rd.shape hg
 replace bel := Bel.to bel hb1
 clear hb1 cG c0 c1 ha hb
 go_upto_region 4 with (fail)
 obtain ⟨b3,hb3⟩ : ∃ b,b = w3.heap.size := ⟨_,rfl⟩
 obtain ⟨w4,hw4⟩ : ∃ X,X = w3.alloc (.cells #[.slice ga gl gc] 30) := ⟨_,rfl⟩
 have b4 : Below w3.heap.size w3 w4 := by rw [hw4];exact Bel.al (Below.refl _ _) _
 have r3 : Row w4 b3 30 [.slice ga gl gc] := by rw [hw4,hb3];exact Row.newOf _ rfl
 rw [← hw4,← hb3]
 clear hw4 hb3
 replace bel := Bel.to bel b4
 replace hg := Rd.below hg b4
 clear b4
 have c3 := r3.cell? 0
 simp only [List.getElem?_cons_zero] at c3
 refine till_begin 8 (fun X => X.cell? ⟨b3,0,none⟩ = some (.slice ga gl gc)) (by kernel_rfl) (c3) (fun hHeld => ?_)
 refine' till_pure (i := 0) (oi := _) (v := .int .i64 0) rfl (by kernel_rfl) (by kernel_rfl) (by kernel_rfl) (by kernel_rfl) (fun _ _ _ h => h) (Or.inl ⟨by first | (go_simp;done) | rfl,fun X _ => by go_simp⟩) hHeld ?_
 try simp only [List.getElem_toArray,List.getElem_cons_zero,List.getElem_cons_succ,Act.put,zsA,zsB,zsC]
 refine' till_pure (i := 1) (oi := _) (v := .bool true) rfl (by kernel_rfl) (by kernel_rfl) (by kernel_rfl) (by kernel_rfl) (fun _ _ _ h => h) (Or.inl ⟨by first | (go_simp;done) | rfl,fun X _ => by go_simp⟩) hHeld ?_
 try simp only [List.getElem_toArray,List.getElem_cons_zero,List.getElem_cons_succ,Act.put,zsA,zsB,zsC]
 refine' till_pure (i := 2) (oi := _) (v := .bool true) rfl (by kernel_rfl) (by kernel_rfl) (by kernel_rfl) (by kernel_rfl) (fun _ _ _ h => h) (Or.inl ⟨by first | (go_simp;done) | rfl,fun X _ => by go_simp⟩) hHeld ?_
 try simp only [List.getElem_toArray,List.getElem_cons_zero,List.getElem_cons_succ,Act.put,zsA,zsB,zsC]
 refine' till_take (i := 3) (oi := _) (v := .agg #[.slice ga gl gc]) rfl (by kernel_rfl) (by kernel_rfl) (by kernel_rfl) (by kernel_rfl) (fun _ _ _ h => h) (Or.inl ⟨by first | (go_simp;done) | rfl,fun X hX => by have h0 := hX;go_simp⟩) hHeld ?_
 try simp only [List.getElem_toArray,List.getElem_cons_zero,List.getElem_cons_succ,Act.put,zsA,zsB,zsC]
 obtain ⟨Y0,hY0⟩ : ∃ Y,Y = w4.drew := ⟨_,rfl⟩
 have hY1 : Below w4.heap.size w4 Y0 := by rw [hY0];exact Below.drew (Below.refl _ _)
 replace bel := Bel.to bel hY1
 replace hg := Rd.below hg hY1
 rw [← hY0] at hHeld ⊢
 clear hY0 hY1 c3
 refine till_ready (rs := [4]) (by kernel_rfl) (by simp) ?_
 refine TillReady.cons (o := _) rfl (fun K hK => ?_) TillReady.nil
 go_simp
 refine (ref_of 1 Y0 (by omega)).mono ?_
 rintro e x1_4 ⟨o,rfl,ho,bx1_4⟩
 obtain ⟨oa,ol,oc,rfl⟩ := Rd.shape ho
 replace bel := Bel.to bel bx1_4
 replace hg := Rd.below hg bx1_4
 go_wp2_with fail
 refine hK.out _ _ (Bel.cellOf bx1_4 hHeld) (fun hHeld => ?_)
 clear hK K bx1_4
 try simp only [List.getElem_toArray,List.getElem_cons_zero,List.getElem_cons_succ,Act.put,zsA,zsB,zsC]
 refine till_ready (rs := [5]) (by kernel_rfl) (by simp) ?_
 refine TillReady.cons (o := _) rfl (fun K hK => ?_) TillReady.nil
 go_simp
 refine (rcmp_nat _ _ 1 1 x1_4 hg ho (limbs_63 (by omega)) (limbs_63 (by omega))).mono ?_
 rintro e x2_5 ⟨rfl,bx2_5⟩
 rw [show cmpV 1 1 = 0 from rfl]
 replace bel := Bel.to bel bx2_5
 replace hg := Rd.below hg bx2_5
 replace ho := Rd.below ho bx2_5
 go_wp2_with fail
 refine hK.out _ _ (Bel.cellOf bx2_5 hHeld) (fun hHeld => ?_)
 clear hK K bx2_5
 try simp only [List.getElem_toArray,List.getElem_cons_zero,List.getElem_cons_succ,Act.put,zsA,zsB,zsC]
 refine' till_pure (i := 6) (oi := _) (v := .bool true) rfl (by kernel_rfl) (by kernel_rfl) (by kernel_rfl) (by kernel_rfl) (fun _ _ _ h => h) (Or.inl ⟨by first | (go_simp;done) | rfl,fun X _ => by go_simp⟩) hHeld ?_
 try simp only [List.getElem_toArray,List.getElem_cons_zero,List.getElem_cons_succ,Act.put,zsA,zsB,zsC]
 refine' till_pure (i := 7) (oi := _) (v := .bool true) rfl (by kernel_rfl) (by kernel_rfl) (by kernel_rfl) (by kernel_rfl) (fun _ _ _ h => h) (Or.inl ⟨by first | (go_simp;done) | rfl,fun X _ => by go_simp⟩) hHeld ?_
 try simp only [List.getElem_toArray,List.getElem_cons_zero,List.getElem_cons_succ,Act.put,zsA,zsB,zsC]
 refine till_ready (rs := [8]) (by kernel_rfl) (by simp) ?_
 refine TillReady.last (o := _) rfl (by kernel_rfl) (fun K hK => ?_) TillReady.nil
 go_simp
 refine hK.out _ _ ?_
 clear hK K
 try simp only [List.getElem_toArray,List.getElem_cons_zero,List.getElem_cons_succ,Act.put,zsA,zsB,zsC]
 refine till_done (by kernel_rfl) ?_ _
 go_simp
 go_wp2
 go_ret
 exact ⟨rfl,bel⟩
def Cross3 (x y z : Nat) (w : World) (e : Ending) (w' : World) : Prop := ∃ u v t,e = .returned (.tuple #[.agg #[u],.agg #[v],.agg #[t],.int .i64 0]) ∧ NV w' u x ∧ NV w' v y ∧ NV w' t z ∧ Below w.heap.size w w'
theorem mul_digs {m n : Nat} (hm : (limbs m).length ≤ 30) (hn : (limbs n).length ≤ 30) : (digs (m * n)).length ≤ 128 := by
 have h1 := limbs_mul m n
 exact digs_limbs_len (show (limbs (m * n)).length ≤ 64 by omega)
set_option maxHeartbeats 8000000 in
set_option maxRecDepth 100000 in
theorem rfcross_ok (va vb vc vd : Value) (p q r s : Nat) (w : World) (hp : NV w va p) (hq : NV w vb q) (hr : NV w vc r) (hs : NV w vd s) (lp : (limbs p).length ≤ 30) (lq : (limbs q).length ≤ 30) (lr : (limbs r).length ≤ 30) (ls : (limbs s).length ≤ 30) :
  Calls Try.prog 38 #[.agg #[va,vb],.agg #[vc,vd]] w (Cross3 (p * s) (r * q) (q * s) w) := by
 have m1 := hide (mul_digs lp ls)
 have m2 := hide (mul_digs lr lq)
 have m3 := hide (mul_digs lq ls)
 obtain ⟨pa,pl,pc,rfl⟩ := Rd.shape hp
 obtain ⟨qa,ql,qc,rfl⟩ := Rd.shape hq
 obtain ⟨ra',rl,rc,rfl⟩ := Rd.shape hr
 obtain ⟨sa,sl,sc,rfl⟩ := Rd.shape hs
 go_enter Try.func38,Try.ntmps38
 go_upto_region 1 with (fail)
 obtain ⟨W,hW⟩ : ∃ W,W = ((((w.alloc (.cells #[.slice pa pl pc,.slice qa ql qc] 36)).alloc (.cells #[.slice ra' rl rc,.slice sa sl sc] 36)).alloc (.cells #[.slice none 0 0] 30)).alloc (.cells #[.slice none 0 0] 30)).alloc (.cells #[.slice none 0 0] 30) := ⟨_,rfl⟩
 have bel : Below w.heap.size w W := by rw [hW];exact Bel.al (Bel.al (Bel.al (Bel.al (Bel.al (Below.refl _ _) _) _) _) _) _
 have ra : Row W w.heap.size 36 [.slice pa pl pc,.slice qa ql qc] := by rw [hW];exact Row.alloc (Row.alloc (Row.alloc (Row.alloc (Row.new _ _ _) _) _) _) _
 have rb : Row W (w.heap.size + 1) 36 [.slice ra' rl rc,.slice sa sl sc] := by rw [hW];exact Row.alloc (Row.alloc (Row.alloc (Row.at2 _ _ _ _) _) _) _
 have r4 : Row W (w.heap.size + 1 + 1) 30 [.slice none 0 0] := by rw [hW];exact Row.alloc (Row.alloc (Row.at3 _ _ _ _ _) _) _
 have r5 : Row W (w.heap.size + 1 + 1 + 1) 30 [.slice none 0 0] := by
  rw [hW]
  have h := Row.newOf (w := ((w.alloc (.cells #[.slice pa pl pc,.slice qa ql qc] 36)).alloc (.cells #[.slice ra' rl rc,.slice sa sl sc] 36)).alloc (.cells #[.slice none 0 0] 30)) (cs := [.slice none 0 0]) 30 rfl
  have h2 := Row.alloc h (.cells #[.slice none 0 0] 30)
  simpa using h2
 have r6 : Row W (w.heap.size + 1 + 1 + 1 + 1) 30 [.slice none 0 0] := by
  rw [hW]
  have h := Row.newOf (w := (((w.alloc (.cells #[.slice pa pl pc,.slice qa ql qc] 36)).alloc (.cells #[.slice ra' rl rc,.slice sa sl sc] 36)).alloc (.cells #[.slice none 0 0] 30)).alloc (.cells #[.slice none 0 0] 30)) (cs := [.slice none 0 0]) 30 rfl
  simpa using h
 replace hp := Rd.below hp bel
 replace hq := Rd.below hq bel
 replace hr := Rd.below hr bel
 replace hs := Rd.below hs bel
 rw [← hW]
 clear hW
 have c0 := ra.cell? 0
 have c1 := ra.cell? 1
 have c2 := rb.cell? 0
 have c3 := rb.cell? 1
 simp only [List.getElem?_cons_zero,List.getElem?_cons_succ] at c0 c1 c2 c3
 go_wp2_with fail
 refine (rmul_nat _ _ _ _ _ hp hs (by omega) (by omega) (by have := m1.out;omega)).mono ?_
 rintro e w1 ⟨x,rfl,hx,hb1⟩
 obtain ⟨xa,xl,xc,rfl⟩ := Rd.shape hx
 replace hp := Rd.below hp hb1
 replace hq := Rd.below hq hb1
 replace hr := Rd.below hr hb1
 replace hs := Rd.below hs hb1
 replace ra := Row.keep ra hb1
 replace rb := Row.keep rb hb1
 replace r4 := Row.keep r4 hb1
 replace r5 := Row.keep r5 hb1
 replace r6 := Row.keep r6 hb1
 replace bel := Bel.to bel hb1
 clear hb1
 go_upto_region 2 with (fail)
 obtain ⟨b8,hb8⟩ : ∃ b,b = w1.heap.size := ⟨_,rfl⟩
 obtain ⟨v1,hv1⟩ : ∃ X,X = w1.alloc (.cells #[.slice xa xl xc] 30) := ⟨_,rfl⟩
 have bv1 : Below w1.heap.size w1 v1 := by rw [hv1];exact Bel.al (Below.refl _ _) _
 have r8 : Row v1 b8 30 [.slice xa xl xc] := by rw [hv1,hb8];exact Row.newOf _ rfl
 rw [← hv1,← hb8]
 have h8l : w.heap.size + 1 + 1 + 1 + 1 < b8 := by rw [hb8];have e6 := r6.lt;exact e6
 clear hv1 hb8
 replace hp := Rd.below hp bv1
 replace hq := Rd.below hq bv1
 replace hr := Rd.below hr bv1
 replace hs := Rd.below hs bv1
 replace ra := Row.keep ra bv1
 replace rb := Row.keep rb bv1
 replace r4 := Row.keep r4 bv1
 replace r5 := Row.keep r5 bv1
 replace r6 := Row.keep r6 bv1
 replace bel := Bel.to bel bv1
 replace hx := Rd.below hx bv1
 clear bv1
 clear c0 c1 c2 c3
 have c0 := ra.cell? 0
 have c1 := ra.cell? 1
 have c2 := rb.cell? 0
 have c3 := rb.cell? 1
 simp only [List.getElem?_cons_zero,List.getElem?_cons_succ] at c0 c1 c2 c3
 go_wp2_with fail
 refine (rmul_nat _ _ _ _ _ hr hq (by omega) (by omega) (by have := m2.out;omega)).mono ?_
 rintro e w2 ⟨y,rfl,hy,hb2⟩
 obtain ⟨ya,yl,yc,rfl⟩ := Rd.shape hy
 replace hp := Rd.below hp hb2
 replace hq := Rd.below hq hb2
 replace hr := Rd.below hr hb2
 replace hs := Rd.below hs hb2
 replace ra := Row.keep ra hb2
 replace rb := Row.keep rb hb2
 replace r4 := Row.keep r4 hb2
 replace r5 := Row.keep r5 hb2
 replace r6 := Row.keep r6 hb2
 replace bel := Bel.to bel hb2
 replace hx := Rd.below hx hb2
 replace r8 := Row.keep r8 hb2
 clear hb2
 go_upto_region 3 with (fail)
 obtain ⟨b10,hb10⟩ : ∃ b,b = w2.heap.size := ⟨_,rfl⟩
 obtain ⟨v2,hv2⟩ : ∃ X,X = w2.alloc (.cells #[.slice ya yl yc] 30) := ⟨_,rfl⟩
 have bv2 : Below w2.heap.size w2 v2 := by rw [hv2];exact Bel.al (Below.refl _ _) _
 have r10 : Row v2 b10 30 [.slice ya yl yc] := by rw [hv2,hb10];exact Row.newOf _ rfl
 rw [← hv2,← hb10]
 have h10l : w.heap.size + 1 + 1 + 1 + 1 < b10 := by rw [hb10];have e6 := r6.lt;exact e6
 clear hv2 hb10
 replace hp := Rd.below hp bv2
 replace hq := Rd.below hq bv2
 replace hr := Rd.below hr bv2
 replace hs := Rd.below hs bv2
 replace ra := Row.keep ra bv2
 replace rb := Row.keep rb bv2
 replace r4 := Row.keep r4 bv2
 replace r5 := Row.keep r5 bv2
 replace r6 := Row.keep r6 bv2
 replace bel := Bel.to bel bv2
 replace hx := Rd.below hx bv2
 replace r8 := Row.keep r8 bv2
 replace hy := Rd.below hy bv2
 clear bv2
 clear c0 c1 c2 c3
 have c0 := ra.cell? 0
 have c1 := ra.cell? 1
 have c2 := rb.cell? 0
 have c3 := rb.cell? 1
 simp only [List.getElem?_cons_zero,List.getElem?_cons_succ] at c0 c1 c2 c3
 go_wp2_with fail
 refine (rmul_nat _ _ _ _ _ hq hs (by omega) (by omega) (by have := m3.out;omega)).mono ?_
 rintro e w3 ⟨z,rfl,hz,hb3⟩
 obtain ⟨za,zl,zc,rfl⟩ := Rd.shape hz
 replace hp := Rd.below hp hb3
 replace hq := Rd.below hq hb3
 replace hr := Rd.below hr hb3
 replace hs := Rd.below hs hb3
 replace ra := Row.keep ra hb3
 replace rb := Row.keep rb hb3
 replace r4 := Row.keep r4 hb3
 replace r5 := Row.keep r5 hb3
 replace r6 := Row.keep r6 hb3
 replace bel := Bel.to bel hb3
 replace hx := Rd.below hx hb3
 replace r8 := Row.keep r8 hb3
 replace hy := Rd.below hy hb3
 replace r10 := Row.keep r10 hb3
 clear hb3
 go_upto_region 4 with (fail)
 obtain ⟨b12,hb12⟩ : ∃ b,b = w3.heap.size := ⟨_,rfl⟩
 obtain ⟨v3,hv3⟩ : ∃ X,X = w3.alloc (.cells #[.slice za zl zc] 30) := ⟨_,rfl⟩
 have bv3 : Below w3.heap.size w3 v3 := by rw [hv3];exact Bel.al (Below.refl _ _) _
 have r12 : Row v3 b12 30 [.slice za zl zc] := by rw [hv3,hb12];exact Row.newOf _ rfl
 rw [← hv3,← hb12]
 have h12l : w.heap.size + 1 + 1 + 1 + 1 < b12 := by rw [hb12];have e6 := r6.lt;exact e6
 clear hv3 hb12
 replace hp := Rd.below hp bv3
 replace hq := Rd.below hq bv3
 replace hr := Rd.below hr bv3
 replace hs := Rd.below hs bv3
 replace ra := Row.keep ra bv3
 replace rb := Row.keep rb bv3
 replace r4 := Row.keep r4 bv3
 replace r5 := Row.keep r5 bv3
 replace r6 := Row.keep r6 bv3
 replace bel := Bel.to bel bv3
 replace hx := Rd.below hx bv3
 replace r8 := Row.keep r8 bv3
 replace hy := Rd.below hy bv3
 replace r10 := Row.keep r10 bv3
 replace hz := Rd.below hz bv3
 clear bv3
 clear c0 c1 c2 c3 hp hq hr hs ra rb
 have l8 : w.heap.size + 1 + 1 + 1 + 1 < b8 := h8l
 have l10 : w.heap.size + 1 + 1 + 1 + 1 < b10 := h10l
 have l12 : w.heap.size + 1 + 1 + 1 + 1 < b12 := h12l
 have c8 := r8.cell? 0
 have c10 := r10.cell? 0
 have c12 := r12.cell? 0
 simp only [List.getElem?_cons_zero] at c8 c10 c12
 have q4 := r4.cell? 0
 have q5 := r5.cell? 0
 have q6 := r6.cell? 0
 simp only [List.getElem?_cons_zero] at q4 q5 q6
 clear q4 q5 q6
 go_upto_region 6 with (fail)
 refine wp_region_held_drew (S := fun X => X.cell? ⟨b8,0,none⟩ = some (.slice xa xl xc) ∧ X.cell? ⟨b10,0,none⟩ = some (.slice ya yl yc) ∧ X.cell? ⟨b12,0,none⟩ = some (.slice za zl zc)) (by kernel_rfl) ⟨c8,c10,c12⟩ (fun hHeld => ?_)
 refine' wpAnyH_take (i := 0) (oi := _) (v := .agg #[.slice xa xl xc]) rfl (by kernel_rfl) (by kernel_rfl) (by kernel_rfl) (fun _ _ _ h => h) (Or.inl ⟨by first | (go_simp;done) | rfl,fun X hX => by have h0 := hX.1;go_simp⟩) hHeld ?_
 try simp only [List.getElem_toArray,List.getElem_cons_zero,List.getElem_cons_succ,Act.put,zsA,zsB,zsC]
 refine' wpAnyH_take (i := 1) (oi := _) (v := .agg #[.slice ya yl yc]) rfl (by kernel_rfl) (by kernel_rfl) (by kernel_rfl) (fun _ _ _ h => h) (Or.inl ⟨by first | (go_simp;done) | rfl,fun X hX => by have h0 := hX.2.1;go_simp⟩) hHeld ?_
 try simp only [List.getElem_toArray,List.getElem_cons_zero,List.getElem_cons_succ,Act.put,zsA,zsB,zsC]
 refine' wpAnyH_take (i := 2) (oi := _) (v := .agg #[.slice za zl zc]) rfl (by kernel_rfl) (by kernel_rfl) (by kernel_rfl) (fun _ _ _ h => h) (Or.inl ⟨by first | (go_simp;done) | rfl,fun X hX => by have h0 := hX.2.2;go_simp⟩) hHeld ?_
 try simp only [List.getElem_toArray,List.getElem_cons_zero,List.getElem_cons_succ,Act.put,zsA,zsB,zsC]
 obtain ⟨Y0,hY0⟩ : ∃ Y,Y = v3.drew := ⟨_,rfl⟩
 have hY1 : Below v3.heap.size v3 Y0 := by rw [hY0];exact Below.drew (Below.refl _ _)
 replace bel := Bel.to bel hY1
 replace hx := Rd.below hx hY1
 replace hy := Rd.below hy hY1
 replace hz := Rd.below hz hY1
 replace r4 := Row.keep r4 hY1
 replace r5 := Row.keep r5 hY1
 replace r6 := Row.keep r6 hY1
 rw [← hY0] at hHeld ⊢
 clear hY0 hY1 c8 c10 c12
 have q4 := r4.cell? 0
 have q4f := r4.frozen 0
 simp only [List.getElem?_cons_zero] at q4
 have q5' := (Row.far r5 (p := ⟨w.heap.size + 1 + 1,0,none⟩) (by simp only [];omega) (.slice xa xl xc)).cell? 0
 have q5f := (Row.far r5 (p := ⟨w.heap.size + 1 + 1,0,none⟩) (by simp only [];omega) (.slice xa xl xc)).frozen 0
 have q6' := (Row.far (Row.far r6 (p := ⟨w.heap.size + 1 + 1,0,none⟩) (by simp only [];omega) (.slice xa xl xc)) (p := ⟨w.heap.size + 1 + 1 + 1,0,none⟩) (by simp only [];omega) (.slice ya yl yc)).cell? 0
 have q6f := (Row.far (Row.far r6 (p := ⟨w.heap.size + 1 + 1,0,none⟩) (by simp only [];omega) (.slice xa xl xc)) (p := ⟨w.heap.size + 1 + 1 + 1,0,none⟩) (by simp only [];omega) (.slice ya yl yc)).frozen 0
 simp only [List.getElem?_cons_zero] at q5' q6'
 refine wpAnyH_ready (rs := [3]) (by kernel_rfl) (by simp) ?_
 refine AllReadyH.cons (o := _) rfl (fun K hK => ?_) AllReadyH.nil
 go_simp
 refine hK.out _ _ ⟨cell_far hHeld.1 (p := ⟨w.heap.size + 1 + 1,0,none⟩) (by simp only [];omega) _,cell_far hHeld.2.1 (p := ⟨w.heap.size + 1 + 1,0,none⟩) (by simp only [];omega) _,cell_far hHeld.2.2 (p := ⟨w.heap.size + 1 + 1,0,none⟩) (by simp only [];omega) _⟩ (fun hHeld => ?_)
 clear hK K
 try simp only [List.getElem_toArray,List.getElem_cons_zero,List.getElem_cons_succ,Act.put,zsA,zsB,zsC]
 refine wpAnyH_ready (rs := [4]) (by kernel_rfl) (by simp) ?_
 refine AllReadyH.cons (o := _) rfl (fun K hK => ?_) AllReadyH.nil
 go_simp
 refine hK.out _ _ ⟨cell_far hHeld.1 (p := ⟨w.heap.size + 1 + 1 + 1,0,none⟩) (by simp only [];omega) _,cell_far hHeld.2.1 (p := ⟨w.heap.size + 1 + 1 + 1,0,none⟩) (by simp only [];omega) _,cell_far hHeld.2.2 (p := ⟨w.heap.size + 1 + 1 + 1,0,none⟩) (by simp only [];omega) _⟩ (fun hHeld => ?_)
 clear hK K
 try simp only [List.getElem_toArray,List.getElem_cons_zero,List.getElem_cons_succ,Act.put,zsA,zsB,zsC]
 refine wpAnyH_ready (rs := [5]) (by kernel_rfl) (by simp) ?_
 refine AllReadyH.cons (o := _) rfl (fun K hK => ?_) AllReadyH.nil
 go_simp
 refine hK.out _ _ ⟨cell_far hHeld.1 (p := ⟨w.heap.size + 1 + 1 + 1 + 1,0,none⟩) (by simp only [];omega) _,cell_far hHeld.2.1 (p := ⟨w.heap.size + 1 + 1 + 1 + 1,0,none⟩) (by simp only [];omega) _,cell_far hHeld.2.2 (p := ⟨w.heap.size + 1 + 1 + 1 + 1,0,none⟩) (by simp only [];omega) _⟩ (fun hHeld => ?_)
 clear hK K
 try simp only [List.getElem_toArray,List.getElem_cons_zero,List.getElem_cons_succ,Act.put,zsA,zsB,zsC]
 refine' wpAnyH_take (i := 6) (oi := _) (v := .int .i64 0) rfl (by kernel_rfl) (by kernel_rfl) (by kernel_rfl) (fun _ _ _ h => h) (Or.inl ⟨by first | (go_simp;done) | rfl,fun X _ => by go_simp⟩) hHeld ?_
 try simp only [List.getElem_toArray,List.getElem_cons_zero,List.getElem_cons_succ,Act.put,zsA,zsB,zsC]
 refine wpAnyH_done (by kernel_rfl) ?_ _
 go_simp
 have hx3 := (((Rd.setNe hx q4 (fun _ h => by cases h) (.slice xa xl xc)).setNe q5' (fun _ h => by cases h) (.slice ya yl yc)).setNe q6' (fun _ h => by cases h) (.slice za zl zc))
 have hy3 := (((Rd.setNe hy q4 (fun _ h => by cases h) (.slice xa xl xc)).setNe q5' (fun _ h => by cases h) (.slice ya yl yc)).setNe q6' (fun _ h => by cases h) (.slice za zl zc))
 have hz3 := (((Rd.setNe hz q4 (fun _ h => by cases h) (.slice xa xl xc)).setNe q5' (fun _ h => by cases h) (.slice ya yl yc)).setNe q6' (fun _ h => by cases h) (.slice za zl zc))
 have belf := Bel.st (Bel.st (Bel.st bel (p := ⟨w.heap.size + 1 + 1,0,none⟩) (by simp only [];omega) (.slice xa xl xc)) (p := ⟨w.heap.size + 1 + 1 + 1,0,none⟩) (by simp only [];omega) (.slice ya yl yc)) (p := ⟨w.heap.size + 1 + 1 + 1 + 1,0,none⟩) (by simp only [];omega) (.slice za zl zc)
 have f4 := ((Row.set r4 0 (.slice xa xl xc)).far (p := ⟨w.heap.size + 1 + 1 + 1,0,none⟩) (by simp only [];omega) (.slice ya yl yc)).far (p := ⟨w.heap.size + 1 + 1 + 1 + 1,0,none⟩) (by simp only [];omega) (.slice za zl zc)
 have f5 := (Row.set (Row.far r5 (p := ⟨w.heap.size + 1 + 1,0,none⟩) (by simp only [];omega) (.slice xa xl xc)) 0 (.slice ya yl yc)).far (p := ⟨w.heap.size + 1 + 1 + 1 + 1,0,none⟩) (by simp only [];omega) (.slice za zl zc)
 have f6 := Row.set (Row.far (Row.far r6 (p := ⟨w.heap.size + 1 + 1,0,none⟩) (by simp only [];omega) (.slice xa xl xc)) (p := ⟨w.heap.size + 1 + 1 + 1,0,none⟩) (by simp only [];omega) (.slice ya yl yc)) 0 (.slice za zl zc)
 have g4 := f4.cell? 0
 have g5 := f5.cell? 0
 have g6 := f6.cell? 0
 simp only [zsB,List.getElem?_cons_zero] at g4 g5 g6
 go_wp2
 exact bodyPost_ret (v := .tuple #[.agg #[.slice xa xl xc],.agg #[.slice ya yl yc],.agg #[.slice za zl zc],.int .i64 0]) (by simp [results,Try.results38,go_sem,g4,g5,g6]) rfl ⟨_,_,_,rfl,hx3,hy3,hz3,belf⟩
set_option maxHeartbeats 8000000 in
set_option maxRecDepth 100000 in
theorem rfadd_ok (va vb vc vd : Value) (p q r s : Nat) (w : World) (hp : NV w va p) (hq : NV w vb q) (hr : NV w vc r) (hs : NV w vd s) (lp : (limbs p).length ≤ 20) (lq : (limbs q).length ≤ 20) (lr : (limbs r).length ≤ 20) (ls : (limbs s).length ≤ 20) (q0 : 0 < q) (s0 : 0 < s) (g1 : Nat.gcd p q = 1) (g2 : Nat.gcd r s = 1) :
  Calls Try.prog 17 #[.agg #[va,vb],.agg #[vc,vd]] w (FracC (numR (p * s + r * q) (q * s)) (denR (p * s + r * q) (q * s)) 0 w) := by
 have cV1 := hide (fun va vb X (h1 : NV X va p) (h2 : NV X vb q) => rfvalid_ok va vb p q X h1 h2 (by omega) (by omega) q0 g1)
 have cV2 := hide (fun va vb X (h1 : NV X va r) (h2 : NV X vb s) => rfvalid_ok va vb r s X h1 h2 (by omega) (by omega) s0 g2)
 have cC := hide (fun va vb vc vd X (h1 : NV X va p) (h2 : NV X vb q) (h3 : NV X vc r) (h4 : NV X vd s) => rfcross_ok va vb vc vd p q r s X h1 h2 h3 h4 (by omega) (by omega) (by omega) (by omega))
 have l1 := limbs_mul p s
 have l2 := limbs_mul r q
 have l3 := limbs_mul q s
 have hz0 := Nat.mul_pos q0 s0
 obtain ⟨x,hx0⟩ : ∃ x,x = p * s := ⟨_,rfl⟩
 obtain ⟨y,hy0⟩ : ∃ y,y = r * q := ⟨_,rfl⟩
 obtain ⟨z,hz1⟩ : ∃ z,z = q * s := ⟨_,rfl⟩
 rw [← hx0] at l1
 rw [← hy0] at l2
 rw [← hz1] at l3 hz0
 rw [← hx0,← hy0,← hz1] at cC ⊢
 have lx : (limbs x).length ≤ 40 := by omega
 have ly : (limbs y).length ≤ 40 := by omega
 have lz : (limbs z).length ≤ 64 := by omega
 have lxy : (limbs (x + y)).length ≤ 64 := by
  have hX := length_limbs_lt.2 lx
  have hY := length_limbs_lt.2 ly
  have h41 : x + y < 4294967296 ^ 41 := by
   rw [Nat.pow_succ]
   generalize 4294967296 ^ 40 = B at hX hY ⊢
   omega
  have := length_limbs_lt.1 h41
  omega
 have dxy := digs_limbs_len lxy
 have cA := hide (fun va vb X (h1 : NV X va x) (h2 : NV X vb y) => radd_nat va vb x y X h1 h2 (by omega) (by omega) (by omega))
 have cR := hide (fun va vb X (h1 : NV X va (x + y)) (h2 : NV X vb z) => rreduce_ok va vb (x + y) z X h1 h2 lxy lz hz0)
 obtain ⟨n1,hn1⟩ : ∃ n,n = numR (x + y) z := ⟨_,rfl⟩
 obtain ⟨n2,hn2⟩ : ∃ n,n = denR (x + y) z := ⟨_,rfl⟩
 have e1 : (x + y) / Nat.gcd (x + y) z = n1 := hn1.symm
 have e2 : z / Nat.gcd (x + y) z = n2 := hn2.symm
 rw [e1,e2] at cR
 rw [← hn1,← hn2]
 clear l1 l2 l3 lx ly lz lxy dxy hx0 hy0 hz1 hz0 hn1 hn2 e1 e2 g1 g2 q0 s0 lp lq lr ls
 obtain ⟨pa,pl,pc,rfl⟩ := Rd.shape hp
 obtain ⟨qa,ql,qc,rfl⟩ := Rd.shape hq
 obtain ⟨ra',rl,rc,rfl⟩ := Rd.shape hr
 obtain ⟨sa,sl,sc,rfl⟩ := Rd.shape hs
 go_enter Try.func17,Try.ntmps17
 go_upto_region 1 with (fail)
 obtain ⟨W,hW⟩ : ∃ W,W = ((w.alloc (.cells #[.slice pa pl pc,.slice qa ql qc] 36)).alloc (.cells #[.slice ra' rl rc,.slice sa sl sc] 36)).alloc (.cells #[.slice none 0 0,.slice none 0 0] 36) := ⟨_,rfl⟩
 have bel : Below w.heap.size w W := by rw [hW];exact Bel.al (Bel.al (Bel.al (Below.refl _ _) _) _) _
 have ra : Row W w.heap.size 36 [.slice pa pl pc,.slice qa ql qc] := by rw [hW];exact Row.alloc (Row.alloc (Row.new _ _ _) _) _
 have rb : Row W (w.heap.size + 1) 36 [.slice ra' rl rc,.slice sa sl sc] := by rw [hW];exact Row.alloc (Row.at2 _ _ _ _) _
 have rR : Row W (w.heap.size + 1 + 1) 36 [.slice none 0 0,.slice none 0 0] := by rw [hW];exact Row.at3 _ _ _ _ _
 replace hp := Rd.below hp bel
 replace hq := Rd.below hq bel
 replace hr := Rd.below hr bel
 replace hs := Rd.below hs bel
 rw [← hW]
 clear hW
 have cV := hide (cV1.out _ _ W hp hq)
 go_wp2_with (first | (refine wpList_load_row_if (by first | (go_simp;done) | rfl) 36 _ rfl _ rfl _ _ _ ra Try.underlying36 rfl (by kernel_rfl) ?_) | fail)
 refine cV.out.mono ?_
 rintro e w1 ⟨rfl,hb1⟩
 replace hp := Rd.below hp hb1
 replace hq := Rd.below hq hb1
 replace hr := Rd.below hr hb1
 replace hs := Rd.below hs hb1
 replace ra := Row.keep ra hb1
 replace rb := Row.keep rb hb1
 replace rR := Row.keep rR hb1
 replace bel := Bel.to bel hb1
 clear hb1 cV cV1
 have cV := hide (cV2.out _ _ w1 hr hs)
 go_wp2_with (first | (refine wpList_load_row_if (by first | (go_simp;done) | rfl) 36 _ rfl _ rfl _ _ _ rb Try.underlying36 rfl (by kernel_rfl) ?_) | fail)
 refine cV.out.mono ?_
 rintro e w2 ⟨rfl,hb2⟩
 replace hp := Rd.below hp hb2
 replace hq := Rd.below hq hb2
 replace hr := Rd.below hr hb2
 replace hs := Rd.below hs hb2
 replace ra := Row.keep ra hb2
 replace rb := Row.keep rb hb2
 replace rR := Row.keep rR hb2
 replace bel := Bel.to bel hb2
 clear hb2 cV cV2
 have cV := hide (cC.out _ _ _ _ w2 hp hq hr hs)
 go_wp2_with (first | (refine wpList_load_row_if (by first | (go_simp;done) | rfl) 36 _ rfl _ rfl _ _ _ ra Try.underlying36 rfl (by kernel_rfl) ?_) | (refine wpList_load_row_if (by first | (go_simp;done) | rfl) 36 _ rfl _ rfl _ _ _ rb Try.underlying36 rfl (by kernel_rfl) ?_) | fail)
 refine cV.out.mono ?_
 rintro e w3 ⟨ux,uy,uz,rfl,hx,hy,hz,hb3⟩
 obtain ⟨xa,xl,xc,rfl⟩ := Rd.shape hx
 obtain ⟨ya,yl,yc,rfl⟩ := Rd.shape hy
 obtain ⟨za,zl,zc,rfl⟩ := Rd.shape hz
 replace rR := Row.keep rR hb3
 replace bel := Bel.to bel hb3
 clear hb3 cV cC hp hq hr hs ra rb
 go_upto_region 4 with (fail)
 obtain ⟨b6,hb6⟩ : ∃ b,b = w3.heap.size := ⟨_,rfl⟩
 obtain ⟨w4,hw4⟩ : ∃ X,X = ((w3.alloc (.cells #[.slice xa xl xc] 30)).alloc (.cells #[.slice ya yl yc] 30)).alloc (.cells #[.slice za zl zc] 30) := ⟨_,rfl⟩
 have b4 : Below w3.heap.size w3 w4 := by rw [hw4];exact Bel.al (Bel.al (Bel.al (Below.refl _ _) _) _) _
 have r6 : Row w4 b6 30 [.slice xa xl xc] := by rw [hw4,hb6];exact Row.alloc (Row.alloc (Row.new _ _ _) _) _
 have r7 : Row w4 (b6 + 1) 30 [.slice ya yl yc] := by rw [hw4,hb6];exact Row.alloc (Row.at2 _ _ _ _) _
 have r8 : Row w4 (b6 + 1 + 1) 30 [.slice za zl zc] := by rw [hw4,hb6];exact Row.at3 _ _ _ _ _
 rw [← hw4,← hb6]
 clear hw4 hb6
 replace hx := Rd.below hx b4
 replace hy := Rd.below hy b4
 replace hz := Rd.below hz b4
 replace rR := Row.keep rR b4
 replace bel := Bel.to bel b4
 clear b4
 have c6 := r6.cell? 0
 have c7 := r7.cell? 0
 simp only [List.getElem?_cons_zero] at c6 c7
 go_wp2_with fail
 refine (cA.out _ _ _ hx hy).mono ?_
 rintro e w5 ⟨un,rfl,hn,hb5⟩
 obtain ⟨na,nl,nc,rfl⟩ := Rd.shape hn
 replace hz := Rd.below hz hb5
 replace rR := Row.keep rR hb5
 replace r8 := Row.keep r8 hb5
 replace bel := Bel.to bel hb5
 clear hb5 cA c6 c7 r6 r7 hx hy
 go_upto_region 7 with (fail)
 obtain ⟨b10,hb10⟩ : ∃ b,b = w5.heap.size := ⟨_,rfl⟩
 obtain ⟨w6,hw6⟩ : ∃ X,X = w5.alloc (.cells #[.slice na nl nc] 30) := ⟨_,rfl⟩
 have b6' : Below w5.heap.size w5 w6 := by rw [hw6];exact Bel.al (Below.refl _ _) _
 have r10 : Row w6 b10 30 [.slice na nl nc] := by rw [hw6,hb10];exact Row.newOf _ rfl
 rw [← hw6,← hb10]
 clear hw6 hb10
 replace hz := Rd.below hz b6'
 replace hn := Rd.below hn b6'
 replace rR := Row.keep rR b6'
 replace r8 := Row.keep r8 b6'
 replace bel := Bel.to bel b6'
 clear b6'
 have c10 := r10.cell? 0
 have c8 := r8.cell? 0
 simp only [List.getElem?_cons_zero] at c10 c8
 go_wp2_with fail
 refine (cR.out _ _ _ hn hz).mono ?_
 rintro e w7 ⟨uq,up,rfl,hq,hp,hb7⟩
 obtain ⟨qu,ql',qc',rfl⟩ := Rd.shape hq
 obtain ⟨pu,pl',pc',rfl⟩ := Rd.shape hp
 replace rR := Row.keep rR hb7
 replace bel := Bel.to bel hb7
 clear hb7 cR c8 c10 r8 r10 hn hz
 have cR0 := rR.cell? 0
 have cR1 := rR.cell? 1
 simp only [List.getElem?_cons_zero,List.getElem?_cons_succ] at cR0 cR1
 have fR0 := rR.frozen 0
 have fR1 := rR.frozen 1
 have c1' := (rR.set 0 (.slice qu ql' qc')).cell? 1
 simp only [zsB,List.getElem?_cons_zero,List.getElem?_cons_succ] at c1'
 have hq3 := (Rd.setNe hq cR0 (fun _ h => by cases h) (.slice qu ql' qc')).setNe c1' (fun _ h => by cases h) (.slice pu pl' pc')
 have hp3 := (Rd.setNe hp cR0 (fun _ h => by cases h) (.slice qu ql' qc')).setNe c1' (fun _ h => by cases h) (.slice pu pl' pc')
 have belf := Bel.st (Bel.st bel (p := ⟨w.heap.size + 1 + 1,0,none⟩) (by simp only [];omega) (.slice qu ql' qc')) (p := ⟨w.heap.size + 1 + 1,1,none⟩) (by simp only [];omega) (.slice pu pl' pc')
 have rF := (rR.set 0 (.slice qu ql' qc')).set 1 (.slice pu pl' pc')
 simp only [zsB,zsC] at rF
 have cF0 := rF.cell? 0
 have cF1 := rF.cell? 1
 simp only [List.getElem?_cons_zero,List.getElem?_cons_succ] at cF0 cF1
 clear hq hp c1' rF
 go_wp2
 exact bodyPost_ret (v := .tuple #[.agg #[(.slice qu ql' qc'),(.slice pu pl' pc')],.int .i64 0]) (by simp [results,Try.results17,go_sem,cF0,cF1]) rfl ⟨_,_,rfl,hq3,hp3,belf⟩
end Go.Proofs.Ytldikghldcefcaa
end

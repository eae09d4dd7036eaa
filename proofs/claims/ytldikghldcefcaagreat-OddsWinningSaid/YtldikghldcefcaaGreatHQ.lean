/- Lemmas, merged out of smaller texts (wip/tools/mergedce.py). No condition. -/
import Derived.Test.YtldikghldcefcaaGreatHO
import Derived.Test.YtldikghldcefcaaGreatHJ
import Derived.Test.YtldikghldcefcaaGreatHI
section
set_option linter.unusedVariables false
set_option linter.unusedSimpArgs false
namespace Go.Proofs.YtldikghldcefcaaGreat
open Go.RowKit
theorem rout_n (g : GameD) (av tv : Value) (ms : List AddonM) (X : World) (hX : GameR X av tv ms g) (he : gameE g = 0) : Calls Tryz.prog 35 #[gameVal g av tv] X (NatC (outN g) 0 X) := by
 have h := rOut_any g av tv ms X hX
 have e : outV g = (outN g,0) := by unfold outV;rw [if_pos he]
 rw [e] at h
 exact h
set_option maxHeartbeats 4000000 in
set_option maxRecDepth 100000 in
theorem rWin_any (g : GameD) (av tv : Value) (ms : List AddonM) (t : Int) (w : World) (rg : GameR w av tv ms g) (P : Nat) (C : Int) (hPC : WinO g (winV g) t = (P,C)) :
  Calls Tryz.prog 9 #[gameVal g av tv,.int .i64 t] w (NatC P C w) := by
 have cK := hide (fun X (hX : Below w.heap.size w X) => rcheck_any g av tv ms X (rg.below hX))
 have cD := hide (fun X (hX : Below w.heap.size w X) (he : gameE g = 0) (h0 : 0 ≤ t) (h1 : t < g.tiers.length) (hk : g.kind = 2) => by
  have h := rwind_any g av tv ms t.toNat X (rg.below hX) he hk (by omega)
  rw [show ((t.toNat : Nat) : Int) = t by omega] at h
  exact h)
 have cO := hide (fun X (hX : Below w.heap.size w X) (he : gameE g = 0) (hk : g.kind ≠ 2) => by
  have h := rwinc_any g av tv ms t X (rg.below hX) he hk
  rw [← winV_cho hk] at h
  exact h)
 obtain ⟨aa,ac,rfl,hal,ham⟩ := rg.1.1.shape
 obtain ⟨ta,tc,rfl,htl,htm⟩ := rg.2.2.shape
 obtain ⟨an,han⟩ : ∃ an,an = ms.length := ⟨_,rfl⟩
 obtain ⟨tn,htn⟩ : ∃ tn,tn = g.tiers.length := ⟨_,rfl⟩
 rw [← han,← htn] at cK cO cD ⊢
 unfold WinO at hPC
 rw [← htn] at hPC
 clear rg hal htl ham htm han htn
 obtain ⟨c,hc⟩ : ∃ c,c = gameE g := ⟨_,rfl⟩
 rw [← hc] at cK cO cD hPC
 replace hPC := hide hPC
 clear hc
 unfold gameVal at cK cO cD ⊢
 go_enter Tryz.func9,Tryz.ntmps9
 go_upto_region 1 with (fail)
 obtain ⟨W,hW⟩ : ∃ W,W = (w.alloc (Obj.cells #[.string g.name,.int .i64 g.kind,.int .i64 g.price,.int .i64 g.main,.int .i64 g.of,.int .i64 g.bonus,.int .i64 g.bonusOf,.int .i64 g.extra,.int .i64 g.draws,.int .i64 g.system,.int .i64 g.days,.int .i64 g.at_,.int .i64 g.close,.int .i64 g.cancel,.int .i64 g.expiry,.int .i64 g.pool,.int .i64 g.reserve,.int .i64 g.round,.int .i64 g.cap,.int .i64 g.rolls,(.slice aa an ac),(.slice ta tn tc)] 25)).alloc (Obj.cells #[.slice none 0 0] 30) := ⟨_,rfl⟩
 have bW : Below w.heap.size w W := by rw [hW];exact Bel.al (Bel.al (Below.refl _ _) _) _
 have r0 : GameAt W w.heap.size g (.slice aa an ac) (.slice ta tn tc) := by rw [hW];exact Row.alloc (Row.new _ _ _) _
 have rR : Row W (w.heap.size + 1) 30 [.slice none 0 0] := by rw [hW];exact Row.at2 _ _ _ _
 rw [← hW]
 clear hW
 go_wp2_with (first | (refine wpList_load_row rfl 25 _ rfl _ rfl _ _ _ _ r0 Tryz.underlying25 rfl (by kernel_rfl) ?_) | fail)
 refine (cK.out _ bW).mono ?_
 rintro e w1 ⟨s,rfl,hb1⟩
 have bel := Bel.to bW hb1
 have r1 := r0.keep hb1
 replace rR := Row.keep rR hb1
 have ct := r1.tiers
 clear r0 hb1 cK
 by_cases h0 : c = 0
 ·subst h0
  by_cases h1 : t < 0
  ·have hp := hPC.out
   rw [if_neg (by omega),if_pos (.inl h1)] at hp
   injection hp with hp1 hp2
   subst hp1 hp2
   have hp : NV w1 (.slice none 0 0) 0 := NV.zero _
   clear cO cD hPC
   have cR := rR.cell? 0
   have fR := rR.frozen 0
   simp only [List.getElem?_cons_zero] at cR
   have hf := Rd.setNe hp cR (fun _ h => by cases h) (.slice none 0 0)
   have belf := Bel.st bel (p := ⟨w.heap.size + 1,0,none⟩) (by simp only [];omega) (.slice none 0 0)
   go_wp2
   exact bodyPost_ret (v := .tuple #[.agg #[(.slice none 0 0)],.int .i64 2]) (by simp [results,Tryz.results9,go_sem,cR]) rfl ⟨_,rfl,hf,belf⟩
  ·by_cases h2 : (tn : Int) ≤ t
   ·have hp := hPC.out
    rw [if_neg (by omega),if_pos (.inr h2)] at hp
    injection hp with hp1 hp2
    subst hp1 hp2
    have hp : NV w1 (.slice none 0 0) 0 := NV.zero _
    clear cO cD hPC
    have cR := rR.cell? 0
    have fR := rR.frozen 0
    simp only [List.getElem?_cons_zero] at cR
    have hf := Rd.setNe hp cR (fun _ h => by cases h) (.slice none 0 0)
    have belf := Bel.st bel (p := ⟨w.heap.size + 1,0,none⟩) (by simp only [];omega) (.slice none 0 0)
    go_wp2
    exact bodyPost_ret (v := .tuple #[.agg #[(.slice none 0 0)],.int .i64 2]) (by simp [results,Tryz.results9,go_sem,cR]) rfl ⟨_,rfl,hf,belf⟩
   ·have hp := hPC.out
    rw [if_neg (by omega),if_neg (by omega)] at hp
    injection hp with hp1 hp2
    by_cases hk : g.kind = 2
    ·skip
     have cO2 := hide (cD.out w1 bel rfl (by omega) (by omega) hk)
     rw [hp1] at cO2
     subst hp2
     clear cO cD hPC hp1
     have ck := r1.kind
     rw [hk] at ck
     replace hk := hide hk
     go_wp2_with (first | (refine wpList_load_row rfl 25 _ rfl _ rfl _ _ _ _ r1 Tryz.underlying25 rfl (by kernel_rfl) ?_) | fail)
     refine cO2.out.mono ?_
     rintro e w2 ⟨u,rfl,hp,hb2⟩
     obtain ⟨pa,pn,pc,rfl⟩ := Rd.shape hp
     replace rR := Row.keep rR hb2
     replace bel := Bel.to bel hb2
     clear hb2 cO2 r1 ct ck
     have cR := rR.cell? 0
     have fR := rR.frozen 0
     simp only [List.getElem?_cons_zero] at cR
     have hf := Rd.setNe hp cR (fun _ h => by cases h) (.slice pa pn pc)
     have belf := Bel.st bel (p := ⟨w.heap.size + 1,0,none⟩) (by simp only [];omega) (.slice pa pn pc)
     go_wp2
     exact bodyPost_ret (v := .tuple #[.agg #[(.slice pa pn pc)],.int .i64 0]) (by simp [results,Tryz.results9,go_sem,cR]) rfl ⟨_,rfl,hf,belf⟩
    ·skip
     have cO2 := hide (cO.out w1 bel rfl hk)
     rw [hp1] at cO2
     subst hp2
     clear cO cD hPC hp1
     have ck := r1.kind
     have hkb : (g.kind == 2) = false := by simpa using hk
     replace hk := hide hk
     go_wp2_with (first | (refine wpList_load_row rfl 25 _ rfl _ rfl _ _ _ _ r1 Tryz.underlying25 rfl (by kernel_rfl) ?_) | fail)
     refine cO2.out.mono ?_
     rintro e w2 ⟨u,rfl,hp,hb2⟩
     obtain ⟨pa,pn,pc,rfl⟩ := Rd.shape hp
     replace rR := Row.keep rR hb2
     replace bel := Bel.to bel hb2
     clear hb2 cO2 r1 ct ck
     have cR := rR.cell? 0
     have fR := rR.frozen 0
     simp only [List.getElem?_cons_zero] at cR
     have hf := Rd.setNe hp cR (fun _ h => by cases h) (.slice pa pn pc)
     have belf := Bel.st bel (p := ⟨w.heap.size + 1,0,none⟩) (by simp only [];omega) (.slice pa pn pc)
     go_wp2
     exact bodyPost_ret (v := .tuple #[.agg #[(.slice pa pn pc)],.int .i64 0]) (by simp [results,Tryz.results9,go_sem,cR]) rfl ⟨_,rfl,hf,belf⟩
 ·have hp := hPC.out
  rw [if_pos h0] at hp
  injection hp with hp1 hp2
  subst hp1 hp2
  have hcb : (c != 0) = true := by simpa using h0
  have hp : NV w1 (.slice none 0 0) 0 := NV.zero _
  replace h0 := hide h0
  clear cO cD hPC
  have cR := rR.cell? 0
  have fR := rR.frozen 0
  simp only [List.getElem?_cons_zero] at cR
  have hf := Rd.setNe hp cR (fun _ h => by cases h) (.slice none 0 0)
  have belf := Bel.st bel (p := ⟨w.heap.size + 1,0,none⟩) (by simp only [];omega) (.slice none 0 0)
  go_wp2
  exact bodyPost_ret (v := .tuple #[.agg #[(.slice none 0 0)],.int .i64 c]) (by simp [results,Tryz.results9,go_sem,cR]) rfl ⟨_,rfl,hf,belf⟩
set_option maxHeartbeats 4000000 in
set_option maxRecDepth 100000 in
theorem rChance_any (g : GameD) (av tv : Value) (ms : List AddonM) (t : Int) (w : World) (rg : GameR w av tv ms g) (P : Nat) (C : Int) (hPC : WinO g (winV g) t = (P,C)) (hV : C = 0 → (limbs P).length ≤ 64) :
  Calls Tryz.prog 11 #[gameVal g av tv,.int .i64 t] w (FracC (if C = 0 then P / Nat.gcd P (outN g) else 0) (if C = 0 then outN g / Nat.gcd P (outN g) else 0) C w) := by
 have cK := hide (fun X (hX : Below w.heap.size w X) => rWin_any g av tv ms t X (rg.below hX) P C hPC)
 have hee : Hid (C = 0 → gameE g = 0) := by
  intro h
  apply Classical.byContradiction
  intro hne
  unfold WinO at hPC
  rw [if_pos hne] at hPC
  injection hPC with _ h2
  omega
 have cO := hide (fun X (hX : Below w.heap.size w X) (he : C = 0) => rout_n g av tv ms X (rg.below hX) (hee.out he))
 have hop := hide (fun (he : C = 0) => outN_pos (hee.out he))
 have hol := hide (fun (he : C = 0) => Nat.le_trans (outN_limbs (hee.out he)) (show 60 ≤ 64 by omega))
 obtain ⟨N,hN⟩ : ∃ N,N = outN g := ⟨_,rfl⟩
 rw [← hN] at cO hop hol ⊢
 replace hV := hide hV
 clear hN hPC
 obtain ⟨aa,ac,rfl,hal,ham⟩ := rg.1.1.shape
 obtain ⟨ta,tc,rfl,htl,htm⟩ := rg.2.2.shape
 obtain ⟨an,han⟩ : ∃ an,an = ms.length := ⟨_,rfl⟩
 obtain ⟨tn,htn⟩ : ∃ tn,tn = g.tiers.length := ⟨_,rfl⟩
 rw [← han,← htn] at cK cO ⊢
 clear rg hal htl ham htm han htn hee
 obtain ⟨Q1,hQ1⟩ : ∃ Q,Q = if C = 0 then P / Nat.gcd P N else 0 := ⟨_,rfl⟩
 obtain ⟨Q2,hQ2⟩ : ∃ Q,Q = if C = 0 then N / Nat.gcd P N else 0 := ⟨_,rfl⟩
 rw [← hQ1,← hQ2]
 replace hQ1 := hide hQ1
 replace hQ2 := hide hQ2
 unfold gameVal at cK cO ⊢
 go_enter Tryz.func11,Tryz.ntmps11
 go_upto_region 1 with (fail)
 obtain ⟨W,hW0⟩ : ∃ W,W = (w.alloc (Obj.cells #[.string g.name,.int .i64 g.kind,.int .i64 g.price,.int .i64 g.main,.int .i64 g.of,.int .i64 g.bonus,.int .i64 g.bonusOf,.int .i64 g.extra,.int .i64 g.draws,.int .i64 g.system,.int .i64 g.days,.int .i64 g.at_,.int .i64 g.close,.int .i64 g.cancel,.int .i64 g.expiry,.int .i64 g.pool,.int .i64 g.reserve,.int .i64 g.round,.int .i64 g.cap,.int .i64 g.rolls,(.slice aa an ac),(.slice ta tn tc)] 25)).alloc (Obj.cells #[.slice none 0 0,.slice none 0 0] 35) := ⟨_,rfl⟩
 have bW : Below w.heap.size w W := by rw [hW0];exact Bel.al (Bel.al (Below.refl _ _) _) _
 have r0 : GameAt W w.heap.size g (.slice aa an ac) (.slice ta tn tc) := by rw [hW0];exact Row.alloc (Row.new _ _ _) _
 have rR : Row W (w.heap.size + 1) 35 [.slice none 0 0,.slice none 0 0] := by rw [hW0];exact Row.at2 _ _ _ _
 rw [← hW0]
 clear hW0
 go_wp2_with (first | (refine wpList_load_row rfl 25 _ rfl _ rfl _ _ _ _ r0 Tryz.underlying25 rfl (by kernel_rfl) ?_) | fail)
 refine (cK.out _ bW).mono ?_
 rintro e w1 ⟨u,rfl,hu,hb1⟩
 obtain ⟨ua,ul,uc,rfl⟩ := Rd.shape hu
 have bel := Bel.to bW hb1
 have r1 := r0.keep hb1
 replace rR := Row.keep rR hb1
 clear r0 hb1 cK
 go_upto_region 2 with (fail)
 obtain ⟨w2,hw2⟩ : ∃ X,X = w1.alloc (.cells #[.slice ua ul uc] 30) := ⟨_,rfl⟩
 have b2 : Below w1.heap.size w1 w2 := by rw [hw2];exact Bel.al (Below.refl _ _) _
 have r6 : Row w2 w1.heap.size 30 [.slice ua ul uc] := by rw [hw2];exact Row.newOf _ rfl
 rw [← hw2]
 clear hw2
 replace bel := Bel.to bel b2
 replace r1 := r1.keep b2
 replace rR := Row.keep rR b2
 replace hu := Rd.below hu b2
 clear b2
 by_cases h0 : C = 0
 ·have e1 := hQ1.out
  have e2 := hQ2.out
  rw [if_pos h0] at e1 e2
  have hP64 := hV.out h0
  have cO2 := hide (cO.out w2 bel h0)
  have hN0 := hop.out h0
  have hN64 := hol.out h0
  subst h0
  replace e1 := hide e1
  replace e2 := hide e2
  clear cO hop hol hQ1 hQ2 hV
  go_wp2_with (first | (refine wpList_load_row rfl 25 _ rfl _ rfl _ _ _ _ r1 Tryz.underlying25 rfl (by kernel_rfl) ?_) | fail)
  refine cO2.out.mono ?_
  rintro e w3 ⟨v,rfl,hv,hb3⟩
  obtain ⟨va,vl,vc,rfl⟩ := Rd.shape hv
  replace bel := Bel.to bel hb3
  replace rR := Row.keep rR hb3
  replace r6 := Row.keep r6 hb3
  replace hu := Rd.below hu hb3
  clear hb3 cO2 r1
  go_upto_region 5 with (fail)
  obtain ⟨w4,hw4⟩ : ∃ X,X = w3.alloc (.cells #[.slice va vl vc] 30) := ⟨_,rfl⟩
  have b4 : Below w3.heap.size w3 w4 := by rw [hw4];exact Bel.al (Below.refl _ _) _
  have r8 : Row w4 w3.heap.size 30 [.slice va vl vc] := by rw [hw4];exact Row.newOf _ rfl
  rw [← hw4]
  clear hw4
  replace bel := Bel.to bel b4
  replace rR := Row.keep rR b4
  replace r6 := Row.keep r6 b4
  replace hu := Rd.below hu b4
  replace hv := Rd.below hv b4
  have c6 := r6.cell? 0
  have c8 := r8.cell? 0
  simp only [List.getElem?_cons_zero] at c6 c8
  have cM := hide (rmake_ok _ _ P N w4 hu hv hP64 hN64 hN0)
  rw [← e1.out,← e2.out] at cM
  clear b4 e1 e2
  go_wp2_with fail
  refine cM.out.mono ?_
  rintro e wE ⟨q,p,rfl,hq,hp,hb5⟩
  obtain ⟨qu,ql,qc,rfl⟩ := Rd.shape hq
  obtain ⟨pu,pl,pc,rfl⟩ := Rd.shape hp
  replace bel := Bel.to bel hb5
  replace rR := Row.keep rR hb5
  clear hb5 cM r6 r8 c6 c8 hu hv
  have cR0 := rR.cell? 0
  have cR1 := rR.cell? 1
  simp only [List.getElem?_cons_zero,List.getElem?_cons_succ] at cR0 cR1
  have fR0 := rR.frozen 0
  have fR1 := rR.frozen 1
  have c1' := (rR.set 0 (.slice qu ql qc)).cell? 1
  simp only [zsB,List.getElem?_cons_zero,List.getElem?_cons_succ] at c1'
  have hq3 := (Rd.setNe hq cR0 (fun _ h => by cases h) (.slice qu ql qc)).setNe c1' (fun _ h => by cases h) (.slice pu pl pc)
  have hp3 := (Rd.setNe hp cR0 (fun _ h => by cases h) (.slice qu ql qc)).setNe c1' (fun _ h => by cases h) (.slice pu pl pc)
  have belf := Bel.st (Bel.st bel (p := ⟨w.heap.size + 1,0,none⟩) (by simp only [];omega) (.slice qu ql qc)) (p := ⟨w.heap.size + 1,1,none⟩) (by simp only [];omega) (.slice pu pl pc)
  have rF := (rR.set 0 (.slice qu ql qc)).set 1 (.slice pu pl pc)
  simp only [zsB,zsC] at rF
  have cF0 := rF.cell? 0
  have cF1 := rF.cell? 1
  simp only [List.getElem?_cons_zero,List.getElem?_cons_succ] at cF0 cF1
  clear hq hp c1' rF
  go_wp2
  exact bodyPost_ret (v := .tuple #[.agg #[(.slice qu ql qc),(.slice pu pl pc)],.int .i64 0]) (by simp [results,Tryz.results11,go_sem,cF0,cF1]) rfl ⟨_,_,rfl,hq3,hp3,belf⟩
 ·have e1 := hQ1.out
  have e2 := hQ2.out
  rw [if_neg h0] at e1 e2
  subst e1 e2
  have hcb : (C != 0) = true := by simpa using h0
  replace h0 := hide h0
  obtain ⟨wE,hwE⟩ : ∃ X,X = w2 := ⟨_,rfl⟩
  rw [← hwE] at bel rR ⊢
  clear cO hop hol hQ1 hQ2 hV hu r6 r1 hwE
  have hq : NV wE (.slice none 0 0) 0 := NV.zero _
  have hp : NV wE (.slice none 0 0) 0 := NV.zero _
  have cR0 := rR.cell? 0
  have cR1 := rR.cell? 1
  simp only [List.getElem?_cons_zero,List.getElem?_cons_succ] at cR0 cR1
  have fR0 := rR.frozen 0
  have fR1 := rR.frozen 1
  have c1' := (rR.set 0 (.slice none 0 0)).cell? 1
  simp only [zsB,List.getElem?_cons_zero,List.getElem?_cons_succ] at c1'
  have hq3 := (Rd.setNe hq cR0 (fun _ h => by cases h) (.slice none 0 0)).setNe c1' (fun _ h => by cases h) (.slice none 0 0)
  have hp3 := (Rd.setNe hp cR0 (fun _ h => by cases h) (.slice none 0 0)).setNe c1' (fun _ h => by cases h) (.slice none 0 0)
  have belf := Bel.st (Bel.st bel (p := ⟨w.heap.size + 1,0,none⟩) (by simp only [];omega) (.slice none 0 0)) (p := ⟨w.heap.size + 1,1,none⟩) (by simp only [];omega) (.slice none 0 0)
  have rF := (rR.set 0 (.slice none 0 0)).set 1 (.slice none 0 0)
  simp only [zsB,zsC] at rF
  have cF0 := rF.cell? 0
  have cF1 := rF.cell? 1
  simp only [List.getElem?_cons_zero,List.getElem?_cons_succ] at cF0 cF1
  clear hq hp c1' rF
  go_wp2
  exact bodyPost_ret (v := .tuple #[.agg #[(.slice none 0 0),(.slice none 0 0)],.int .i64 C]) (by simp [results,Tryz.results11,go_sem,cF0,cF1]) rfl ⟨_,_,rfl,hq3,hp3,belf⟩
theorem rChance_val (g : GameD) (av tv : Value) (ms : List AddonM) (t : Int) (w : World) (rg : GameR w av tv ms g) :
  Calls Tryz.prog 11 #[gameVal g av tv,.int .i64 t] w (FracC (chaP g t) (chaQ g t) (WinO g (winV g) t).2 w) :=
 rChance_any g av tv ms t w rg _ _ rfl (fun h0 => by
  obtain ⟨he,h1,h2,h3⟩ := WinO_ok h0
  rw [h3]
  have h4 := winV_ten he (i := t.toNat) (by omega)
  rw [show ((t.toNat : Nat) : Int) = t by omega] at h4
  omega)
theorem rWin_val (g : GameD) (av tv : Value) (ms : List AddonM) (t : Int) (w : World) (rg : GameR w av tv ms g) :
  Calls Tryz.prog 9 #[gameVal g av tv,.int .i64 t] w (NatC (WinO g (winV g) t).1 (WinO g (winV g) t).2 w) :=
 rWin_any g av tv ms t w rg _ _ rfl
end Go.Proofs.YtldikghldcefcaaGreat
end

/- Lemmas, merged out of smaller texts (wip/tools/mergedce.py). No condition. -/
import Derived.Test.YtldikghldcefcaaGreatHOt
import Derived.Test.YtldikghldcefcaaGreatHJ
import Derived.Test.YtldikghldcefcaaGreatHIt
section
set_option linter.unusedVariables false
set_option linter.unusedSimpArgs false
namespace Go.Proofs.YtldikghldcefcaaGreat
open Go.RowKit
set_option maxHeartbeats 4000000 in
set_option maxRecDepth 100000 in
theorem rWin_any (g : GameD) (av tv : Value) (ms : List AddonM) (t : Int) (w : World) (rg : GameR w av tv ms g) (P : Nat) (C : Int) (hPC : WinO g (winV g) t = (P,C)) :
  Calls Tryz.prog 9 #[gameVal g av tv,.int .i64 t] w (NatC P C w) := by
 have cK := hide (fun X (hX : Below w.heap.size w X) => rcheck_any g av tv ms X (rg.below hX))
 have cD := hide (fun X (hX : Below w.heap.size w X) (he : gameE g = 0) (h0 : 0 ≤ t) (h1 : t < g.tiers.length) (hk : g.kind = 2) => by
  have h := rwind_any g av tv ms t.toNat X (rg.below hX) he hk (by omega)
  rw [show ((t.toNat : Nat) : Int) = t by omega] at h
  exact h)
 have cO := hide (fun X (hX : Below w.heap.size w X) (he : gameE g = 0) (hk : g.kind ≠ 2) => by
  have h := rwinc_any g av tv ms t X (rg.below hX) he hk
  rw [← winV_cho hk] at h
  exact h)
 obtain ⟨aa,ac,rfl,hal,ham⟩ := rg.1.1.shape
 obtain ⟨ta,tc,rfl,htl,htm⟩ := rg.2.2.shape
 obtain ⟨an,han⟩ : ∃ an,an = ms.length := ⟨_,rfl⟩
 obtain ⟨tn,htn⟩ : ∃ tn,tn = g.tiers.length := ⟨_,rfl⟩
 rw [← han,← htn] at cK cO cD ⊢
 unfold WinO at hPC
 rw [← htn] at hPC
 clear rg hal htl ham htm han htn
 obtain ⟨c,hc⟩ : ∃ c,c = gameE g := ⟨_,rfl⟩
 rw [← hc] at cK cO cD hPC
 replace hPC := hide hPC
 clear hc
 unfold gameVal at cK cO cD ⊢
 go_enter Tryz.func9,Tryz.ntmps9
 go_upto_region 1 with (fail)
 obtain ⟨W,hW⟩ : ∃ W,W = (w.alloc (Obj.cells #[.string g.name,.int .i64 g.kind,.int .i64 g.price,.int .i64 g.main,.int .i64 g.of,.int .i64 g.bonus,.int .i64 g.bonusOf,.int .i64 g.extra,.int .i64 g.draws,.int .i64 g.system,.int .i64 g.days,.int .i64 g.at_,.int .i64 g.close,.int .i64 g.cancel,.int .i64 g.expiry,.int .i64 g.pool,.int .i64 g.reserve,.int .i64 g.round,.int .i64 g.cap,.int .i64 g.rolls,(.slice aa an ac),(.slice ta tn tc)] 25)).alloc (Obj.cells #[.slice none 0 0] 30) := ⟨_,rfl⟩
 have bW : Below w.heap.size w W := by rw [hW];exact Bel.al (Bel.al (Below.refl _ _) _) _
 have r0 : GameAt W w.heap.size g (.slice aa an ac) (.slice ta tn tc) := by rw [hW];exact Row.alloc (Row.new _ _ _) _
 have rR : Row W (w.heap.size + 1) 30 [.slice none 0 0] := by rw [hW];exact Row.at2 _ _ _ _
 rw [← hW]
 clear hW
 go_wp2_with (first | (refine wpList_load_row rfl 25 _ rfl _ rfl _ _ _ _ r0 Tryz.underlying25 rfl (by kernel_rfl) ?_) | fail)
 refine (cK.out _ bW).mono ?_
 rintro e w1 ⟨s,rfl,hb1⟩
 have bel := Bel.to bW hb1
 have r1 := r0.keep hb1
 replace rR := Row.keep rR hb1
 have ct := r1.tiers
 clear r0 hb1 cK
 by_cases h0 : c = 0
 ·subst h0
  by_cases h1 : t < 0
  ·have hp := hPC.out
   rw [if_neg (by omega),if_pos (.inl h1)] at hp
   injection hp with hp1 hp2
   subst hp1 hp2
   have hp : NV w1 (.slice none 0 0) 0 := NV.zero _
   clear cO cD hPC
   have cR := rR.cell? 0
   have fR := rR.frozen 0
   simp only [List.getElem?_cons_zero] at cR
   have hf := Rd.setNe hp cR (fun _ h => by cases h) (.slice none 0 0)
   have belf := Bel.st bel (p := ⟨w.heap.size + 1,0,none⟩) (by simp only [];omega) (.slice none 0 0)
   go_wp2
   exact bodyPost_ret (v := .tuple #[.agg #[(.slice none 0 0)],.int .i64 2]) (by simp [results,Tryz.results9,go_sem,cR]) rfl ⟨_,rfl,hf,belf⟩
  ·by_cases h2 : (tn : Int) ≤ t
   ·have hp := hPC.out
    rw [if_neg (by omega),if_pos (.inr h2)] at hp
    injection hp with hp1 hp2
    subst hp1 hp2
    have hp : NV w1 (.slice none 0 0) 0 := NV.zero _
    clear cO cD hPC
    have cR := rR.cell? 0
    have fR := rR.frozen 0
    simp only [List.getElem?_cons_zero] at cR
    have hf := Rd.setNe hp cR (fun _ h => by cases h) (.slice none 0 0)
    have belf := Bel.st bel (p := ⟨w.heap.size + 1,0,none⟩) (by simp only [];omega) (.slice none 0 0)
    go_wp2
    exact bodyPost_ret (v := .tuple #[.agg #[(.slice none 0 0)],.int .i64 2]) (by simp [results,Tryz.results9,go_sem,cR]) rfl ⟨_,rfl,hf,belf⟩
   ·have hp := hPC.out
    rw [if_neg (by omega),if_neg (by omega)] at hp
    injection hp with hp1 hp2
    by_cases hk : g.kind = 2
    ·skip
     have cO2 := hide (cD.out w1 bel rfl (by omega) (by omega) hk)
     rw [hp1] at cO2
     subst hp2
     clear cO cD hPC hp1
     have ck := r1.kind
     rw [hk] at ck
     replace hk := hide hk
     go_wp2_with (first | (refine wpList_load_row rfl 25 _ rfl _ rfl _ _ _ _ r1 Tryz.underlying25 rfl (by kernel_rfl) ?_) | fail)
     refine cO2.out.mono ?_
     rintro e w2 ⟨u,rfl,hp,hb2⟩
     obtain ⟨pa,pn,pc,rfl⟩ := Rd.shape hp
     replace rR := Row.keep rR hb2
     replace bel := Bel.to bel hb2
     clear hb2 cO2 r1 ct ck
     have cR := rR.cell? 0
     have fR := rR.frozen 0
     simp only [List.getElem?_cons_zero] at cR
     have hf := Rd.setNe hp cR (fun _ h => by cases h) (.slice pa pn pc)
     have belf := Bel.st bel (p := ⟨w.heap.size + 1,0,none⟩) (by simp only [];omega) (.slice pa pn pc)
     go_wp2
     exact bodyPost_ret (v := .tuple #[.agg #[(.slice pa pn pc)],.int .i64 0]) (by simp [results,Tryz.results9,go_sem,cR]) rfl ⟨_,rfl,hf,belf⟩
    ·skip
     have cO2 := hide (cO.out w1 bel rfl hk)
     rw [hp1] at cO2
     subst hp2
     clear cO cD hPC hp1
     have ck := r1.kind
     have hkb : (g.kind == 2) = false := by simpa using hk
     replace hk := hide hk
     go_wp2_with (first | (refine wpList_load_row rfl 25 _ rfl _ rfl _ _ _ _ r1 Tryz.underlying25 rfl (by kernel_rfl) ?_) | fail)
     refine cO2.out.mono ?_
     rintro e w2 ⟨u,rfl,hp,hb2⟩
     obtain ⟨pa,pn,pc,rfl⟩ := Rd.shape hp
     replace rR := Row.keep rR hb2
     replace bel := Bel.to bel hb2
     clear hb2 cO2 r1 ct ck
     have cR := rR.cell? 0
     have fR := rR.frozen 0
     simp only [List.getElem?_cons_zero] at cR
     have hf := Rd.setNe hp cR (fun _ h => by cases h) (.slice pa pn pc)
     have belf := Bel.st bel (p := ⟨w.heap.size + 1,0,none⟩) (by simp only [];omega) (.slice pa pn pc)
     go_wp2
     exact bodyPost_ret (v := .tuple #[.agg #[(.slice pa pn pc)],.int .i64 0]) (by simp [results,Tryz.results9,go_sem,cR]) rfl ⟨_,rfl,hf,belf⟩
 ·have hp := hPC.out
  rw [if_pos h0] at hp
  injection hp with hp1 hp2
  subst hp1 hp2
  have hcb : (c != 0) = true := by simpa using h0
  have hp : NV w1 (.slice none 0 0) 0 := NV.zero _
  replace h0 := hide h0
  clear cO cD hPC
  have cR := rR.cell? 0
  have fR := rR.frozen 0
  simp only [List.getElem?_cons_zero] at cR
  have hf := Rd.setNe hp cR (fun _ h => by cases h) (.slice none 0 0)
  have belf := Bel.st bel (p := ⟨w.heap.size + 1,0,none⟩) (by simp only [];omega) (.slice none 0 0)
  go_wp2
  exact bodyPost_ret (v := .tuple #[.agg #[(.slice none 0 0)],.int .i64 c]) (by simp [results,Tryz.results9,go_sem,cR]) rfl ⟨_,rfl,hf,belf⟩
set_option maxHeartbeats 8000000 in
set_option maxRecDepth 100000 in
theorem rAny_any (g : GameD) (av tv : Value) (ms : List AddonM) (V : Int → Nat) (w : World) (rg : GameR w av tv ms g) (hS : gameE g = 0 → (limbs (sumTo (fun i => V (i : Int)) g.tiers.length)).length ≤ 64)
  (hW : gameE g = 0 → ∀ (t : Int) (X : World),0 ≤ t → t < g.tiers.length → GameR X av tv ms g → Calls Tryz.prog 9 #[gameVal g av tv,.int .i64 t] X (NatC (V t) 0 X)) :
  Calls Tryz.prog 15 #[gameVal g av tv] w (FracC (if gameE g = 0 then (sumTo (fun i => V (i : Int)) g.tiers.length) / Nat.gcd (sumTo (fun i => V (i : Int)) g.tiers.length) (outN g) else 0) (if gameE g = 0 then outN g / Nat.gcd (sumTo (fun i => V (i : Int)) g.tiers.length) (outN g) else 0) (gameE g) w) := by
 have cK := hide (fun X (hX : Below w.heap.size w X) => rOut_any g av tv ms X (rg.below hX))
 have cO := hide (fun (t : Int) X (hX : Below w.heap.size w X) he h0 h1 => hW he t X h0 h1 (rg.below hX))
 have hop := hide (fun (he : gameE g = 0) => outN_pos he)
 have hol := hide (fun (he : gameE g = 0) => Nat.le_trans (outN_limbs he) (show 60 ≤ 64 by omega))
 have hol2 := hide (fun (he : gameE g = 0) => outN_limbs he)
 have hT := hide rg.2.2
 have htb : g.tiers.length ≤ 9223372036854775807 := by
  obtain ⟨_,c,_,h1,h2,_⟩ := hT.out
  unfold maxLen at h2
  omega
 clear hW
 obtain ⟨aa,ac,rfl,hal,ham⟩ := rg.1.1.shape
 obtain ⟨ta,tc,rfl,htl,htm⟩ := rg.2.2.shape
 obtain ⟨an,han⟩ : ∃ an,an = ms.length := ⟨_,rfl⟩
 obtain ⟨tn,htn⟩ : ∃ tn,tn = g.tiers.length := ⟨_,rfl⟩
 rw [← han,← htn] at cK cO ⊢
 rw [← htn] at hT htb hS
 have htbi : (tn : Int) ≤ 9223372036854775807 := by omega
 have htnh := hide htn
 clear rg hal htl ham htm han htn
 obtain ⟨S,hSd⟩ : ∃ S,S = sumTo (fun i => V (i : Int)) tn := ⟨_,rfl⟩
 rw [← hSd] at hS ⊢
 obtain ⟨c,hc⟩ : ∃ c,c = gameE g := ⟨_,rfl⟩
 obtain ⟨N,hN⟩ : ∃ N,N = outN g := ⟨_,rfl⟩
 have hK1 : Hid (c = 0 → outV g = (N,0)) := fun h => by show _ = _;unfold outV;rw [← hc,if_pos h,hN]
 have hK2 : Hid (c ≠ 0 → outV g = (0,c)) := fun h => by show _ = _;unfold outV;rw [← hc,if_neg h]
 rw [← hc,← hN]
 rw [← hc] at cO hop hol hol2 hS
 rw [← hN] at hop hol hol2
 replace hS := hide hS
 obtain ⟨Q1,hQ1⟩ : ∃ Q,Q = if c = 0 then S / Nat.gcd S N else 0 := ⟨_,rfl⟩
 obtain ⟨Q2,hQ2⟩ : ∃ Q,Q = if c = 0 then N / Nat.gcd S N else 0 := ⟨_,rfl⟩
 rw [← hQ1,← hQ2]
 replace hQ1 := hide hQ1
 replace hQ2 := hide hQ2
 replace hSd := hide hSd
 clear hc hN
 unfold gameVal at cK cO ⊢
 go_enter Tryz.func15,Tryz.ntmps15
 go_upto_region 1 with (fail)
 obtain ⟨W,hW0⟩ : ∃ W,W = (w.alloc (Obj.cells #[.string g.name,.int .i64 g.kind,.int .i64 g.price,.int .i64 g.main,.int .i64 g.of,.int .i64 g.bonus,.int .i64 g.bonusOf,.int .i64 g.extra,.int .i64 g.draws,.int .i64 g.system,.int .i64 g.days,.int .i64 g.at_,.int .i64 g.close,.int .i64 g.cancel,.int .i64 g.expiry,.int .i64 g.pool,.int .i64 g.reserve,.int .i64 g.round,.int .i64 g.cap,.int .i64 g.rolls,(.slice aa an ac),(.slice ta tn tc)] 25)).alloc (Obj.cells #[.slice none 0 0,.slice none 0 0] 35) := ⟨_,rfl⟩
 have bW : Below w.heap.size w W := by rw [hW0];exact Bel.al (Bel.al (Below.refl _ _) _) _
 have r0 : GameAt W w.heap.size g (.slice aa an ac) (.slice ta tn tc) := by rw [hW0];exact Row.alloc (Row.new _ _ _) _
 have rR : Row W (w.heap.size + 1) 35 [.slice none 0 0,.slice none 0 0] := by rw [hW0];exact Row.at2 _ _ _ _
 rw [← hW0]
 clear hW0
 obtain ⟨D0,hD0⟩ : ∃ D,D = (outV g).1 := ⟨_,rfl⟩
 obtain ⟨E0,hE0⟩ : ∃ E,E = (outV g).2 := ⟨_,rfl⟩
 have cK2 := hide (cK.out W bW)
 rw [← hD0,← hE0] at cK2
 replace hD0 := hide hD0
 replace hE0 := hide hE0
 clear cK
 go_wp2_with (first | (refine wpList_load_row rfl 25 _ rfl _ rfl _ _ _ _ r0 Tryz.underlying25 rfl (by kernel_rfl) ?_) | fail)
 refine cK2.out.mono ?_
 rintro e w1 ⟨u,rfl,hd,hb1⟩
 obtain ⟨da,dl,dc,rfl⟩ := Rd.shape hd
 have bel := Bel.to bW hb1
 have r1 := r0.keep hb1
 replace rR := Row.keep rR hb1
 have rR1lt := rR.lt
 clear r0 hb1 cK2
 go_upto_region 2 with (fail)
 obtain ⟨w2,hw2⟩ : ∃ X,X = w1.alloc (.cells #[.slice da dl dc] 30) := ⟨_,rfl⟩
 have bw2 : Below w1.heap.size w1 w2 := by rw [hw2];exact Bel.al (Below.refl _ _) _
 have r4 : Row w2 w1.heap.size 30 [.slice da dl dc] := by rw [hw2];exact Row.newOf _ rfl
 rw [← hw2]
 clear hw2
 replace bel := Bel.to bel bw2
 replace r1 := r1.keep bw2
 replace rR := Row.keep rR bw2
 replace hd := Rd.below hd bw2
 clear bw2
 by_cases h0 : c = 0
 rotate_left
 ·have e1 := hQ1.out
  have e2 := hQ2.out
  rw [if_neg h0] at e1 e2
  subst e1 e2
  have e3 := hK2.out h0
  have hD1 := hD0.out
  have hE1 := hE0.out
  rw [e3] at hD1 hE1
  simp only [] at hD1 hE1
  subst hD1 hE1
  clear hD0 hE0
  have hcb : (E0 != 0) = true := by simpa using h0
  replace h0 := hide h0
  obtain ⟨wE,hwE⟩ : ∃ X,X = w2 := ⟨_,rfl⟩
  rw [← hwE] at bel rR ⊢
  clear cO hop hol hol2 hQ1 hQ2 hS hd r4 r1 hwE e3 hK1 hK2 rR1lt
  have hq : NV wE (.slice none 0 0) 0 := NV.zero _
  have hp : NV wE (.slice none 0 0) 0 := NV.zero _
  have cR0 := rR.cell? 0
  have cR1 := rR.cell? 1
  simp only [List.getElem?_cons_zero,List.getElem?_cons_succ] at cR0 cR1
  have fR0 := rR.frozen 0
  have fR1 := rR.frozen 1
  have c1' := (rR.set 0 (.slice none 0 0)).cell? 1
  simp only [zsB,List.getElem?_cons_zero,List.getElem?_cons_succ] at c1'
  have hq3 := (Rd.setNe hq cR0 (fun _ h => by cases h) (.slice none 0 0)).setNe c1' (fun _ h => by cases h) (.slice none 0 0)
  have hp3 := (Rd.setNe hp cR0 (fun _ h => by cases h) (.slice none 0 0)).setNe c1' (fun _ h => by cases h) (.slice none 0 0)
  have belf := Bel.st (Bel.st bel (p := ⟨w.heap.size + 1,0,none⟩) (by simp only [];omega) (.slice none 0 0)) (p := ⟨w.heap.size + 1,1,none⟩) (by simp only [];omega) (.slice none 0 0)
  have rF := (rR.set 0 (.slice none 0 0)).set 1 (.slice none 0 0)
  simp only [zsB,zsC] at rF
  have cF0 := rF.cell? 0
  have cF1 := rF.cell? 1
  simp only [List.getElem?_cons_zero,List.getElem?_cons_succ] at cF0 cF1
  clear hq hp c1' rF
  go_wp2
  exact bodyPost_ret (v := .tuple #[.agg #[(.slice none 0 0),(.slice none 0 0)],.int .i64 E0]) (by simp [results,Tryz.results15,go_sem,cF0,cF1]) rfl ⟨_,_,rfl,hq3,hp3,belf⟩
 have e3 := hK1.out h0
 have hD1 := hD0.out
 have hE1 := hE0.out
 rw [e3] at hD1 hE1
 simp only [] at hD1 hE1
 clear hD0 hE0
 subst hE1
 rw [hD1] at hd
 clear hD1
 have e1 := hQ1.out
 have e2 := hQ2.out
 rw [if_pos h0] at e1 e2
 have hN0 := hop.out h0
 have hN64 := hol.out h0
 have hN60 := hol2.out h0
 have hSl := hide (hS.out h0)
 have cO2 := hide (fun (t : Int) X (hX : Below w.heap.size w X) h1 h2 => cO.out t X hX h0 h1 h2)
 subst h0
 replace e1 := hide e1
 replace e2 := hide e2
 replace hN0 := hide hN0
 replace hN64 := hide hN64
 replace hN60 := hide hN60
 clear cO hop hol hol2 hQ1 hQ2 hS e3 hK1 hK2
 go_upto_region 5 with (fail)
 obtain ⟨b4,hb4⟩ : ∃ b,b = w1.heap.size := ⟨_,rfl⟩
 obtain ⟨b6,hb6⟩ : ∃ b,b = w2.heap.size := ⟨_,rfl⟩
 have r4lt := r4.lt
 have rRlt := rR.lt
 obtain ⟨w3,hw3⟩ : ∃ X,X = w2.alloc (.cells #[.slice none 0 0] 30) := ⟨_,rfl⟩
 have bw3 : Below w2.heap.size w2 w3 := by rw [hw3];exact Bel.al (Below.refl _ _) _
 have r6 : Row w3 w2.heap.size 30 [.slice none 0 0] := by rw [hw3];exact Row.newOf _ rfl
 rw [← hw3]
 clear hw3
 replace bel := Bel.to bel bw3
 replace r1 := r1.keep bw3
 replace rR := Row.keep rR bw3
 replace hd := Rd.below hd bw3
 replace r4 := Row.keep r4 bw3
 clear bw3
 rw [← hb4] at r4 ⊢
 rw [← hb6] at r6 ⊢
 have h4r : w.heap.size + 1 < b4 := by omega
 have h46 : b4 < b6 := by omega
 clear hb4 hb6 r4lt rRlt rR1lt
 have ct := r1.tiers
 go_wp2
 go_loopg [7] tn (fun gh ti wr => ∃ (i s : Nat) (sa : Option Addr) (sn sc : Nat),gh = tn - i ∧ i ≤ tn ∧ ti = .int .i64 (i : Int) ∧ Hid (s = sumTo (fun i => V (i : Int)) i) ∧ Row wr b6 30 [.slice sa sn sc] ∧ NV wr (.slice sa sn sc) s ∧ Row wr b4 30 [.slice da dl dc] ∧ NV wr (.slice da dl dc) N ∧ Row wr (w.heap.size + 1) 35 [.slice none 0 0,.slice none 0 0] ∧ GameAt wr w.heap.size g (.slice aa an ac) (.slice ta tn tc) ∧ Below w.heap.size w wr)
 case atStart => exact ⟨0,0,none,0,0,rfl,Nat.zero_le _,rfl,rfl,r6,NV.zero _,r4,hd,rR,r1,bel⟩
 case round =>
  clear r6 r4 hd rR r1 bel ct
  obtain ⟨i,s,sa,sn,sc,hgi,hi,rfl,hs,r6,hsv,r4,hd,rR,r1,bel⟩ := hrel
  replace hgi := hide hgi
  have ct := r1.tiers
  by_cases hlt : i < tn
  ·have hlt2 := hide hlt
   have ii : (i : Int) < (tn : Int) := by omega
   have cO3 := hide (cO2.out (i : Int) wr bel (by omega) (by have := htnh.out;omega))
   obtain ⟨y,hy⟩ : ∃ y,y = V (i : Int) := ⟨_,rfl⟩
   rw [← hy] at cO3
   have hs2 : Hid (s + y = sumTo (fun i => V (i : Int)) (i + 1)) := by show _ = _;rw [sumTo,hs.out,hy]
   have hsy : s + y ≤ S := by rw [hs2.out,hSd.out];exact sumTo_mono hlt
   have hl1 : (limbs (s + y)).length ≤ 64 := by have := limbs_len_le hsy;have := hSl.out;omega
   have hl2 : (limbs s).length ≤ 64 := by have := limbs_len_le (Nat.le_trans (Nat.le_add_right s y) hsy);have := hSl.out;omega
   have hl3 : (limbs y).length ≤ 64 := by have := limbs_len_le (Nat.le_trans (Nat.le_add_left y s) hsy);have := hSl.out;omega
   clear hy hs hsy
   go_wp2_with (first | (refine wpList_load_row rfl 25 _ rfl _ rfl _ _ _ _ r1 Tryz.underlying25 rfl (by kernel_rfl) ?_) | fail)
   refine cO3.out.mono ?_
   rintro e w5 ⟨u,rfl,hu,hb5⟩
   obtain ⟨ua,ul,uc,rfl⟩ := Rd.shape hu
   replace r6 := Row.keep r6 hb5
   replace hsv := Rd.below hsv hb5
   replace r4 := Row.keep r4 hb5
   replace hd := Rd.below hd hb5
   replace rR := Row.keep rR hb5
   replace r1 := r1.keep hb5
   replace bel := Bel.to bel hb5
   clear hb5 cO3
   go_upto_region 9 with (fail)
   obtain ⟨w6,hw6⟩ : ∃ X,X = w5.alloc (.cells #[.slice ua ul uc] 30) := ⟨_,rfl⟩
   have bw6 : Below w5.heap.size w5 w6 := by rw [hw6];exact Bel.al (Below.refl _ _) _
   have r8 : Row w6 w5.heap.size 30 [.slice ua ul uc] := by rw [hw6];exact Row.newOf _ rfl
   rw [← hw6]
   clear hw6
   replace r6 := Row.keep r6 bw6
   replace hsv := Rd.below hsv bw6
   replace r4 := Row.keep r4 bw6
   replace hd := Rd.below hd bw6
   replace rR := Row.keep rR bw6
   replace r1 := r1.keep bw6
   replace bel := Bel.to bel bw6
   replace hu := Rd.below hu bw6
   clear bw6
   have c6 := r6.cell? 0
   have c8 := r8.cell? 0
   simp only [List.getElem?_cons_zero] at c6 c8
   go_wp2_with fail
   refine (rsum_any _ _ s y _ hsv hu hl1).mono ?_
   rintro e w7 ⟨v,rfl,hv,hb7⟩
   obtain ⟨va,vl,vc,rfl⟩ := Rd.shape hv
   replace r6 := Row.keep r6 hb7
   replace r4 := Row.keep r4 hb7
   replace hd := Rd.below hd hb7
   replace rR := Row.keep rR hb7
   replace r1 := r1.keep hb7
   replace bel := Bel.to bel hb7
   clear hb7 hu hsv r8 c8 c6
   have c6 := r6.cell? 0
   have f6 := r6.frozen 0
   simp only [List.getElem?_cons_zero] at c6
   have hv2 := Rd.setNe hv c6 (fun _ h => by cases h) (.slice va vl vc)
   have hd2 := Rd.setNe hd c6 (fun _ h => by cases h) (.slice va vl vc)
   have r62 := Row.set r6 0 (.slice va vl vc)
   simp only [zsB] at r62
   have rR2 := Row.far rR (p := ⟨b6,0,none⟩) (by simp only [];omega) (.slice va vl vc)
   have r42 := Row.far r4 (p := ⟨b6,0,none⟩) (by simp only [];omega) (.slice va vl vc)
   have r12 : GameAt _ w.heap.size g (.slice aa an ac) _ := Row.far r1 (p := ⟨b6,0,none⟩) (by simp only [];omega) (.slice va vl vc)
   have bel2 := Bel.st bel (p := ⟨b6,0,none⟩) (by simp only [];omega) (.slice va vl vc)
   clear hv hd hl1 hl2 hl3
   go_wp2
   go_roundg (tn - (i + 1))
   case measure => have := hgi.out;have := hlt2.out;omega
   case rel => exact ⟨i + 1,s + y,va,vl,vc,rfl,by have := hlt2.out;omega,by go_num,hs2,r62,hv2,r42,hd2,rR2,r12,bel2⟩
  ·obtain rfl : i = tn := by omega
   have c6 := r6.cell? 0
   have c4 := r4.cell? 0
   simp only [List.getElem?_cons_zero] at c6 c4
   have hsS : s = S := by rw [hs.out,hSd.out]
   rw [hsS] at hsv
   have cM := hide (rmake_ok _ _ S N wr hsv hd hSl.out hN64.out hN0.out)
   rw [← e1.out,← e2.out] at cM
   clear e1 e2 hsS hs
   go_wp2_with fail
   refine cM.out.mono ?_
   rintro e wE ⟨q,p,rfl,hq,hp,hb5⟩
   obtain ⟨qu,ql,qc,rfl⟩ := Rd.shape hq
   obtain ⟨pu,pl,pc,rfl⟩ := Rd.shape hp
   replace bel := Bel.to bel hb5
   replace rR := Row.keep rR hb5
   clear hb5 cM r6 r4 c6 c4 hsv hd r1
   have cR0 := rR.cell? 0
   have cR1 := rR.cell? 1
   simp only [List.getElem?_cons_zero,List.getElem?_cons_succ] at cR0 cR1
   have fR0 := rR.frozen 0
   have fR1 := rR.frozen 1
   have c1' := (rR.set 0 (.slice qu ql qc)).cell? 1
   simp only [zsB,List.getElem?_cons_zero,List.getElem?_cons_succ] at c1'
   have hq3 := (Rd.setNe hq cR0 (fun _ h => by cases h) (.slice qu ql qc)).setNe c1' (fun _ h => by cases h) (.slice pu pl pc)
   have hp3 := (Rd.setNe hp cR0 (fun _ h => by cases h) (.slice qu ql qc)).setNe c1' (fun _ h => by cases h) (.slice pu pl pc)
   have belf := Bel.st (Bel.st bel (p := ⟨w.heap.size + 1,0,none⟩) (by simp only [];omega) (.slice qu ql qc)) (p := ⟨w.heap.size + 1,1,none⟩) (by simp only [];omega) (.slice pu pl pc)
   have rF := (rR.set 0 (.slice qu ql qc)).set 1 (.slice pu pl pc)
   simp only [zsB,zsC] at rF
   have cF0 := rF.cell? 0
   have cF1 := rF.cell? 1
   simp only [List.getElem?_cons_zero,List.getElem?_cons_succ] at cF0 cF1
   clear hq hp c1' rF
   go_wp2
   exact bodyPost_ret (v := .tuple #[.agg #[(.slice qu ql qc),(.slice pu pl pc)],.int .i64 0]) (by simp [results,Tryz.results15,go_sem,cF0,cF1]) rfl ⟨_,_,rfl,hq3,hp3,belf⟩
set_option maxHeartbeats 8000000 in
set_option maxRecDepth 100000 in
theorem rPay_any (g : GameD) (av tv : Value) (ms : List AddonM) (V : Int → Nat) (w : World) (rg : GameR w av tv ms g) (hS : gameE g = 0 → (limbs (sumTo (payT g V) g.tiers.length)).length ≤ 64) (hV : gameE g = 0 → ∀ i : Nat,i < g.tiers.length → (limbs (V (i : Int))).length ≤ 60) (hval : gameE g = 0 → ∀ t ∈ g.tiers,0 ≤ t.value ∧ t.value ≤ 9223372036854775807)
  (hW : gameE g = 0 → ∀ (t : Int) (X : World),0 ≤ t → t < g.tiers.length → GameR X av tv ms g → Calls Tryz.prog 9 #[gameVal g av tv,.int .i64 t] X (NatC (V t) 0 X)) :
  Calls Tryz.prog 17 #[gameVal g av tv] w (FracC (if gameE g = 0 then (sumTo (payT g V) g.tiers.length) / Nat.gcd (sumTo (payT g V) g.tiers.length) (outN g * g.price.toNat) else 0) (if gameE g = 0 then (outN g * g.price.toNat) / Nat.gcd (sumTo (payT g V) g.tiers.length) (outN g * g.price.toNat) else 0) (gameE g) w) := by
 have cK := hide (fun X (hX : Below w.heap.size w X) => rOut_any g av tv ms X (rg.below hX))
 have cO := hide (fun (t : Int) X (hX : Below w.heap.size w X) he h0 h1 => hW he t X h0 h1 (rg.below hX))
 have hop := hide (fun (he : gameE g = 0) => outN_pos he)
 have hol := hide (fun (he : gameE g = 0) => Nat.le_trans (outN_limbs he) (show 60 ≤ 64 by omega))
 have hol2 := hide (fun (he : gameE g = 0) => outN_limbs he)
 have hpr := hide (fun (he : gameE g = 0) => price_ok he)
 have hT := hide rg.2.2
 have htb : g.tiers.length ≤ 9223372036854775807 := by
  obtain ⟨_,c,_,h1,h2,_⟩ := hT.out
  unfold maxLen at h2
  omega
 clear hW
 obtain ⟨aa,ac,rfl,hal,ham⟩ := rg.1.1.shape
 obtain ⟨ta,tc,rfl,htl,htm⟩ := rg.2.2.shape
 obtain ⟨an,han⟩ : ∃ an,an = ms.length := ⟨_,rfl⟩
 obtain ⟨tn,htn⟩ : ∃ tn,tn = g.tiers.length := ⟨_,rfl⟩
 rw [← han,← htn] at cK cO ⊢
 rw [← htn] at hT htb hS hV
 have htbi : (tn : Int) ≤ 9223372036854775807 := by omega
 have htnh := hide htn
 clear rg hal htl ham htm han htn
 obtain ⟨S,hSd⟩ : ∃ S,S = sumTo (payT g V) tn := ⟨_,rfl⟩
 rw [← hSd] at hS ⊢
 obtain ⟨c,hc⟩ : ∃ c,c = gameE g := ⟨_,rfl⟩
 obtain ⟨N,hN⟩ : ∃ N,N = outN g := ⟨_,rfl⟩
 have hK1 : Hid (c = 0 → outV g = (N,0)) := fun h => by show _ = _;unfold outV;rw [← hc,if_pos h,hN]
 have hK2 : Hid (c ≠ 0 → outV g = (0,c)) := fun h => by show _ = _;unfold outV;rw [← hc,if_neg h]
 rw [← hc,← hN]
 rw [← hc] at cO hop hol hol2 hS hV hval hpr
 rw [← hN] at hop hol hol2
 replace hS := hide hS
 replace hV := hide hV
 replace hval := hide hval
 obtain ⟨Q1,hQ1⟩ : ∃ Q,Q = if c = 0 then S / Nat.gcd S (N * g.price.toNat) else 0 := ⟨_,rfl⟩
 obtain ⟨Q2,hQ2⟩ : ∃ Q,Q = if c = 0 then (N * g.price.toNat) / Nat.gcd S (N * g.price.toNat) else 0 := ⟨_,rfl⟩
 rw [← hQ1,← hQ2]
 replace hQ1 := hide hQ1
 replace hQ2 := hide hQ2
 replace hSd := hide hSd
 clear hc hN
 unfold gameVal at cK cO ⊢
 go_enter Tryz.func17,Tryz.ntmps17
 go_upto_region 1 with (fail)
 obtain ⟨W,hW0⟩ : ∃ W,W = (w.alloc (Obj.cells #[.string g.name,.int .i64 g.kind,.int .i64 g.price,.int .i64 g.main,.int .i64 g.of,.int .i64 g.bonus,.int .i64 g.bonusOf,.int .i64 g.extra,.int .i64 g.draws,.int .i64 g.system,.int .i64 g.days,.int .i64 g.at_,.int .i64 g.close,.int .i64 g.cancel,.int .i64 g.expiry,.int .i64 g.pool,.int .i64 g.reserve,.int .i64 g.round,.int .i64 g.cap,.int .i64 g.rolls,(.slice aa an ac),(.slice ta tn tc)] 25)).alloc (Obj.cells #[.slice none 0 0,.slice none 0 0] 35) := ⟨_,rfl⟩
 have bW : Below w.heap.size w W := by rw [hW0];exact Bel.al (Bel.al (Below.refl _ _) _) _
 have r0 : GameAt W w.heap.size g (.slice aa an ac) (.slice ta tn tc) := by rw [hW0];exact Row.alloc (Row.new _ _ _) _
 have rR : Row W (w.heap.size + 1) 35 [.slice none 0 0,.slice none 0 0] := by rw [hW0];exact Row.at2 _ _ _ _
 rw [← hW0]
 clear hW0
 obtain ⟨D0,hD0⟩ : ∃ D,D = (outV g).1 := ⟨_,rfl⟩
 obtain ⟨E0,hE0⟩ : ∃ E,E = (outV g).2 := ⟨_,rfl⟩
 have cK2 := hide (cK.out W bW)
 rw [← hD0,← hE0] at cK2
 replace hD0 := hide hD0
 replace hE0 := hide hE0
 clear cK
 go_wp2_with (first | (refine wpList_load_row rfl 25 _ rfl _ rfl _ _ _ _ r0 Tryz.underlying25 rfl (by kernel_rfl) ?_) | fail)
 refine cK2.out.mono ?_
 rintro e w1 ⟨u,rfl,hd,hb1⟩
 obtain ⟨da,dl,dc,rfl⟩ := Rd.shape hd
 have bel := Bel.to bW hb1
 have r1 := r0.keep hb1
 replace rR := Row.keep rR hb1
 have rR1lt := rR.lt
 clear r0 hb1 cK2
 go_upto_region 2 with (fail)
 obtain ⟨w2,hw2⟩ : ∃ X,X = w1.alloc (.cells #[.slice da dl dc] 30) := ⟨_,rfl⟩
 have bw2 : Below w1.heap.size w1 w2 := by rw [hw2];exact Bel.al (Below.refl _ _) _
 have r4 : Row w2 w1.heap.size 30 [.slice da dl dc] := by rw [hw2];exact Row.newOf _ rfl
 rw [← hw2]
 clear hw2
 replace bel := Bel.to bel bw2
 replace r1 := r1.keep bw2
 replace rR := Row.keep rR bw2
 replace hd := Rd.below hd bw2
 clear bw2
 by_cases h0 : c = 0
 rotate_left
 ·have e1 := hQ1.out
  have e2 := hQ2.out
  rw [if_neg h0] at e1 e2
  subst e1 e2
  have e3 := hK2.out h0
  have hD1 := hD0.out
  have hE1 := hE0.out
  rw [e3] at hD1 hE1
  simp only [] at hD1 hE1
  subst hD1 hE1
  clear hD0 hE0
  have hcb : (E0 != 0) = true := by simpa using h0
  replace h0 := hide h0
  obtain ⟨wE,hwE⟩ : ∃ X,X = w2 := ⟨_,rfl⟩
  rw [← hwE] at bel rR ⊢
  clear cO hop hol hol2 hQ1 hQ2 hS hd r4 r1 hwE e3 hK1 hK2 rR1lt
  have hq : NV wE (.slice none 0 0) 0 := NV.zero _
  have hp : NV wE (.slice none 0 0) 0 := NV.zero _
  have cR0 := rR.cell? 0
  have cR1 := rR.cell? 1
  simp only [List.getElem?_cons_zero,List.getElem?_cons_succ] at cR0 cR1
  have fR0 := rR.frozen 0
  have fR1 := rR.frozen 1
  have c1' := (rR.set 0 (.slice none 0 0)).cell? 1
  simp only [zsB,List.getElem?_cons_zero,List.getElem?_cons_succ] at c1'
  have hq3 := (Rd.setNe hq cR0 (fun _ h => by cases h) (.slice none 0 0)).setNe c1' (fun _ h => by cases h) (.slice none 0 0)
  have hp3 := (Rd.setNe hp cR0 (fun _ h => by cases h) (.slice none 0 0)).setNe c1' (fun _ h => by cases h) (.slice none 0 0)
  have belf := Bel.st (Bel.st bel (p := ⟨w.heap.size + 1,0,none⟩) (by simp only [];omega) (.slice none 0 0)) (p := ⟨w.heap.size + 1,1,none⟩) (by simp only [];omega) (.slice none 0 0)
  have rF := (rR.set 0 (.slice none 0 0)).set 1 (.slice none 0 0)
  simp only [zsB,zsC] at rF
  have cF0 := rF.cell? 0
  have cF1 := rF.cell? 1
  simp only [List.getElem?_cons_zero,List.getElem?_cons_succ] at cF0 cF1
  clear hq hp c1' rF
  go_wp2
  exact bodyPost_ret (v := .tuple #[.agg #[(.slice none 0 0),(.slice none 0 0)],.int .i64 E0]) (by simp [results,Tryz.results17,go_sem,cF0,cF1]) rfl ⟨_,_,rfl,hq3,hp3,belf⟩
 have e3 := hK1.out h0
 have hD1 := hD0.out
 have hE1 := hE0.out
 rw [e3] at hD1 hE1
 simp only [] at hD1 hE1
 clear hD0 hE0
 subst hE1
 rw [hD1] at hd
 clear hD1
 have e1 := hQ1.out
 have e2 := hQ2.out
 rw [if_pos h0] at e1 e2
 have hN0 := hop.out h0
 have hN64 := hol.out h0
 have hN60 := hol2.out h0
 have hSl := hide (hS.out h0)
 have cO2 := hide (fun (t : Int) X (hX : Below w.heap.size w X) h1 h2 => cO.out t X hX h0 h1 h2)
 have hpr2 := hide (hpr.out h0)
 have hV2 := hide (hV.out h0)
 have hval2 := hide (hval.out h0)
 subst h0
 clear hpr hV hval
 replace e1 := hide e1
 replace e2 := hide e2
 replace hN0 := hide hN0
 replace hN64 := hide hN64
 replace hN60 := hide hN60
 clear cO hop hol hol2 hQ1 hQ2 hS e3 hK1 hK2
 go_upto_region 5 with (fail)
 obtain ⟨b4,hb4⟩ : ∃ b,b = w1.heap.size := ⟨_,rfl⟩
 obtain ⟨b6,hb6⟩ : ∃ b,b = w2.heap.size := ⟨_,rfl⟩
 have r4lt := r4.lt
 have rRlt := rR.lt
 obtain ⟨w3,hw3⟩ : ∃ X,X = w2.alloc (.cells #[.slice none 0 0] 30) := ⟨_,rfl⟩
 have bw3 : Below w2.heap.size w2 w3 := by rw [hw3];exact Bel.al (Below.refl _ _) _
 have r6 : Row w3 w2.heap.size 30 [.slice none 0 0] := by rw [hw3];exact Row.newOf _ rfl
 rw [← hw3]
 clear hw3
 replace bel := Bel.to bel bw3
 replace r1 := r1.keep bw3
 replace rR := Row.keep rR bw3
 replace hd := Rd.below hd bw3
 replace r4 := Row.keep r4 bw3
 clear bw3
 rw [← hb4] at r4 ⊢
 rw [← hb6] at r6 ⊢
 have h4r : w.heap.size + 1 < b4 := by omega
 have h46 : b4 < b6 := by omega
 clear hb4 hb6 r4lt rRlt rR1lt
 have ct := r1.tiers
 go_wp2
 go_loopg [7] tn (fun gh ti wr => ∃ (i s : Nat) (sa : Option Addr) (sn sc : Nat),gh = tn - i ∧ i ≤ tn ∧ ti = .int .i64 (i : Int) ∧ Hid (s = sumTo (payT g V) i) ∧ Row wr b6 30 [.slice sa sn sc] ∧ NV wr (.slice sa sn sc) s ∧ Row wr b4 30 [.slice da dl dc] ∧ NV wr (.slice da dl dc) N ∧ Row wr (w.heap.size + 1) 35 [.slice none 0 0,.slice none 0 0] ∧ GameAt wr w.heap.size g (.slice aa an ac) (.slice ta tn tc) ∧ Below w.heap.size w wr)
 case atStart => exact ⟨0,0,none,0,0,rfl,Nat.zero_le _,rfl,rfl,r6,NV.zero _,r4,hd,rR,r1,bel⟩
 case round =>
  clear r6 r4 hd rR r1 bel ct
  obtain ⟨i,s,sa,sn,sc,hgi,hi,rfl,hs,r6,hsv,r4,hd,rR,r1,bel⟩ := hrel
  replace hgi := hide hgi
  have ct := r1.tiers
  by_cases hlt : i < tn
  ·have hlt2 := hide hlt
   have hil : i < g.tiers.length := by rw [← htnh.out];exact hlt
   obtain ⟨b,off,rfl,hbb,hcell⟩ := (hT.out.below bel).at_ hil
   have i2 : (i : Int) < (tn : Int) := by omega
   have i1 : (0 : Int) ≤ (i : Int) := by omega
   obtain ⟨t,ht⟩ : ∃ t,t = g.tiers[i] := ⟨_,rfl⟩
   have hti : g.tiers[i]? = some t := by rw [ht];exact List.getElem?_eq_getElem hil
   have hpt : payT g V i = (if t.kind = 1 then V (i : Int) * t.value.toNat else 0) := by unfold payT;rw [hti]
   have htv := hval2.out t (by rw [ht];exact List.getElem_mem _)
   obtain ⟨tm,tb,tx,tmode,tkind,tvalue⟩ := t
   have k4 : wr.cell? ⟨b,off + i * 6 + 4,none⟩ = some (.int .i64 tkind) := hcell i _ hti 4 _ rfl
   have k5 : wr.cell? ⟨b,off + i * 6 + 5,none⟩ = some (.int .i64 tvalue) := hcell i _ hti 5 _ rfl
   simp only [] at hpt htv
   have htv0 : 0 ≤ tvalue := htv.1
   have htv1 : tvalue < 18446744073709551616 := by have := htv.2;omega
   clear hcell hti ht hlt
   by_cases hk : tkind = 1
   ·have hk1 : (tkind == 1) = true := by simpa using hk
    rw [if_pos hk] at hpt
    have cO3 := hide (cO2.out (i : Int) wr bel (by omega) (by have := htnh.out;omega))
    have hyl := hV2.out i (by have := htnh.out;omega)
    obtain ⟨y,hy⟩ : ∃ y,y = V (i : Int) := ⟨_,rfl⟩
    rw [← hy] at cO3 hpt hyl
    have hs2 : Hid (s + y * tvalue.toNat = sumTo (payT g V) (i + 1)) := by show _ = _;rw [sumTo,hs.out,hpt]
    have hl1 : (limbs (s + y * tvalue.toNat)).length ≤ 64 := by
     have h : s + y * tvalue.toNat ≤ S := by rw [hs2.out,hSd.out];exact sumTo_mono hlt2.out
     have := limbs_len_le h
     have := hSl.out
     omega
    have hlv : limS [y,tvalue.toNat] ≤ 63 := by
     have h1 := limbs_two (n := tvalue.toNat) (by have := htv.2;omega)
     simp [limS]
     omega
    have wu : IntKind.u64.wrap tvalue = tvalue := by rw [IntKind.wrap_u64];omega
    clear hy hs hpt hyl htv
    subst hk
    go_wp2_with (first | (refine wpList_load_row rfl 25 _ rfl _ rfl _ _ _ _ r1 Tryz.underlying25 rfl (by kernel_rfl) ?_) | fail)
    refine cO3.out.mono ?_
    rintro e w5 ⟨u,rfl,hu,hb5⟩
    obtain ⟨na,nl,nc,rfl⟩ := Rd.shape hu
    replace k5 := Bel.cellOf hb5 k5
    replace ct := Bel.cellOf hb5 ct
    replace r6 := Row.keep r6 hb5
    replace hsv := Rd.below hsv hb5
    replace r4 := Row.keep r4 hb5
    replace hd := Rd.below hd hb5
    replace rR := Row.keep rR hb5
    replace r1 := r1.keep hb5
    replace bel := Bel.to bel hb5
    clear hb5 cO3 k4
    go_upto_region 10 with (fail)
    obtain ⟨b9,hb9⟩ : ∃ b9,b9 = w5.heap.size := ⟨_,rfl⟩
    obtain ⟨w6,hw6⟩ : ∃ X,X = w5.alloc (.cells #[.slice na nl nc] 30) := ⟨_,rfl⟩
    have bw6 : Below w5.heap.size w5 w6 := by rw [hw6];exact Bel.al (Below.refl _ _) _
    have r9 : Row w6 b9 30 [.slice na nl nc] := by rw [hw6,hb9];exact Row.newOf _ rfl
    rw [← hw6,← hb9]
    clear hw6 hb9
    replace k5 := Bel.cellOf bw6 k5
    replace ct := Bel.cellOf bw6 ct
    replace r6 := Row.keep r6 bw6
    replace hsv := Rd.below hsv bw6
    replace r4 := Row.keep r4 bw6
    replace hd := Rd.below hd bw6
    replace rR := Row.keep rR bw6
    replace r1 := r1.keep bw6
    replace bel := Bel.to bel bw6
    replace hu := Rd.below hu bw6
    clear bw6
    have c9 := r9.cell? 0
    have c6 := r6.cell? 0
    simp only [List.getElem?_cons_zero] at c9 c6
    go_upto_region 10 with (fail)
    refine till_begin 13 (fun X => X.cell? ⟨b6,0,none⟩ = some (.slice sa sn sc) ∧ X.cell? ⟨b9,0,none⟩ = some (.slice na nl nc) ∧ X.cell? ⟨w.heap.size,21,none⟩ = some (.slice (some ⟨b,off,none⟩) tn tc) ∧ X.cell? ⟨b,off + i * 6 + 5,none⟩ = some (.int .i64 tvalue)) (by kernel_rfl) (⟨c6,c9,ct,k5⟩) (fun hHeld => ?_)
    refine' till_take (i := 0) (oi := _) (v := .agg #[.slice sa sn sc]) rfl (by kernel_rfl) (by kernel_rfl) (by kernel_rfl) (by kernel_rfl) (fun _ _ _ h => h) (Or.inl ⟨by first | (go_simp;done) | rfl,fun X hX => by have h0 := hX.1;go_simp⟩) hHeld ?_
    try simp only [List.getElem_toArray,List.getElem_cons_zero,List.getElem_cons_succ,Act.put,zsA,zsB,zsC]
    refine' till_take (i := 1) (oi := _) (v := .agg #[.slice na nl nc]) rfl (by kernel_rfl) (by kernel_rfl) (by kernel_rfl) (by kernel_rfl) (fun _ _ _ h => h) (Or.inl ⟨by first | (go_simp;done) | rfl,fun X hX => by have h0 := hX.2.1;go_simp⟩) hHeld ?_
    try simp only [List.getElem_toArray,List.getElem_cons_zero,List.getElem_cons_succ,Act.put,zsA,zsB,zsC]
    refine' till_pure (i := 2) (oi := _) (v := .pointer (some ⟨w.heap.size,21,none⟩)) rfl (by kernel_rfl) (by kernel_rfl) (by kernel_rfl) (by kernel_rfl) (fun _ _ _ h => h) (Or.inl ⟨by first | (go_simp;done) | rfl,fun X _ => by go_simp⟩) hHeld ?_
    try simp only [List.getElem_toArray,List.getElem_cons_zero,List.getElem_cons_succ,Act.put,zsA,zsB,zsC]
    refine' till_take (i := 3) (oi := _) (v := .slice (some ⟨b,off,none⟩) tn tc) rfl (by kernel_rfl) (by kernel_rfl) (by kernel_rfl) (by kernel_rfl) (fun _ _ _ h => h) (Or.inl ⟨by first | (go_simp;done) | rfl,fun X hX => by have h0 := hX.2.2.1;go_simp⟩) hHeld ?_
    try simp only [List.getElem_toArray,List.getElem_cons_zero,List.getElem_cons_succ,Act.put,zsA,zsB,zsC]
    refine' till_pure (i := 4) (oi := _) (v := .int .i64 (i : Int)) rfl (by kernel_rfl) (by kernel_rfl) (by kernel_rfl) (by kernel_rfl) (fun _ _ _ h => h) (Or.inl ⟨by first | (go_simp;done) | rfl,fun X _ => by go_simp⟩) hHeld ?_
    try simp only [List.getElem_toArray,List.getElem_cons_zero,List.getElem_cons_succ,Act.put,zsA,zsB,zsC]
    refine' till_pure (i := 5) (oi := _) (v := .pointer (some ⟨b,off + i * 6,none⟩)) rfl (by kernel_rfl) (by kernel_rfl) (by kernel_rfl) (by kernel_rfl) (fun _ _ _ h => h) (Or.inl ⟨by first | (go_simp;done) | rfl,fun X _ => by go_simp⟩) hHeld ?_
    try simp only [List.getElem_toArray,List.getElem_cons_zero,List.getElem_cons_succ,Act.put,zsA,zsB,zsC]
    refine' till_pure (i := 6) (oi := _) (v := .pointer (some ⟨b,off + i * 6 + 5,none⟩)) rfl (by kernel_rfl) (by kernel_rfl) (by kernel_rfl) (by kernel_rfl) (fun _ _ _ h => h) (Or.inl ⟨by first | (go_simp;done) | rfl,fun X _ => by go_simp⟩) hHeld ?_
    try simp only [List.getElem_toArray,List.getElem_cons_zero,List.getElem_cons_succ,Act.put,zsA,zsB,zsC]
    refine' till_take (i := 7) (oi := _) (v := .int .i64 tvalue) rfl (by kernel_rfl) (by kernel_rfl) (by kernel_rfl) (by kernel_rfl) (fun _ _ _ h => h) (Or.inl ⟨by first | (go_simp;done) | rfl,fun X hX => by have h0 := hX.2.2.2;go_simp⟩) hHeld ?_
    try simp only [List.getElem_toArray,List.getElem_cons_zero,List.getElem_cons_succ,Act.put,zsA,zsB,zsC]
    refine' till_pure (i := 8) (oi := _) (v := .int .u64 tvalue) rfl (by kernel_rfl) (by kernel_rfl) (by kernel_rfl) (by kernel_rfl) (fun _ _ _ h => h) (Or.inl ⟨by first | (go_simp;done) | rfl,fun X _ => by go_simp⟩) hHeld ?_
    try simp only [List.getElem_toArray,List.getElem_cons_zero,List.getElem_cons_succ,Act.put,zsA,zsB,zsC]
    obtain ⟨Y0,hY0⟩ : ∃ Y,Y = w6.drew := ⟨_,rfl⟩
    have hY1 : Below w6.heap.size w6 Y0 := by rw [hY0];exact Below.drew (Below.refl _ _)
    replace r6 := Row.keep r6 hY1
    replace hsv := Rd.below hsv hY1
    replace r4 := Row.keep r4 hY1
    replace hd := Rd.below hd hY1
    replace rR := Row.keep rR hY1
    replace r1 := GameAt.keep r1 hY1
    replace bel := Bel.to bel hY1
    replace hu := Rd.below hu hY1
    rw [← hY0] at hHeld ⊢
    clear hY0 hY1 c6 c9 ct k5
    refine till_ready (rs := [9]) (by kernel_rfl) (by simp) ?_
    refine TillReady.cons (o := _) rfl (fun K hK => ?_) TillReady.nil
    go_simp
    refine (ref_of_int tvalue Y0 htv0 htv1).mono ?_
    rintro e x1_9 ⟨f,rfl,hf,bx1_9⟩
    obtain ⟨fa,fl,fc,rfl⟩ := Rd.shape hf
    replace r6 := Row.keep r6 bx1_9
    replace hsv := Rd.below hsv bx1_9
    replace r4 := Row.keep r4 bx1_9
    replace hd := Rd.below hd bx1_9
    replace rR := Row.keep rR bx1_9
    replace r1 := GameAt.keep r1 bx1_9
    replace bel := Bel.to bel bx1_9
    replace hu := Rd.below hu bx1_9
    go_wp2_with fail
    refine hK.out _ _ ⟨Bel.cellOf bx1_9 hHeld.1,Bel.cellOf bx1_9 hHeld.2.1,Bel.cellOf bx1_9 hHeld.2.2.1,Bel.cellOf bx1_9 hHeld.2.2.2⟩ (fun hHeld => ?_)
    clear hK K bx1_9
    try simp only [List.getElem_toArray,List.getElem_cons_zero,List.getElem_cons_succ,Act.put,zsA,zsB,zsC]
    refine till_ready (rs := [10]) (by kernel_rfl) (by simp) ?_
    refine TillReady.cons (o := _) rfl (fun K hK => ?_) TillReady.nil
    go_simp
    obtain ⟨x2_10,hx2_10⟩ : ∃ X,X = x1_9.alloc (.cells #[.slice na nl nc,.slice fa fl fc] 30) := ⟨_,rfl⟩
    have bx2_10 : Below x1_9.heap.size x1_9 x2_10 := by rw [hx2_10];exact Bel.al (Below.refl _ _) _
    have r21 : Row x2_10 x1_9.heap.size 30 ([(.slice na nl nc,y),(.slice fa fl fc,tvalue.toNat)].map (fun p : NatM => p.1)) := by rw [hx2_10];exact Row.newOf _ rfl
    rw [← hx2_10]
    clear hx2_10
    replace r6 := Row.keep r6 bx2_10
    replace hsv := Rd.below hsv bx2_10
    replace r4 := Row.keep r4 bx2_10
    replace hd := Rd.below hd bx2_10
    replace rR := Row.keep rR bx2_10
    replace r1 := GameAt.keep r1 bx2_10
    replace bel := Bel.to bel bx2_10
    replace hu := Rd.below hu bx2_10
    replace hf := Rd.below hf bx2_10
    have hN := Row.nats (n := 2) r21 rfl (by decide) (fun p hp => by
     simp only [List.mem_cons,List.not_mem_nil,or_false] at hp
     rcases hp with rfl | rfl
     ·exact hu
     ·exact hf)
    clear r21
    refine hK.out _ _ ⟨Bel.cellOf bx2_10 hHeld.1,Bel.cellOf bx2_10 hHeld.2.1,Bel.cellOf bx2_10 hHeld.2.2.1,Bel.cellOf bx2_10 hHeld.2.2.2⟩ (fun hHeld => ?_)
    clear hK K bx2_10
    try simp only [List.getElem_toArray,List.getElem_cons_zero,List.getElem_cons_succ,Act.put,zsA,zsB,zsC]
    refine till_ready (rs := [11]) (by kernel_rfl) (by simp) ?_
    refine TillReady.cons (o := _) rfl (fun K hK => ?_) TillReady.nil
    go_simp
    refine (rprod_any _ _ x2_10 hN hlv (by simp)).mono ?_
    rintro e x3_11 ⟨p,rfl,hp,bx3_11⟩
    obtain ⟨pa,pl,pc,rfl⟩ := Rd.shape hp
    simp only [List.map_cons,List.map_nil,prodL,Nat.mul_one] at hp
    replace r6 := Row.keep r6 bx3_11
    replace hsv := Rd.below hsv bx3_11
    replace r4 := Row.keep r4 bx3_11
    replace hd := Rd.below hd bx3_11
    replace rR := Row.keep rR bx3_11
    replace r1 := GameAt.keep r1 bx3_11
    replace bel := Bel.to bel bx3_11
    replace hu := Rd.below hu bx3_11
    replace hf := Rd.below hf bx3_11
    clear hN
    go_wp2_with fail
    refine hK.out _ _ ⟨Bel.cellOf bx3_11 hHeld.1,Bel.cellOf bx3_11 hHeld.2.1,Bel.cellOf bx3_11 hHeld.2.2.1,Bel.cellOf bx3_11 hHeld.2.2.2⟩ (fun hHeld => ?_)
    clear hK K bx3_11
    try simp only [List.getElem_toArray,List.getElem_cons_zero,List.getElem_cons_succ,Act.put,zsA,zsB,zsC]
    refine till_ready (rs := [12]) (by kernel_rfl) (by simp) ?_
    refine TillReady.cons (o := _) rfl (fun K hK => ?_) TillReady.nil
    go_simp
    refine (rsum_any _ _ s (y * tvalue.toNat) x3_11 hsv hp hl1).mono ?_
    rintro e x4_12 ⟨v,rfl,hv,bx4_12⟩
    obtain ⟨va,vl,vc,rfl⟩ := Rd.shape hv
    replace r6 := Row.keep r6 bx4_12
    replace hsv := Rd.below hsv bx4_12
    replace r4 := Row.keep r4 bx4_12
    replace hd := Rd.below hd bx4_12
    replace rR := Row.keep rR bx4_12
    replace r1 := GameAt.keep r1 bx4_12
    replace bel := Bel.to bel bx4_12
    replace hu := Rd.below hu bx4_12
    replace hf := Rd.below hf bx4_12
    replace hp := Rd.below hp bx4_12
    go_wp2_with fail
    refine hK.out _ _ ⟨Bel.cellOf bx4_12 hHeld.1,Bel.cellOf bx4_12 hHeld.2.1,Bel.cellOf bx4_12 hHeld.2.2.1,Bel.cellOf bx4_12 hHeld.2.2.2⟩ (fun hHeld => ?_)
    clear hK K bx4_12
    try simp only [List.getElem_toArray,List.getElem_cons_zero,List.getElem_cons_succ,Act.put,zsA,zsB,zsC]
    have c6 := hHeld.1
    have f6 := r6.frozen 0
    refine till_ready (rs := [13]) (by kernel_rfl) (by simp) ?_
    refine TillReady.last (o := _) rfl (by kernel_rfl) (fun K hK => ?_) TillReady.nil
    go_simp
    refine hK.out _ _ ?_
    clear hK K
    try simp only [List.getElem_toArray,List.getElem_cons_zero,List.getElem_cons_succ,Act.put,zsA,zsB,zsC]
    refine till_done (by kernel_rfl) ?_ _
    go_simp
    have hv2 := Rd.setNe hv c6 (fun _ h => by cases h) (.slice va vl vc)
    have hd2 := Rd.setNe hd c6 (fun _ h => by cases h) (.slice va vl vc)
    have r62 := Row.set r6 0 (.slice va vl vc)
    simp only [zsB] at r62
    have rR2 := Row.far rR (p := ⟨b6,0,none⟩) (by simp only [];omega) (.slice va vl vc)
    have r42 := Row.far r4 (p := ⟨b6,0,none⟩) (by simp only [];omega) (.slice va vl vc)
    have r12 : GameAt _ w.heap.size g (.slice aa an ac) _ := Row.far r1 (p := ⟨b6,0,none⟩) (by simp only [];omega) (.slice va vl vc)
    have bel2 := Bel.st bel (p := ⟨b6,0,none⟩) (by simp only [];omega) (.slice va vl vc)
    clear hv hd hl1 hsv r6 r4 rR r1 bel c6 f6
    go_wp2
    go_roundg (tn - (i + 1))
    case measure => have := hgi.out;have := hlt2.out;omega
    case rel => exact ⟨i + 1,_,va,vl,vc,rfl,by have := hlt2.out;omega,by go_num,hs2,r62,hv2,r42,hd2,rR2,r12,bel2⟩
   ·have hk1 : (tkind == 1) = false := by simpa using hk
    rw [if_neg hk] at hpt
    have hs2 : Hid (s = sumTo (payT g V) (i + 1)) := by show _ = _;rw [sumTo,hpt,Nat.add_zero];exact hs.out
    clear hs hpt hk htv k5
    go_wp2
    go_roundg (tn - (i + 1))
    case measure => have := hgi.out;have := hlt2.out;omega
    case rel => exact ⟨i + 1,s,sa,sn,sc,rfl,by have := hlt2.out;omega,by go_num,hs2,r6,hsv,r4,hd,rR,r1,bel⟩
  ·obtain rfl : i = tn := by omega
   have hsS : s = S := by rw [hs.out,hSd.out]
   rw [hsS] at hsv
   have hlv : Hid (limS [N,g.price.toNat] ≤ 63) := by
    have h1 := limbs_two (n := g.price.toNat) (by have := hpr2.out;omega)
    have h2 := hN60.out
    show _ ≤ _
    simp [limS]
    omega
   have hdd : (limbs (N * g.price.toNat)).length ≤ 64 := by
    have h3 := limbs_mul N g.price.toNat
    have h1 := limbs_two (n := g.price.toNat) (by have := hpr2.out;omega)
    have h2 := hN60.out
    omega
   have hd0 : 0 < N * g.price.toNat := Nat.mul_pos hN0.out (by have := hpr2.out;omega)
   have hp0 : 0 ≤ g.price := by have := hpr2.out;omega
   have hp1 : g.price < 18446744073709551616 := by have := hpr2.out;omega
   have wu : IntKind.u64.wrap g.price = g.price := by rw [IntKind.wrap_u64];omega
   obtain ⟨D,hD⟩ : ∃ D,D = N * g.price.toNat := ⟨_,rfl⟩
   rw [← hD] at hdd hd0 e1 e2
   have hDD := hD.symm
   have rmk := hide (fun va vb X (h1 : NV X va S) (h2 : NV X vb D) => rmake_ok va vb S D X h1 h2 hSl.out hdd hd0)
   rw [← e1.out,← e2.out] at rmk
   have c6 := r6.cell? 0
   have c4 := r4.cell? 0
   have cpr := r1.price
   simp only [List.getElem?_cons_zero] at c6 c4
   clear hs hsS hD hdd hd0 e1 e2
   go_upto_region 11 with (fail)
   refine till_begin 11 (fun X => X.cell? ⟨b6,0,none⟩ = some (.slice sa sn sc) ∧ X.cell? ⟨b4,0,none⟩ = some (.slice da dl dc) ∧ X.cell? ⟨w.heap.size,2,none⟩ = some (.int .i64 g.price)) (by kernel_rfl) (⟨c6,c4,cpr⟩) (fun hHeld => ?_)
   refine' till_take (i := 0) (oi := _) (v := .agg #[.slice sa sn sc]) rfl (by kernel_rfl) (by kernel_rfl) (by kernel_rfl) (by kernel_rfl) (fun _ _ _ h => h) (Or.inl ⟨by first | (go_simp;done) | rfl,fun X hX => by have h0 := hX.1;go_simp⟩) hHeld ?_
   try simp only [List.getElem_toArray,List.getElem_cons_zero,List.getElem_cons_succ,Act.put,zsA,zsB,zsC]
   refine' till_take (i := 1) (oi := _) (v := .agg #[.slice da dl dc]) rfl (by kernel_rfl) (by kernel_rfl) (by kernel_rfl) (by kernel_rfl) (fun _ _ _ h => h) (Or.inl ⟨by first | (go_simp;done) | rfl,fun X hX => by have h0 := hX.2.1;go_simp⟩) hHeld ?_
   try simp only [List.getElem_toArray,List.getElem_cons_zero,List.getElem_cons_succ,Act.put,zsA,zsB,zsC]
   refine' till_pure (i := 2) (oi := _) (v := .pointer (some ⟨w.heap.size,2,none⟩)) rfl (by kernel_rfl) (by kernel_rfl) (by kernel_rfl) (by kernel_rfl) (fun _ _ _ h => h) (Or.inl ⟨by first | (go_simp;done) | rfl,fun X _ => by go_simp⟩) hHeld ?_
   try simp only [List.getElem_toArray,List.getElem_cons_zero,List.getElem_cons_succ,Act.put,zsA,zsB,zsC]
   refine' till_take (i := 3) (oi := _) (v := .int .i64 g.price) rfl (by kernel_rfl) (by kernel_rfl) (by kernel_rfl) (by kernel_rfl) (fun _ _ _ h => h) (Or.inl ⟨by first | (go_simp;done) | rfl,fun X hX => by have h0 := hX.2.2;go_simp⟩) hHeld ?_
   try simp only [List.getElem_toArray,List.getElem_cons_zero,List.getElem_cons_succ,Act.put,zsA,zsB,zsC]
   refine' till_pure (i := 4) (oi := _) (v := .int .u64 g.price) rfl (by kernel_rfl) (by kernel_rfl) (by kernel_rfl) (by kernel_rfl) (fun _ _ _ h => h) (Or.inl ⟨by first | (go_simp;done) | rfl,fun X _ => by go_simp⟩) hHeld ?_
   try simp only [List.getElem_toArray,List.getElem_cons_zero,List.getElem_cons_succ,Act.put,zsA,zsB,zsC]
   obtain ⟨Y0,hY0⟩ : ∃ Y,Y = wr.drew := ⟨_,rfl⟩
   have hY1 : Below wr.heap.size wr Y0 := by rw [hY0];exact Below.drew (Below.refl _ _)
   replace rR := Row.keep rR hY1
   replace bel := Bel.to bel hY1
   replace hsv := Rd.below hsv hY1
   replace hd := Rd.below hd hY1
   rw [← hY0] at hHeld ⊢
   clear hY0 hY1 c6 c4 cpr
   refine till_ready (rs := [5]) (by kernel_rfl) (by simp) ?_
   refine TillReady.cons (o := _) rfl (fun K hK => ?_) TillReady.nil
   go_simp
   refine (ref_of_int g.price Y0 hp0 hp1).mono ?_
   rintro e x1_5 ⟨f,rfl,hf,bx1_5⟩
   obtain ⟨fa,fl,fc,rfl⟩ := Rd.shape hf
   replace rR := Row.keep rR bx1_5
   replace bel := Bel.to bel bx1_5
   replace hsv := Rd.below hsv bx1_5
   replace hd := Rd.below hd bx1_5
   go_wp2_with fail
   refine hK.out _ _ ⟨Bel.cellOf bx1_5 hHeld.1,Bel.cellOf bx1_5 hHeld.2.1,Bel.cellOf bx1_5 hHeld.2.2⟩ (fun hHeld => ?_)
   clear hK K bx1_5
   try simp only [List.getElem_toArray,List.getElem_cons_zero,List.getElem_cons_succ,Act.put,zsA,zsB,zsC]
   refine till_ready (rs := [6]) (by kernel_rfl) (by simp) ?_
   refine TillReady.cons (o := _) rfl (fun K hK => ?_) TillReady.nil
   go_simp
   obtain ⟨x2_6,hx2_6⟩ : ∃ X,X = x1_5.alloc (.cells #[.slice da dl dc,.slice fa fl fc] 30) := ⟨_,rfl⟩
   have bx2_6 : Below x1_5.heap.size x1_5 x2_6 := by rw [hx2_6];exact Bel.al (Below.refl _ _) _
   have r21 : Row x2_6 x1_5.heap.size 30 ([(.slice da dl dc,N),(.slice fa fl fc,g.price.toNat)].map (fun p : NatM => p.1)) := by rw [hx2_6];exact Row.newOf _ rfl
   rw [← hx2_6]
   clear hx2_6
   replace rR := Row.keep rR bx2_6
   replace bel := Bel.to bel bx2_6
   replace hsv := Rd.below hsv bx2_6
   replace hd := Rd.below hd bx2_6
   replace hf := Rd.below hf bx2_6
   have hN := Row.nats (n := 2) r21 rfl (by decide) (fun p hp => by
    simp only [List.mem_cons,List.not_mem_nil,or_false] at hp
    rcases hp with rfl | rfl
    ·exact hd
    ·exact hf)
   clear r21
   refine hK.out _ _ ⟨Bel.cellOf bx2_6 hHeld.1,Bel.cellOf bx2_6 hHeld.2.1,Bel.cellOf bx2_6 hHeld.2.2⟩ (fun hHeld => ?_)
   clear hK K bx2_6
   try simp only [List.getElem_toArray,List.getElem_cons_zero,List.getElem_cons_succ,Act.put,zsA,zsB,zsC]
   refine till_ready (rs := [7]) (by kernel_rfl) (by simp) ?_
   refine TillReady.cons (o := _) rfl (fun K hK => ?_) TillReady.nil
   go_simp
   refine (rprod_any _ _ x2_6 hN hlv.out (by simp)).mono ?_
   rintro e x3_7 ⟨p,rfl,hz,bx3_7⟩
   obtain ⟨za,zl,zc,rfl⟩ := Rd.shape hz
   simp only [List.map_cons,List.map_nil,prodL,Nat.mul_one] at hz
   rw [hDD] at hz
   replace rR := Row.keep rR bx3_7
   replace bel := Bel.to bel bx3_7
   replace hsv := Rd.below hsv bx3_7
   replace hd := Rd.below hd bx3_7
   replace hf := Rd.below hf bx3_7
   clear hN
   go_wp2_with fail
   refine hK.out _ _ ⟨Bel.cellOf bx3_7 hHeld.1,Bel.cellOf bx3_7 hHeld.2.1,Bel.cellOf bx3_7 hHeld.2.2⟩ (fun hHeld => ?_)
   clear hK K bx3_7
   try simp only [List.getElem_toArray,List.getElem_cons_zero,List.getElem_cons_succ,Act.put,zsA,zsB,zsC]
   refine till_ready (rs := [8]) (by kernel_rfl) (by simp) ?_
   refine TillReady.cons (o := _) rfl (fun K hK => ?_) TillReady.nil
   go_simp
   refine (rmk.out _ _ x3_7 hsv hz).mono ?_
   rintro e x4_8 ⟨q,p,rfl,hq,hp,bx4_8⟩
   obtain ⟨qu,ql,qc,rfl⟩ := Rd.shape hq
   obtain ⟨pu,pl,pc,rfl⟩ := Rd.shape hp
   replace rR := Row.keep rR bx4_8
   replace bel := Bel.to bel bx4_8
   replace hsv := Rd.below hsv bx4_8
   replace hd := Rd.below hd bx4_8
   replace hf := Rd.below hf bx4_8
   replace hz := Rd.below hz bx4_8
   go_wp2_with fail
   refine hK.out _ _ ⟨Bel.cellOf bx4_8 hHeld.1,Bel.cellOf bx4_8 hHeld.2.1,Bel.cellOf bx4_8 hHeld.2.2⟩ (fun hHeld => ?_)
   clear hK K bx4_8
   try simp only [List.getElem_toArray,List.getElem_cons_zero,List.getElem_cons_succ,Act.put,zsA,zsB,zsC]
   refine' till_pure (i := 9) (oi := _) (v := .agg #[.slice qu ql qc,.slice pu pl pc]) rfl (by kernel_rfl) (by kernel_rfl) (by kernel_rfl) (by kernel_rfl) (fun _ _ _ h => h) (Or.inl ⟨by first | (go_simp;done) | rfl,fun X _ => by go_simp⟩) hHeld ?_
   try simp only [List.getElem_toArray,List.getElem_cons_zero,List.getElem_cons_succ,Act.put,zsA,zsB,zsC]
   refine' till_pure (i := 10) (oi := _) (v := .int .i64 0) rfl (by kernel_rfl) (by kernel_rfl) (by kernel_rfl) (by kernel_rfl) (fun _ _ _ h => h) (Or.inl ⟨by first | (go_simp;done) | rfl,fun X _ => by go_simp⟩) hHeld ?_
   try simp only [List.getElem_toArray,List.getElem_cons_zero,List.getElem_cons_succ,Act.put,zsA,zsB,zsC]
   have cR0 := rR.cell? 0
   have cR1 := rR.cell? 1
   simp only [List.getElem?_cons_zero,List.getElem?_cons_succ] at cR0 cR1
   have fR0 := rR.frozen 0
   have fR1 := rR.frozen 1
   refine till_ready (rs := [11]) (by kernel_rfl) (by simp) ?_
   refine TillReady.last (o := _) rfl (by kernel_rfl) (fun K hK => ?_) TillReady.nil
   go_simp
   refine hK.out _ _ ?_
   clear hK K
   try simp only [List.getElem_toArray,List.getElem_cons_zero,List.getElem_cons_succ,Act.put,zsA,zsB,zsC]
   refine' till_late (i := 12) (oi := _) (v := .int .i64 0) rfl (by kernel_rfl) (by kernel_rfl) (Or.inl ⟨by first | (go_simp;done) | rfl,fun X _ => by go_simp⟩) ?_
   try simp only [List.getElem_toArray,List.getElem_cons_zero,List.getElem_cons_succ,Act.put,zsA,zsB,zsC]
   refine till_done (by kernel_rfl) ?_ _
   go_simp
   have c1' := (rR.set 0 (.slice qu ql qc)).cell? 1
   simp only [zsB,List.getElem?_cons_zero,List.getElem?_cons_succ] at c1'
   have hq3 := (Rd.setNe hq cR0 (fun _ h => by cases h) (.slice qu ql qc)).setNe c1' (fun _ h => by cases h) (.slice pu pl pc)
   have hp3 := (Rd.setNe hp cR0 (fun _ h => by cases h) (.slice qu ql qc)).setNe c1' (fun _ h => by cases h) (.slice pu pl pc)
   have belf := Bel.st (Bel.st bel (p := ⟨w.heap.size + 1,0,none⟩) (by simp only [];omega) (.slice qu ql qc)) (p := ⟨w.heap.size + 1,1,none⟩) (by simp only [];omega) (.slice pu pl pc)
   have rF := (rR.set 0 (.slice qu ql qc)).set 1 (.slice pu pl pc)
   simp only [zsB,zsC] at rF
   have cF0 := rF.cell? 0
   have cF1 := rF.cell? 1
   simp only [List.getElem?_cons_zero,List.getElem?_cons_succ] at cF0 cF1
   clear hq hp c1' rF
   go_wp2
   exact bodyPost_ret (v := .tuple #[.agg #[(.slice qu ql qc),(.slice pu pl pc)],.int .i64 0]) (by simp [results,Tryz.results17,go_sem,cF0,cF1]) rfl ⟨_,_,rfl,hq3,hp3,belf⟩
theorem payT_limbs {g : GameD} (he : gameE g = 0) : (limbs (sumTo (payT g (winV g)) g.tiers.length)).length ≤ 64 := by
 have h1 : ∀ i,i < g.tiers.length → payT g (winV g) i ≤ outN g * 1000000000 := by
  intro i hi
  unfold payT
  rw [List.getElem?_eq_getElem hi]
  simp only []
  split
  ·refine Nat.mul_le_mul (winV_le he hi) ?_
   have := game_valid_value he g.tiers[i] (List.getElem_mem hi)
   omega
  ·exact Nat.zero_le _
 have h2 := sumTo_bound h1
 have h3 := (game_tiers he).1
 have h4 : sumTo (payT g (winV g)) g.tiers.length ≤ 12000000000 * outN g := by
  refine Nat.le_trans h2 ?_
  rw [show 12000000000 * outN g = 12 * (outN g * 1000000000) by omega]
  exact Nat.mul_le_mul_right _ h3
 have h5 := limbs_len_le h4
 have h6 := limbs_mul 12000000000 (outN g)
 have h7 := outN_ten he
 have h8 := limbs_two (n := 12000000000) (by omega)
 omega
def payP (g : GameD) : Nat := if gameE g = 0 then sumTo (payT g (winV g)) g.tiers.length / Nat.gcd (sumTo (payT g (winV g)) g.tiers.length) (outN g * g.price.toNat) else 0
def payQ (g : GameD) : Nat := if gameE g = 0 then (outN g * g.price.toNat) / Nat.gcd (sumTo (payT g (winV g)) g.tiers.length) (outN g * g.price.toNat) else 0
theorem oPay_val (g : GameD) (av tv : Value) (ms : List AddonM) (w : World) (rg : GameR w av tv ms g) :
  Calls Tryz.prog 16 #[gameVal g av tv] w (FracC (payP g) (payQ g) (gameE g) w) :=
 oPay_any g av tv ms (winV g) w rg payT_limbs (fun he i hi => by have := winV_ten he hi;omega) (fun he t ht => by have := game_valid_value he t ht;omega) (fun he t X h0 h1 hX => owin_any g av tv ms he t X h0 h1 hX)
theorem rwin_in (g : GameD) (av tv : Value) (ms : List AddonM) (he : gameE g = 0) (t : Int) (X : World) (h0 : 0 ≤ t) (h1 : t < g.tiers.length) (hX : GameR X av tv ms g) :
  Calls Tryz.prog 9 #[gameVal g av tv,.int .i64 t] X (NatC (winV g t) 0 X) :=
 rWin_any g av tv ms t X hX _ _ (by unfold WinO;rw [if_neg (by simpa using he),if_neg (by omega)])
theorem rAny_val (g : GameD) (av tv : Value) (ms : List AddonM) (w : World) (rg : GameR w av tv ms g) :
  Calls Tryz.prog 15 #[gameVal g av tv] w (FracC (anyP g) (anyQ g) (gameE g) w) :=
 rAny_any g av tv ms (winV g) w rg (fun he => by have h := winS_ten he;unfold winS at h;omega) (fun he t X h0 h1 hX => rwin_in g av tv ms he t X h0 h1 hX)
theorem rPay_val (g : GameD) (av tv : Value) (ms : List AddonM) (w : World) (rg : GameR w av tv ms g) :
  Calls Tryz.prog 17 #[gameVal g av tv] w (FracC (payP g) (payQ g) (gameE g) w) :=
 rPay_any g av tv ms (winV g) w rg payT_limbs (fun he i hi => by have := winV_ten he hi;omega) (fun he t ht => by have := game_valid_value he t ht;omega) (fun he t X h0 h1 hX => rwin_in g av tv ms he t X h0 h1 hX)
end Go.Proofs.YtldikghldcefcaaGreat
end

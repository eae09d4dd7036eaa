/- Lemmas, merged out of smaller texts (wip/tools/mergedce.py). No condition. -/
import Derived.Test.YtldikghldcefcaaGreatHN
import Derived.Test.YtldikghldcefcaaGreatHM
import Derived.Test.YtldikghldcefcaaGreatHL
import Derived.Test.YtldikghldcefcaaGreatHE
import Derived.Test.YtldikghldcefcaaGreatHIt
section
set_option linter.unusedVariables false
set_option linter.unusedSimpArgs false
namespace Go.Proofs.YtldikghldcefcaaGreat
open Go.RowKit
set_option maxHeartbeats 16000000 in
set_option maxRecDepth 100000 in
theorem rwinc_any (g : GameD) (av tv : Value) (ms : List AddonM) (t : Int) (w : World) (rg : GameR w av tv ms g) (he : gameE g = 0) (hk : g.kind ≠ 2) :
  Calls Tryz.prog 32 #[gameVal g av tv,.int .i64 t] w (SomeNat (winC g t) w) := by
 have hF := hide (choF he hk)
 have hlim := hide (winC_limbs hF.out t)
 obtain ⟨P,hP⟩ : ∃ P,P = winC g t := ⟨_,rfl⟩
 rw [← hP] at hlim ⊢
 replace hP := hide hP
 have cW := hide (fun (m x b : Nat) X (hX : Below w.heap.size w X) => rfirst_any g av tv ms m x b X (rg.below hX))
 have cYs := hide (fun (m x b : Nat) (hm : (m : Int) ≤ g.main) (hx : x ≤ 4) (hb : b ≤ 4) X (hX : Below w.heap.size w X) => rways_any g av tv ms m x b X (rg.below hX) hF.out hm hx hb)
 obtain ⟨aa,ac,rfl,hal,ham⟩ := rg.1.1.shape
 obtain ⟨ta,tc,rfl,htl,htm⟩ := rg.2.2.shape
 obtain ⟨an,han⟩ : ∃ an,an = ms.length := ⟨_,rfl⟩
 obtain ⟨tn,htn⟩ : ∃ tn,tn = g.tiers.length := ⟨_,rfl⟩
 rw [← han,← htn] at cW cYs ⊢
 clear rg hal htl ham htm han htn he hk
 unfold gameVal at cW cYs ⊢
 go_enter Tryz.func32,Tryz.ntmps32
 go_upto_region 1 with (fail)
 obtain ⟨W,hW⟩ : ∃ W,W = (w.alloc (Obj.cells #[.string g.name,.int .i64 g.kind,.int .i64 g.price,.int .i64 g.main,.int .i64 g.of,.int .i64 g.bonus,.int .i64 g.bonusOf,.int .i64 g.extra,.int .i64 g.draws,.int .i64 g.system,.int .i64 g.days,.int .i64 g.at_,.int .i64 g.close,.int .i64 g.cancel,.int .i64 g.expiry,.int .i64 g.pool,.int .i64 g.reserve,.int .i64 g.round,.int .i64 g.cap,.int .i64 g.rolls,(.slice aa an ac),(.slice ta tn tc)] 25)).alloc (Obj.cells #[.slice none 0 0] 30) := ⟨_,rfl⟩
 have bW : Below w.heap.size w W := by rw [hW];exact Bel.al (Bel.al (Below.refl _ _) _) _
 have r0 : GameAt W w.heap.size g (.slice aa an ac) (.slice ta tn tc) := by rw [hW];exact Row.alloc (Row.new _ _ _) _
 have rR : Row W (w.heap.size + 1) 30 [.slice none 0 0] := by rw [hW];exact Row.at2 _ _ _ _
 rw [← hW]
 clear hW
 have cm := r0.main
 have ce := r0.extra
 have cb := r0.bonus
 have b1 := hF.out.m1
 have b2 := hF.out.m2
 have b5 := hF.out.b1
 have b6' := hF.out.b2
 have b9 := hF.out.e1
 have b0 := hF.out.e2
 go_upto_region 2 with (fail)
 obtain ⟨b6,hb6⟩ : ∃ b6,b6 = W.heap.size := ⟨_,rfl⟩
 obtain ⟨w3,hw3⟩ : ∃ X,X = W.alloc (Obj.cells #[.slice none 0 0] 30) := ⟨_,rfl⟩
 have r6 : Row w3 b6 30 [.slice none 0 0] := by rw [hw3,hb6];exact Row.newOf _ rfl
 have b3' : Below W.heap.size W w3 := by rw [hw3];exact Bel.al (Below.refl _ _) _
 have h6W : W.heap.size ≤ b6 := by omega
 have h6r : w.heap.size + 1 < b6 := by have := rR.lt;omega
 replace rR := Row.keep rR b3'
 rw [← hw3,← hb6]
 clear hw3 hb6
 go_wp2
 go_loopg [6] (g.main.toNat + 1) (fun gh tm wr => ∃ (m s : Nat) (sa : Option Addr) (sn sc : Nat),gh = g.main.toNat + 1 - m ∧ (m : Int) ≤ g.main + 1 ∧ tm = .int .i64 (m : Int) ∧ Hid (s = sumTo (winF g t) m) ∧ Row wr b6 30 [.slice sa sn sc] ∧ NV wr (.slice sa sn sc) s ∧ Row wr (w.heap.size + 1) 30 [.slice none 0 0] ∧ Below W.heap.size W wr)
 case atStart => exact ⟨0,0,none,0,0,rfl,by omega,rfl,rfl,r6,NV.zero _,rR,b3'⟩
 case round =>
  clear r6 rR b3'
  obtain ⟨m,s,sa,sn,sc,hgm,hm,rfl,hs,r6,hsv,rR,hB⟩ := hrel
  replace hgm := hide hgm
  have cm3 := Bel.cellOf hB cm
  by_cases hml : (m : Int) ≤ g.main
  ·go_wp2
   obtain ⟨wo,hwo⟩ : ∃ wo,wo = wr := ⟨_,rfl⟩
   rw [← hwo] at r6 hsv rR hB ⊢
   clear hwo cm3
   go_loopg [7] (g.extra.toNat + 1) (fun gh tx wr => ∃ (x s : Nat) (sa : Option Addr) (sn sc : Nat),gh = g.extra.toNat + 1 - x ∧ (x : Int) ≤ g.extra + 1 ∧ tx = .int .i64 (x : Int) ∧ Hid (s = sumTo (winF g t) m + sumTo (winG g t m) x) ∧ Row wr b6 30 [.slice sa sn sc] ∧ NV wr (.slice sa sn sc) s ∧ Row wr (w.heap.size + 1) 30 [.slice none 0 0] ∧ Below W.heap.size W wr)
   case atStart => exact ⟨0,s,sa,sn,sc,rfl,by omega,rfl,by show _ = _;rw [hs.out];rfl,r6,hsv,rR,hB⟩
   case round =>
    clear r6 hsv rR hB hs
    obtain ⟨x,s,sa,sn,sc,hgx,hx,rfl,hs,r6,hsv,rR,hB⟩ := hrel
    replace hgx := hide hgx
    have ce3 := Bel.cellOf hB ce
    by_cases hxl : (x : Int) ≤ g.extra
    ·go_wp2
     obtain ⟨wo2,hwo2⟩ : ∃ wo,wo = wr := ⟨_,rfl⟩
     rw [← hwo2] at r6 hsv rR hB ⊢
     clear hwo2 ce3
     go_loopg [8] (g.bonus.toNat + 1) (fun gh tb wr => ∃ (b s : Nat) (sa : Option Addr) (sn sc : Nat),gh = g.bonus.toNat + 1 - b ∧ (b : Int) ≤ g.bonus + 1 ∧ tb = .int .i64 (b : Int) ∧ Hid (s = sumTo (winF g t) m + sumTo (winG g t m) x + sumTo (winH g t m x) b) ∧ Row wr b6 30 [.slice sa sn sc] ∧ NV wr (.slice sa sn sc) s ∧ Row wr (w.heap.size + 1) 30 [.slice none 0 0] ∧ Below W.heap.size W wr)
     case atStart => exact ⟨0,s,sa,sn,sc,rfl,by omega,rfl,by show _ = _;rw [hs.out];rfl,r6,hsv,rR,hB⟩
     case round =>
      clear r6 hsv rR hB hs
      obtain ⟨b,s,sa,sn,sc,hgb,hb,rfl,hs,r6,hsv,rR,hB⟩ := hrel
      replace hgb := hide hgb
      have bel := Bel.to bW hB
      have cb3 := Bel.cellOf hB cb
      by_cases hbl : (b : Int) ≤ g.bonus
      ·have hpart := hide (win_part (g := g) (t := t) (m := m) (x := x) (b := b) (by omega) (by omega) (by omega))
       have rg9 := r0.keep hB
       obtain ⟨tt,htt⟩ : ∃ tt,tt = wonC g m x b := ⟨_,rfl⟩
       have cW2 := hide (cW.out m x b wr bel)
       rw [show firstGo (hitT (m : Int) (x : Int) (b : Int)) g.tiers 0 = tt from htt.symm] at cW2
       have hbl2 := hide hbl
       go_wp2_with (first | (refine wpList_load_row rfl 25 _ rfl _ rfl _ _ _ _ rg9 Tryz.underlying25 rfl (by kernel_rfl) ?_) | fail)
       refine cW2.out.mono ?_
       rintro e w7 ⟨rfl,hb7⟩
       clear cW2 rg9 cb3
       replace r6 := Row.keep r6 hb7
       replace rR := Row.keep rR hb7
       replace hsv := Rd.below hsv hb7
       replace hB := Bel.to hB hb7
       clear hb7 bel
       by_cases htier : tt = t
       ·have ht1 : (tt == t) = true := by simpa using htier
        have hval : winH g t m x b = wayN g m x b := by unfold winH;rw [if_pos (by rw [← htt];exact htier)]
        have hsy : s + wayN g m x b ≤ P := by have := hpart.out;rw [← hP.out,hval] at this;have := hs.out;omega
        have hl1 : (limbs (s + wayN g m x b)).length ≤ 64 := by have := limbs_len_le hsy;have := hlim.out;omega
        have hs2 : Hid (s + wayN g m x b = sumTo (winF g t) m + sumTo (winG g t m) x + sumTo (winH g t m x) (b + 1)) := by show _ = _;rw [sumTo,hval];have := hs.out;omega
        have cY := hide (cYs.out m x b hml (by omega) (by omega))
        have hr0 : w7.rangeAt w.heap.size 0 [.string g.name,.int .i64 g.kind,.int .i64 g.price,.int .i64 g.main,.int .i64 g.of,.int .i64 g.bonus,.int .i64 g.bonusOf,.int .i64 g.extra,.int .i64 g.draws,.int .i64 g.system,.int .i64 g.days,.int .i64 g.at_,.int .i64 g.close,.int .i64 g.cancel,.int .i64 g.expiry,.int .i64 g.pool,.int .i64 g.reserve,.int .i64 g.round,.int .i64 g.cap,.int .i64 g.rolls,(.slice aa an ac),(.slice ta tn tc)] := fun j u hu => by rw [Nat.zero_add];exact ((r0.keep hB).cell? j).trans hu
        have c6 := r6.cell? 0
        simp only [List.getElem?_cons_zero] at c6
        clear htt htier hval hpart hs hsy
        go_upto_region 12 with (fail)
        refine till_begin 7 (fun X => X.cell? ⟨b6,0,none⟩ = some (.slice sa sn sc) ∧ X.rangeAt w.heap.size 0 [.string g.name,.int .i64 g.kind,.int .i64 g.price,.int .i64 g.main,.int .i64 g.of,.int .i64 g.bonus,.int .i64 g.bonusOf,.int .i64 g.extra,.int .i64 g.draws,.int .i64 g.system,.int .i64 g.days,.int .i64 g.at_,.int .i64 g.close,.int .i64 g.cancel,.int .i64 g.expiry,.int .i64 g.pool,.int .i64 g.reserve,.int .i64 g.round,.int .i64 g.cap,.int .i64 g.rolls,(.slice aa an ac),(.slice ta tn tc)]) (by kernel_rfl) (⟨c6,hr0⟩) (fun hHeld => ?_)
        refine' till_take (i := 0) (oi := _) (v := .agg #[.slice sa sn sc]) rfl (by kernel_rfl) (by kernel_rfl) (by kernel_rfl) (by kernel_rfl) (fun _ _ _ h => h) (Or.inl ⟨by first | (go_simp;done) | rfl,fun X hX => by have h0 := hX.1;go_simp⟩) hHeld ?_
        try simp only [List.getElem_toArray,List.getElem_cons_zero,List.getElem_cons_succ,Act.put,zsA,zsB,zsC]
        refine' till_take (i := 1) (oi := _) (v := .agg #[.string g.name,.int .i64 g.kind,.int .i64 g.price,.int .i64 g.main,.int .i64 g.of,.int .i64 g.bonus,.int .i64 g.bonusOf,.int .i64 g.extra,.int .i64 g.draws,.int .i64 g.system,.int .i64 g.days,.int .i64 g.at_,.int .i64 g.close,.int .i64 g.cancel,.int .i64 g.expiry,.int .i64 g.pool,.int .i64 g.reserve,.int .i64 g.round,.int .i64 g.cap,.int .i64 g.rolls,(.slice aa an ac),(.slice ta tn tc)]) rfl (by kernel_rfl) (by kernel_rfl) (by kernel_rfl) (by kernel_rfl) (fun _ _ _ h => h) (by refine (yieldsIf_load_mid ?_ 25 (.tmp 2) rfl w.heap.size 0 ?_ [.string g.name,.int .i64 g.kind,.int .i64 g.price,.int .i64 g.main,.int .i64 g.of,.int .i64 g.bonus,.int .i64 g.bonusOf,.int .i64 g.extra,.int .i64 g.draws,.int .i64 g.system,.int .i64 g.days,.int .i64 g.at_,.int .i64 g.close,.int .i64 g.cancel,.int .i64 g.expiry,.int .i64 g.pool,.int .i64 g.reserve,.int .i64 g.round,.int .i64 g.cap,.int .i64 g.rolls,(.slice aa an ac),(.slice ta tn tc)] _ (fun X h => h.2) Tryz.underlying25 rfl (by kernel_rfl)) <;> go_simp) hHeld ?_
        try simp only [List.getElem_toArray,List.getElem_cons_zero,List.getElem_cons_succ,Act.put,zsA,zsB,zsC]
        refine' till_pure (i := 2) (oi := _) (v := .int .i64 (m : Int)) rfl (by kernel_rfl) (by kernel_rfl) (by kernel_rfl) (by kernel_rfl) (fun _ _ _ h => h) (Or.inl ⟨by first | (go_simp;done) | rfl,fun X _ => by go_simp⟩) hHeld ?_
        try simp only [List.getElem_toArray,List.getElem_cons_zero,List.getElem_cons_succ,Act.put,zsA,zsB,zsC]
        refine' till_pure (i := 3) (oi := _) (v := .int .i64 (b : Int)) rfl (by kernel_rfl) (by kernel_rfl) (by kernel_rfl) (by kernel_rfl) (fun _ _ _ h => h) (Or.inl ⟨by first | (go_simp;done) | rfl,fun X _ => by go_simp⟩) hHeld ?_
        try simp only [List.getElem_toArray,List.getElem_cons_zero,List.getElem_cons_succ,Act.put,zsA,zsB,zsC]
        refine' till_pure (i := 4) (oi := _) (v := .int .i64 (x : Int)) rfl (by kernel_rfl) (by kernel_rfl) (by kernel_rfl) (by kernel_rfl) (fun _ _ _ h => h) (Or.inl ⟨by first | (go_simp;done) | rfl,fun X _ => by go_simp⟩) hHeld ?_
        try simp only [List.getElem_toArray,List.getElem_cons_zero,List.getElem_cons_succ,Act.put,zsA,zsB,zsC]
        obtain ⟨Y0,hY0⟩ : ∃ Y,Y = w7.drew := ⟨_,rfl⟩
        have hY1 : Below w7.heap.size w7 Y0 := by rw [hY0];exact Below.drew (Below.refl _ _)
        replace r6 := Row.keep r6 hY1
        replace hsv := Rd.below hsv hY1
        replace rR := Row.keep rR hY1
        replace hB := Bel.to hB hY1
        rw [← hY0] at hHeld ⊢
        clear hY0 hY1 c6 hr0
        refine till_ready (rs := [5]) (by kernel_rfl) (by simp) ?_
        refine TillReady.cons (o := _) rfl (fun K hK => ?_) TillReady.nil
        go_simp
        refine (cY.out Y0 (Bel.to bW hB)).mono ?_
        rintro e x1_5 ⟨u,rfl,hu,bx1_5⟩
        obtain ⟨ua,ul,uc,rfl⟩ := Rd.shape hu
        replace r6 := Row.keep r6 bx1_5
        replace hsv := Rd.below hsv bx1_5
        replace rR := Row.keep rR bx1_5
        replace hB := Bel.to hB bx1_5
        go_wp2_with fail
        refine hK.out _ _ ⟨Bel.cellOf bx1_5 hHeld.1,range_keep bx1_5 hHeld.2⟩ (fun hHeld => ?_)
        clear hK K bx1_5
        try simp only [List.getElem_toArray,List.getElem_cons_zero,List.getElem_cons_succ,Act.put,zsA,zsB,zsC]
        refine till_ready (rs := [6]) (by kernel_rfl) (by simp) ?_
        refine TillReady.cons (o := _) rfl (fun K hK => ?_) TillReady.nil
        go_simp
        refine (rsum_any _ _ s (wayN g m x b) x1_5 hsv hu hl1).mono ?_
        rintro e x2_6 ⟨v,rfl,hv,bx2_6⟩
        obtain ⟨va,vl,vc,rfl⟩ := Rd.shape hv
        replace r6 := Row.keep r6 bx2_6
        replace hsv := Rd.below hsv bx2_6
        replace rR := Row.keep rR bx2_6
        replace hB := Bel.to hB bx2_6
        replace hu := Rd.below hu bx2_6
        go_wp2_with fail
        refine hK.out _ _ ⟨Bel.cellOf bx2_6 hHeld.1,range_keep bx2_6 hHeld.2⟩ (fun hHeld => ?_)
        clear hK K bx2_6
        try simp only [List.getElem_toArray,List.getElem_cons_zero,List.getElem_cons_succ,Act.put,zsA,zsB,zsC]
        have c6 := hHeld.1
        have f6 := r6.frozen 0
        refine till_ready (rs := [7]) (by kernel_rfl) (by simp) ?_
        refine TillReady.last (o := _) rfl (by kernel_rfl) (fun K hK => ?_) TillReady.nil
        go_simp
        refine hK.out _ _ ?_
        clear hK K
        try simp only [List.getElem_toArray,List.getElem_cons_zero,List.getElem_cons_succ,Act.put,zsA,zsB,zsC]
        refine till_done (by kernel_rfl) ?_ _
        go_simp
        have hv2 := Rd.setNe hv c6 (fun _ h => by cases h) (.slice va vl vc)
        have r62 := Row.set r6 0 (.slice va vl vc)
        simp only [zsB] at r62
        have rR2 := Row.far rR (p := ⟨b6,0,none⟩) (by simp only [];omega) (.slice va vl vc)
        have hB2 := Bel.st hB (p := ⟨b6,0,none⟩) h6W (.slice va vl vc)
        clear hl1 hv hsv r6 rR hB c6 f6
        go_wp2
        go_roundg (g.bonus.toNat + 1 - (b + 1))
        case measure => have := hgb.out;have := hbl2.out;omega
        case rel => exact ⟨b + 1,s + wayN g m x b,va,vl,vc,rfl,by have := hbl2.out;omega,by go_num,hs2,r62,hv2,rR2,hB2⟩
       ·have ht1 : (tt == t) = false := by simpa using htier
        have hs2 : Hid (s = sumTo (winF g t) m + sumTo (winG g t m) x + sumTo (winH g t m x) (b + 1)) := by
         have h0 : winH g t m x b = 0 := by unfold winH;rw [if_neg (by rw [← htt];exact htier)]
         show _ = _
         rw [sumTo,h0,Nat.add_zero]
         exact hs.out
        clear htt htier hs hpart
        go_wp2
        go_roundg (g.bonus.toNat + 1 - (b + 1))
        case measure => have := hgb.out;have := hbl2.out;omega
        case rel => exact ⟨b + 1,s,sa,sn,sc,rfl,by have := hbl2.out;omega,by go_num,hs2,r6,hsv,rR,hB⟩
      ·have hbn : b = g.bonus.toNat + 1 := by omega
       have hs2 : Hid (s = sumTo (winF g t) m + sumTo (winG g t m) (x + 1)) := by show _ = _;rw [sumTo,hs.out,hbn,Nat.add_assoc];rfl
       replace hbn := hide hbn
       have hxl2 := hide hxl
       clear hs
       go_wp2
       go_roundg (g.extra.toNat + 1 - (x + 1))
       case measure => have := hgx.out;have := hxl2.out;omega
       case rel => exact ⟨x + 1,s,sa,sn,sc,rfl,by have := hxl2.out;omega,by go_num,hs2,r6,hsv,rR,hB⟩
    ·have hxn : x = g.extra.toNat + 1 := by omega
     have hs2 : Hid (s = sumTo (winF g t) (m + 1)) := by show _ = _;rw [sumTo,hs.out,hxn];rfl
     replace hxn := hide hxn
     have hml2 := hide hml
     clear hs
     go_wp2
     go_roundg (g.main.toNat + 1 - (m + 1))
     case measure => have := hgm.out;have := hml2.out;omega
     case rel => exact ⟨m + 1,s,sa,sn,sc,rfl,by have := hml2.out;omega,by go_num,hs2,r6,hsv,rR,hB⟩
  ·have hmn : m = g.main.toNat + 1 := by omega
   have hp : NV wr (.slice sa sn sc) P := by rw [hP.out];unfold winC;rw [← hmn,← hs.out];exact hsv
   have c6 := r6.cell? 0
   simp only [List.getElem?_cons_zero] at c6
   have bel := Bel.to bW hB
   clear hsv hs
   replace hmn := hide hmn
   have cR := rR.cell? 0
   have fR := rR.frozen 0
   simp only [List.getElem?_cons_zero] at cR
   have hf := Rd.setNe hp cR (fun _ h => by cases h) (.slice sa sn sc)
   have belf := Bel.st bel (p := ⟨w.heap.size + 1,0,none⟩) (by simp only [];omega) (.slice sa sn sc)
   go_wp2
   exact bodyPost_ret (v := .agg #[(.slice sa sn sc)]) (by simp [results,Tryz.results32,go_sem,cR]) rfl ⟨_,rfl,hf,belf⟩
structure NLi (w : World) (base : Nat) (v : Value) (l : List NatM) : Prop where
 z : ZRow w base 30 v (l.map (fun p : NatM => p.1))
 n : ∀ p ∈ l,NV w p.1 p.2
section
variable {w w' : World} {base : Nat} {v : Value} {l : List NatM}
theorem NLi.keep (h : NLi w base v l) (hb : Below w.heap.size w w') : NLi w' base v l := ⟨h.z.keep hb,fun p hp => Rd.below (h.n p hp) hb⟩
theorem NLi.nil (w : World) (base : Nat) : NLi w base (.slice none 0 0) [] := ⟨.inl ⟨rfl,rfl⟩,fun p hp => by cases hp⟩
theorem NLi.lt (h : NLi w base v l) : ∀ k,v.ownBlock = some k → base ≤ k ∧ k < w.heap.size := h.z.lt
theorem NLi.grown {row : Option Nat} (h : NLi w base v l) (hg : w.grownBy w' row) (hne : ∀ k,v.ownBlock = some k → some k ≠ row) (hN : ∀ x n,NV w x n → NV w' x n) : NLi w' base v l := by
 refine ⟨?_,fun p hp => hN _ _ (h.n p hp)⟩
 rcases h.z with h1 | ⟨g,cap,h1,h2,h3,h4,h5⟩
 ·exact .inl h1
 ·exact .inr ⟨g,cap,h1,h2,h3,h4,h5.grown hg (hne g (by rw [h1];rfl))⟩
theorem NLi.far (h : NLi w base v l) {b x3 x4 : Nat} {x2 : Option Addr} (hne : ∀ k,v.ownBlock = some k → k ≠ b) (hc : w.cell? ⟨b,0,none⟩ = some (.slice x2 x3 x4)) (u : Value) : NLi (w.setCell ⟨b,0,none⟩ u) base v l := by
 refine ⟨?_,fun p hp => Rd.setNe (h.n p hp) hc (fun _ e => by cases e) u⟩
 rcases h.z with h1 | ⟨g,cap,h1,h2,h3,h4,h5⟩
 ·exact .inl h1
 ·exact .inr ⟨g,cap,h1,h2,h3,h4,h5.far (p := ⟨b,0,none⟩) (hne g (by rw [h1];rfl)) u⟩
theorem NLi.form (h : NLi w base v l) (hl : 0 < l.length) : ∃ g cap,v = .slice (some ⟨g,0,none⟩) l.length cap ∧ base ≤ g ∧ g < w.heap.size ∧ Row w g 30 (l.map (fun p : NatM => p.1) ++ List.replicate (cap - l.length) (.slice none 0 0)) := by
 rcases h.z with ⟨h1,h2⟩ | ⟨g,cap,h1,h2,h3,h4,h5⟩
 ·rw [List.map_eq_nil_iff] at h2;rw [h2] at hl;exact absurd hl (by simp)
 ·rw [List.length_map] at h1 h5
  exact ⟨g,cap,h1,h2,h5.lt,h5⟩
theorem NLi.get (h : NLi w base v l) {g n cap i y : Nat} (hv : v = .slice (some ⟨g,0,none⟩) n cap) (hy : (l.map (fun p : NatM => p.2))[i]? = some y) : ∃ a b c,w.cell? ⟨g,i,none⟩ = some (.slice a b c) ∧ NV w (.slice a b c) y := by
 rw [List.getElem?_map] at hy
 obtain ⟨p,hp,rfl⟩ := Option.map_eq_some_iff.1 hy
 have h1 := h.n p (List.mem_of_getElem? hp)
 have hi := (List.getElem?_eq_some_iff.1 hp).1
 obtain ⟨g',cap',e,_,_,hr⟩ := h.form (by omega)
 rw [hv] at e
 injection e with e1 _ _
 injection e1 with e1
 injection e1 with e1 _
 subst e1
 have h2 := hr.cell? i
 rw [List.getElem?_append_left (by rw [List.length_map];exact hi),List.getElem?_map,hp] at h2
 obtain ⟨a,b,c,hs⟩ := Rd.shape h1
 rw [hs] at h1
 exact ⟨a,b,c,by rw [← hs];exact h2,h1⟩
theorem NLi.set (h : NLi w base v l) {g n cap i : Nat} (hv : v = .slice (some ⟨g,0,none⟩) n cap) (hi : i < l.length) {u : Value} {x : Nat} (hu : NV w u x) : NLi (w.setCell ⟨g,i,none⟩ u) base v (l.set i (u,x)) := by
 obtain ⟨a,b,c,hc,_⟩ := h.get (i := i) (y := l[i].2) hv (by rw [List.getElem?_map,List.getElem?_eq_getElem hi];rfl)
 refine ⟨?_,fun p hp => ?_⟩
 ·rcases h.z with ⟨h1,h2⟩ | ⟨g',cap',h1,h2,h3,h4,h5⟩
  ·rw [h1] at hv;cases hv
  ·rw [hv] at h1
   injection h1 with e1 e2 e3
   injection e1 with e1
   injection e1 with e1 _
   subst e1 e2 e3
   refine .inr ⟨g,cap,?_,h2,?_,h4,?_⟩
   ·rw [hv,List.map_set,List.length_set]
   ·rw [List.map_set,List.length_set];exact h3
   ·rw [List.map_set,List.length_set,← List.set_append_left _ _ (by rw [List.length_map];exact hi)]
    exact h5.set i u
 ·rcases List.mem_or_eq_of_mem_set hp with hp | rfl
  ·exact Rd.setNe (h.n p hp) hc (fun _ e => by cases e) u
  ·exact Rd.setNe hu hc (fun _ e => by cases e) u
end
structure RbS (w wr : World) (v5 v8 : Value) (l1 l2 : List NatM) : Prop where
 bel : Below w.heap.size w wr
 res : Row wr w.heap.size 30 [.slice none 0 0]
 r1 : NLi wr (w.heap.size + 1) v5 l1
 r2 : NLi wr (w.heap.size + 1) v8 l2
 ne : ∀ k,v5.ownBlock = some k → v8.ownBlock ≠ some k
section
variable {w wr wr' : World} {v5 v8 : Value} {l1 l2 : List NatM}
theorem RbS.keep (h : RbS w wr v5 v8 l1 l2) (hb : Below wr.heap.size wr wr') : RbS w wr' v5 v8 l1 l2 := ⟨Bel.to h.bel hb,Row.keep h.res hb,h.r1.keep hb,h.r2.keep hb,h.ne⟩
def Young (v5 v8 : Value) (w : World) (b : Nat) : Prop := w.heap.size < b ∧ (∀ k,v5.ownBlock = some k → k < b) ∧ (∀ k,v8.ownBlock = some k → k < b)
theorem RbS.young (h : RbS w wr v5 v8 l1 l2) : Young v5 v8 w wr.heap.size := ⟨h.res.lt,fun k hk => (h.r1.lt k hk).2,fun k hk => (h.r2.lt k hk).2⟩
theorem RbS.far (h : RbS w wr v5 v8 l1 l2) {b x3 x4 : Nat} {x2 : Option Addr} (hb : Young v5 v8 w b) (hc : wr.cell? ⟨b,0,none⟩ = some (.slice x2 x3 x4)) (u : Value) : RbS w (wr.setCell ⟨b,0,none⟩ u) v5 v8 l1 l2 :=
 ⟨Bel.st h.bel (p := ⟨b,0,none⟩) (Nat.le_of_lt hb.1) u,Row.far h.res (p := ⟨b,0,none⟩) (Nat.ne_of_lt hb.1) u,h.r1.far (fun k hk => Nat.ne_of_lt (hb.2.1 k hk)) hc u,h.r2.far (fun k hk => Nat.ne_of_lt (hb.2.2 k hk)) hc u,h.ne⟩
end
set_option maxHeartbeats 16000000 in
set_option maxRecDepth 100000 in
theorem rbox_any (d m : Nat) (w : World) (hd : d ≤ 10) (hm : m ≤ 10) :
  Calls Tryz.prog 124 #[.int .i64 (d : Int),.int .i64 (m : Int)] w (SomeNat (bxP d m) w) := by
 have hR0 : Row (w.alloc (.cells #[.slice none 0 0] 30)) w.heap.size 30 [.slice none 0 0] := Row.newOf _ rfl
 obtain ⟨N,hN⟩ : ∃ N,N = m + 1 := ⟨_,rfl⟩
 have hN0 : (0 : Int) < (N : Int) := by omega
 have hN11 : N ≤ 11 := by omega
 have hmN : (m : Int) < (N : Int) := by omega
 have hm0 : (0 : Int) ≤ (m : Int) := by omega
 have hd10 : (d : Int) ≤ 10 := by omega
 have hm10 : (m : Int) ≤ 10 := by omega
 obtain ⟨P,hP⟩ : ∃ P,P = bxP d m := ⟨_,rfl⟩
 rw [← hP]
 replace hP := hide hP
 replace hN := hide hN
 go_enter Tryz.func124,Tryz.ntmps124
 go_upto_region 1 with (fail)
 obtain ⟨W,hW⟩ : ∃ W,W = w.alloc (.cells #[.slice none 0 0] 30) := ⟨_,rfl⟩
 have bel : Below w.heap.size w W := by rw [hW];exact Bel.al (Below.refl _ _) _
 have rR : Row W w.heap.size 30 [.slice none 0 0] := by rw [hW];exact hR0
 rw [← hW]
 clear hW hR0
 go_wp2
 go_loopg [5,6] N (fun gh t5 t6 wr => ∃ (i : Nat) (a5 : Option Addr) (n5 c5 : Nat) (l : List NatM),gh = N - i ∧ i ≤ N ∧ t5 = .slice a5 n5 c5 ∧ t6 = .int .i64 (i : Int) ∧ Hid (l.length = i) ∧ Hid (l.map (fun p : NatM => p.2) = List.replicate i 0) ∧ NLi wr (w.heap.size + 1) (.slice a5 n5 c5) l ∧ Row wr w.heap.size 30 [.slice none 0 0] ∧ Below w.heap.size w wr)
 case atStart => exact ⟨0,none,0,0,[],rfl,Nat.zero_le _,rfl,rfl,rfl,rfl,NLi.nil _ _,rR,bel⟩
 case round =>
  clear rR bel
  obtain ⟨i,a5,n5,c5,l,hgi,hi,rfl,rfl,hl,e1,hL,rR,bel⟩ := hrel
  replace hgi := hide hgi
  by_cases hiN : i < N
  ·have hiN2 := hide hiN
   have im : (i : Int) ≤ (m : Int) := by have := hN.out;omega
   have hsz : w.heap.size + 1 ≤ wr.heap.size := rR.lt
   clear hiN
   go_wp2_with (first | (with_reducible refine wpList_append_z _ rfl _ _ 77 rfl (w.heap.size + 1) 30 24 Tryz.underlying77 infoNat _ (l.map (fun p : NatM => p.1)) rfl (hL.z.keep (Bel.al (Below.refl _ _) _)) wr.heap.size rfl 30 (.slice none 0 0) (Row.newOf _ rfl) rfl ?_ ?_ ?_ ?_) | fail)
   case refine_1 => rw [List.length_map];have := hl.out;omega
   case refine_2 => rw [List.length_map];have := hl.out;omega
   case refine_3 => first | omega | (simp;omega)
   intro v9 w9 hz9 hg9 hkeep9 hown9
   have hL9 : NLi w9 (w.heap.size + 1) v9 (l ++ [((.slice none 0 0 : Value),0)]) := ⟨by rw [List.map_append];exact hz9,fun p hp => by
    rcases List.mem_append.1 hp with hp | hp
    ·exact hkeep9 _ _ (Rd.alloc (hL.n p hp) _)
    ·obtain rfl := List.mem_singleton.1 hp;exact NV.zero _⟩
   have hne : some w.heap.size ≠ (Value.slice a5 n5 c5).ownBlock := fun he => by have := (hL.lt _ he.symm).1;omega
   have rR9 := Row.grown (Row.alloc rR _) hg9 hne
   have bel9 : Below w.heap.size w w9 := (Bel.al bel _).grown hg9 (by simp;omega) (fun q hq => by have := (hL.lt q hq).1;omega)
   have e9 : Hid ((l ++ [((.slice none 0 0 : Value),0)]).map (fun p : NatM => p.2) = List.replicate (i + 1) 0) := by show _ = _;rw [List.map_append,e1.out,List.replicate_succ'];rfl
   have hl9 : Hid ((l ++ [((.slice none 0 0 : Value),0)]).length = i + 1) := by show _ = _;rw [List.length_append,hl.out];rfl
   obtain ⟨a9,c9,rfl⟩ := hz9.shape
   clear hz9 hg9 hkeep9 hown9 hne hL rR bel e1
   go_wp2
   go_roundg (N - (i + 1))
   case measure => have := hgi.out;have := hiN2.out;omega
   case rel => exact ⟨i + 1,a9,_,c9,_,rfl,by have := hiN2.out;omega,rfl,by go_num,hl9,e9,hL9,rR9,bel9⟩
  ·have hie : i = N := by omega
   have im : ¬ (i : Int) ≤ (m : Int) := by have := hN.out;omega
   replace hl : Hid (l.length = N) := by show _ = _;rw [hl.out,hie]
   replace e1 : Hid (l.map (fun p : NatM => p.2) = List.replicate N 0) := by show _ = _;rw [e1.out,hie]
   replace hie := hide hie
   obtain ⟨g5,c5',hv5,hg5,hg5w,-⟩ := hL.form (by have := hl.out;omega)
   rw [hl.out] at hv5
   injection hv5 with e51 e52 e53
   replace e52 := e52.symm
   subst e51 e52 e53
   have hg5h := hide hg5
   clear hgi hi hiN hg5
   go_wp2_with fail
   refine (ref_of_int 1 _ (by omega) (by omega)).mono ?_
   rintro e w4 ⟨u,rfl,hu,hb4⟩
   obtain ⟨ua,ul,uc,rfl⟩ := Rd.shape hu
   replace rR := Row.keep rR hb4
   replace bel := Bel.to bel hb4
   replace hL := hL.keep hb4
   obtain ⟨x2,x3,x4,c0,-⟩ := hL.get (i := 0) (y := 0) rfl (by rw [e1.out,hN.out];rfl)
   obtain ⟨g',c',hv8,-,-,hrow⟩ := hL.form (by have := hl.out;omega)
   injection hv8 with ev1 ev2 ev3
   clear ev2 ev3
   injection ev1 with ev1
   injection ev1 with ev1 ev4
   clear ev4
   have f0 : w4.frozen? ⟨g5,0,none⟩ = false := by rw [ev1];exact hrow.frozen 0
   have hu : NV w4 (.slice ua ul uc) 1 := hu
   have hL1 := hL.set (i := 0) rfl (by have := hl.out;omega) hu
   have e2 : Hid ((l.set 0 (.slice ua ul uc,1)).map (fun p : NatM => p.2) = (List.range N).map (bxP 0)) := by
    show _ = _
    have h := bx_start m (.slice ua ul uc)
    rw [List.map_set,List.map_replicate] at h
    rw [List.map_set,e1.out,hN.out]
    exact h
   obtain ⟨l0,hl0⟩ : ∃ x,x = l.set 0 ((.slice ua ul uc : Value),1) := ⟨_,rfl⟩
   rw [← hl0] at hL1 e2
   replace rR := Row.far rR (p := ⟨g5,0,none⟩) (by simp only [];have := hg5h.out;omega) (.slice ua ul uc)
   replace bel := Bel.st bel (p := ⟨g5,0,none⟩) (by simp only [];have := hg5h.out;omega) (.slice ua ul uc)
   clear hb4 hu hL hl0 e1 hrow ev1 hl hg5w
   go_upto_region 7 with (fail)
   clear c0 f0
   obtain ⟨w5,hw5⟩ : ∃ X,X = w4.setCell ⟨g5,0,none⟩ (.slice ua ul uc) := ⟨_,rfl⟩
   rw [← hw5] at hL1 rR bel ⊢
   clear hw5
   go_wp2
   go_loopg [5,7] d (fun gh t5 t7 wr => ∃ (k g5 c5 : Nat) (l1 : List NatM),gh = d - k ∧ k ≤ d ∧ t5 = .slice (some ⟨g5,0,none⟩) N c5 ∧ t7 = .int .i64 (k : Int) ∧ Hid (l1.map (fun p : NatM => p.2) = (List.range N).map (bxP k)) ∧ NLi wr (w.heap.size + 1) (.slice (some ⟨g5,0,none⟩) N c5) l1 ∧ Row wr w.heap.size 30 [.slice none 0 0] ∧ Below w.heap.size w wr)
   case atStart => exact ⟨0,g5,c5,l0,rfl,Nat.zero_le _,rfl,rfl,e2,hL1,rR,bel⟩
   case round =>
    clear e2 hL1 rR bel hg5h l0
    obtain ⟨k,g5,c5,l1,hgk,hk,rfl,rfl,e1,hL1,rR,bel⟩ := hrel
    replace hgk := hide hgk
    by_cases hlt : k < d
    ·have hlt2 := hide hlt
     have ki : (k : Int) < (d : Int) := by omega
     have hk9 := hide (show k ≤ 9 by omega)
     clear hlt
     have hS : RbS w wr (.slice (some ⟨g5,0,none⟩) N c5) (.slice none 0 0) l1 [] := ⟨bel,rR,hL1,NLi.nil _ _,fun k _ h => by cases h⟩
     have e2 : Hid (([] : List NatM).map (fun p : NatM => p.2) = (List.range 0).map (bxP (k + 1))) := rfl
     clear hL1 rR bel
     go_wp2
     obtain ⟨wo1,hwo1⟩ : ∃ wo,wo = wr := ⟨_,rfl⟩
     rw [← hwo1] at hS ⊢
     clear hwo1
     go_loopg [8,9] N (fun gh t8 t9 wr => ∃ (i : Nat) (a8 : Option Addr) (n8 c8 : Nat) (l2 : List NatM),gh = N - i ∧ i ≤ N ∧ t8 = .slice a8 n8 c8 ∧ t9 = .int .i64 (i : Int) ∧ Hid (l2.map (fun p : NatM => p.2) = (List.range i).map (bxP (k + 1))) ∧ RbS w wr (.slice (some ⟨g5,0,none⟩) N c5) (.slice a8 n8 c8) l1 l2)
     case atStart => exact ⟨0,none,0,0,[],rfl,Nat.zero_le _,rfl,rfl,e2,hS⟩
     case round =>
      clear e2 hS
      obtain ⟨i,a8,n8,c8,l2,hgi,hi,rfl,rfl,e2,hS⟩ := hrel
      replace hgi := hide hgi
      by_cases hiN : i < N
      ·have hiN2 := hide hiN
       have im : (i : Int) ≤ (m : Int) := by have := hN.out;omega
       have i10 : (i : Int) ≤ 10 := by omega
       have i10' := hide (show i ≤ 10 by omega)
       clear hiN
       go_upto_region 15 with (fail)
       obtain ⟨b10,hb10⟩ : ∃ b,b = wr.heap.size := ⟨_,rfl⟩
       have h10 : Young (.slice (some ⟨g5,0,none⟩) N c5) (.slice a8 n8 c8) w b10 := by rw [hb10];exact hS.young
       obtain ⟨w7,hw7⟩ : ∃ X,X = wr.alloc (.cells #[.slice none 0 0] 30) := ⟨_,rfl⟩
       have b7 : Below wr.heap.size wr w7 := by rw [hw7];exact Bel.al (Below.refl _ _) _
       have r10 : Row w7 b10 30 [.slice none 0 0] := by rw [hw7,hb10];exact Row.newOf _ rfl
       rw [← hw7,← hb10]
       clear hw7 hb10
       replace hS := hS.keep b7
       clear b7
       go_wp2
       go_loopg [11] (i + 1) (fun gh t11 wr => ∃ (j s : Nat) (sa : Option Addr) (sn sc : Nat),gh = i + 1 - j ∧ j ≤ i + 1 ∧ t11 = .int .i64 (j : Int) ∧ Hid (s = sumTo (bxT k i) j) ∧ Row wr b10 30 [.slice sa sn sc] ∧ NV wr (.slice sa sn sc) s ∧ RbS w wr (.slice (some ⟨g5,0,none⟩) N c5) (.slice a8 n8 c8) l1 l2)
       case atStart => exact ⟨0,0,none,0,0,rfl,Nat.zero_le _,rfl,rfl,r10,NV.zero _,hS⟩
       case round =>
        clear r10 hS
        obtain ⟨j,s,sa,sn,sc,hgj,hj,rfl,hs,r10,hsv,hS⟩ := hrel
        replace hgj := hide hgj
        by_cases hjl : j < i + 1
        ·have ji : (j : Int) ≤ (i : Int) := by omega
         have jl2 := hide hjl
         have cC := hide (fun X => rochoose_any (i : Int) (j : Int) X (by omega))
         rw [chZ_nat] at cC
         obtain ⟨q,hq⟩ : ∃ q,q = i - j := ⟨_,rfl⟩
         have a5 : IntKind.i64.wrap ((i : Int) - (j : Int)) = (q : Int) := by rw [IntKind.wrap_i64];omega
         have q0 : (0 : Int) ≤ (q : Int) := by omega
         have qN : (q : Int) < (N : Int) := by have := hiN2.out;omega
         obtain ⟨y,hyd⟩ : ∃ y,y = bxT k i j := ⟨_,rfl⟩
         have hyy : s + choose i j * (choose i j * bxP k q) = s + y := by rw [hyd,hq];unfold bxT;rw [Nat.mul_assoc]
         have hsy : s + y ≤ bxP (k + 1) i := by rw [hs.out,hyd];exact bxT_part (by omega)
         have hs2 : Hid (s + y = sumTo (bxT k i) (j + 1)) := by show _ = _;rw [sumTo,hs.out,hyd]
         have hlim := bxP_limbs (d := k + 1) (m := i) (by have := hk9.out;omega) i10'.out
         have hl1 : (limbs (s + choose i j * (choose i j * bxP k q))).length ≤ 64 := by rw [hyy];have := limbs_len_le hsy;omega
         have hlv : limS [choose i j,choose i j,bxP k q] ≤ 63 := by
          have h1 := ch_limbs (i := i) (j := j) i10'.out
          have h2 := bxP_limbs (d := k) (m := q) (by have := hk9.out;omega) (by have := i10'.out;omega)
          simp [limS]
          omega
         obtain ⟨pa,pl,pc,c5q,hpv⟩ := hS.r1.get (i := q) (y := bxP k q) rfl (by rw [e1.out];exact row_get (by have := hiN2.out;omega))
         have c10 := r10.cell? 0
         simp only [List.getElem?_cons_zero] at c10
         clear hq hyd hsy hlim hs hjl
         go_upto_region 18 with (fail)
         refine till_begin 16 (fun X => X.cell? ⟨b10,0,none⟩ = some (.slice sa sn sc) ∧ X.cell? ⟨g5,q,none⟩ = some (.slice pa pl pc)) (by kernel_rfl) (⟨c10,c5q⟩) (fun hHeld => ?_)
         refine' till_take (i := 0) (oi := _) (v := .agg #[.slice sa sn sc]) rfl (by kernel_rfl) (by kernel_rfl) (by kernel_rfl) (by kernel_rfl) (fun _ _ _ h => h) (Or.inl ⟨by first | (go_simp;done) | rfl,fun X hX => by have h0 := hX.1;go_simp⟩) hHeld ?_
         try simp only [List.getElem_toArray,List.getElem_cons_zero,List.getElem_cons_succ,Act.put,zsA,zsB,zsC]
         refine' till_pure (i := 1) (oi := _) (v := .int .i64 (i : Int)) rfl (by kernel_rfl) (by kernel_rfl) (by kernel_rfl) (by kernel_rfl) (fun _ _ _ h => h) (Or.inl ⟨by first | (go_simp;done) | rfl,fun X _ => by go_simp⟩) hHeld ?_
         try simp only [List.getElem_toArray,List.getElem_cons_zero,List.getElem_cons_succ,Act.put,zsA,zsB,zsC]
         refine' till_pure (i := 2) (oi := _) (v := .int .i64 (j : Int)) rfl (by kernel_rfl) (by kernel_rfl) (by kernel_rfl) (by kernel_rfl) (fun _ _ _ h => h) (Or.inl ⟨by first | (go_simp;done) | rfl,fun X _ => by go_simp⟩) hHeld ?_
         try simp only [List.getElem_toArray,List.getElem_cons_zero,List.getElem_cons_succ,Act.put,zsA,zsB,zsC]
         refine' till_pure (i := 4) (oi := _) (v := .int .i64 (i : Int)) rfl (by kernel_rfl) (by kernel_rfl) (by kernel_rfl) (by kernel_rfl) (fun _ _ _ h => h) (Or.inl ⟨by first | (go_simp;done) | rfl,fun X _ => by go_simp⟩) hHeld ?_
         try simp only [List.getElem_toArray,List.getElem_cons_zero,List.getElem_cons_succ,Act.put,zsA,zsB,zsC]
         refine' till_pure (i := 5) (oi := _) (v := .int .i64 (j : Int)) rfl (by kernel_rfl) (by kernel_rfl) (by kernel_rfl) (by kernel_rfl) (fun _ _ _ h => h) (Or.inl ⟨by first | (go_simp;done) | rfl,fun X _ => by go_simp⟩) hHeld ?_
         try simp only [List.getElem_toArray,List.getElem_cons_zero,List.getElem_cons_succ,Act.put,zsA,zsB,zsC]
         refine' till_pure (i := 7) (oi := _) (v := .slice (some ⟨g5,0,none⟩) N c5) rfl (by kernel_rfl) (by kernel_rfl) (by kernel_rfl) (by kernel_rfl) (fun _ _ _ h => h) (Or.inl ⟨by first | (go_simp;done) | rfl,fun X _ => by go_simp⟩) hHeld ?_
         try simp only [List.getElem_toArray,List.getElem_cons_zero,List.getElem_cons_succ,Act.put,zsA,zsB,zsC]
         refine' till_pure (i := 8) (oi := _) (v := .int .i64 (i : Int)) rfl (by kernel_rfl) (by kernel_rfl) (by kernel_rfl) (by kernel_rfl) (fun _ _ _ h => h) (Or.inl ⟨by first | (go_simp;done) | rfl,fun X _ => by go_simp⟩) hHeld ?_
         try simp only [List.getElem_toArray,List.getElem_cons_zero,List.getElem_cons_succ,Act.put,zsA,zsB,zsC]
         refine' till_pure (i := 9) (oi := _) (v := .int .i64 (j : Int)) rfl (by kernel_rfl) (by kernel_rfl) (by kernel_rfl) (by kernel_rfl) (fun _ _ _ h => h) (Or.inl ⟨by first | (go_simp;done) | rfl,fun X _ => by go_simp⟩) hHeld ?_
         try simp only [List.getElem_toArray,List.getElem_cons_zero,List.getElem_cons_succ,Act.put,zsA,zsB,zsC]
         refine' till_pure (i := 10) (oi := _) (v := .int .i64 (q : Int)) rfl (by kernel_rfl) (by kernel_rfl) (by kernel_rfl) (by kernel_rfl) (fun _ _ _ h => h) (Or.inl ⟨by first | (go_simp;done) | rfl,fun X _ => by go_simp⟩) hHeld ?_
         try simp only [List.getElem_toArray,List.getElem_cons_zero,List.getElem_cons_succ,Act.put,zsA,zsB,zsC]
         refine' till_pure (i := 11) (oi := _) (v := .pointer (some ⟨g5,q,none⟩)) rfl (by kernel_rfl) (by kernel_rfl) (by kernel_rfl) (by kernel_rfl) (fun _ _ _ h => h) (Or.inl ⟨by first | (go_simp;done) | rfl,fun X _ => by go_simp⟩) hHeld ?_
         try simp only [List.getElem_toArray,List.getElem_cons_zero,List.getElem_cons_succ,Act.put,zsA,zsB,zsC]
         refine' till_take (i := 12) (oi := _) (v := .agg #[.slice pa pl pc]) rfl (by kernel_rfl) (by kernel_rfl) (by kernel_rfl) (by kernel_rfl) (fun _ _ _ h => h) (Or.inl ⟨by first | (go_simp;done) | rfl,fun X hX => by have h0 := hX.2;go_simp⟩) hHeld ?_
         try simp only [List.getElem_toArray,List.getElem_cons_zero,List.getElem_cons_succ,Act.put,zsA,zsB,zsC]
         obtain ⟨Y0,hY0⟩ : ∃ Y,Y = wr.drew := ⟨_,rfl⟩
         have hY1 : Below wr.heap.size wr Y0 := by rw [hY0];exact Below.drew (Below.refl _ _)
         replace hS := RbS.keep hS hY1
         replace r10 := Row.keep r10 hY1
         replace hsv := Rd.below hsv hY1
         replace hpv := Rd.below hpv hY1
         rw [← hY0] at hHeld ⊢
         clear hY0 hY1 c10 c5q
         refine till_ready (rs := [3]) (by kernel_rfl) (by simp) ?_
         refine TillReady.cons (o := _) rfl (fun K hK => ?_) TillReady.nil
         go_simp
         refine (cC.out Y0).mono ?_
         rintro e x1_3 ⟨u,rfl,hu,bx1_3⟩
         obtain ⟨ua,ul,uc,rfl⟩ := Rd.shape hu
         replace hS := RbS.keep hS bx1_3
         replace r10 := Row.keep r10 bx1_3
         replace hsv := Rd.below hsv bx1_3
         replace hpv := Rd.below hpv bx1_3
         go_wp2_with fail
         refine hK.out _ _ ⟨Bel.cellOf bx1_3 hHeld.1,Bel.cellOf bx1_3 hHeld.2⟩ (fun hHeld => ?_)
         clear hK K bx1_3
         try simp only [List.getElem_toArray,List.getElem_cons_zero,List.getElem_cons_succ,Act.put,zsA,zsB,zsC]
         refine till_ready (rs := [6]) (by kernel_rfl) (by simp) ?_
         refine TillReady.cons (o := _) rfl (fun K hK => ?_) TillReady.nil
         go_simp
         refine (cC.out x1_3).mono ?_
         rintro e x2_6 ⟨v,rfl,hv,bx2_6⟩
         obtain ⟨va,vl,vc,rfl⟩ := Rd.shape hv
         replace hS := RbS.keep hS bx2_6
         replace r10 := Row.keep r10 bx2_6
         replace hsv := Rd.below hsv bx2_6
         replace hpv := Rd.below hpv bx2_6
         replace hu := Rd.below hu bx2_6
         go_wp2_with fail
         refine hK.out _ _ ⟨Bel.cellOf bx2_6 hHeld.1,Bel.cellOf bx2_6 hHeld.2⟩ (fun hHeld => ?_)
         clear hK K bx2_6
         try simp only [List.getElem_toArray,List.getElem_cons_zero,List.getElem_cons_succ,Act.put,zsA,zsB,zsC]
         refine till_ready (rs := [13]) (by kernel_rfl) (by simp) ?_
         refine TillReady.cons (o := _) rfl (fun K hK => ?_) TillReady.nil
         go_simp
         obtain ⟨x3_13,hx3_13⟩ : ∃ X,X = x2_6.alloc (.cells #[.slice ua ul uc,.slice va vl vc,.slice pa pl pc] 30) := ⟨_,rfl⟩
         have bx3_13 : Below x2_6.heap.size x2_6 x3_13 := by rw [hx3_13];exact Bel.al (Below.refl _ _) _
         have r21 : Row x3_13 x2_6.heap.size 30 ([(.slice ua ul uc,choose i j),(.slice va vl vc,choose i j),(.slice pa pl pc,bxP k q)].map (fun p : NatM => p.1)) := by rw [hx3_13];exact Row.newOf _ rfl
         rw [← hx3_13]
         clear hx3_13
         replace hS := RbS.keep hS bx3_13
         replace r10 := Row.keep r10 bx3_13
         replace hsv := Rd.below hsv bx3_13
         replace hpv := Rd.below hpv bx3_13
         replace hu := Rd.below hu bx3_13
         replace hv := Rd.below hv bx3_13
         have hN := Row.nats (n := 3) r21 rfl (by decide) (fun p hp => by
          simp only [List.mem_cons,List.not_mem_nil,or_false] at hp
          rcases hp with rfl | rfl | rfl
          ·exact hu
          ·exact hv
          ·exact hpv)
         clear r21
         refine hK.out _ _ ⟨Bel.cellOf bx3_13 hHeld.1,Bel.cellOf bx3_13 hHeld.2⟩ (fun hHeld => ?_)
         clear hK K bx3_13
         try simp only [List.getElem_toArray,List.getElem_cons_zero,List.getElem_cons_succ,Act.put,zsA,zsB,zsC]
         refine till_ready (rs := [14]) (by kernel_rfl) (by simp) ?_
         refine TillReady.cons (o := _) rfl (fun K hK => ?_) TillReady.nil
         go_simp
         refine (rprod_any _ _ x3_13 hN hlv (by simp)).mono ?_
         rintro e x4_14 ⟨y,rfl,hy,bx4_14⟩
         obtain ⟨ya,yl,yc,rfl⟩ := Rd.shape hy
         simp only [List.map_cons,List.map_nil,prodL,Nat.mul_one] at hy
         replace hS := RbS.keep hS bx4_14
         replace r10 := Row.keep r10 bx4_14
         replace hsv := Rd.below hsv bx4_14
         replace hpv := Rd.below hpv bx4_14
         replace hu := Rd.below hu bx4_14
         replace hv := Rd.below hv bx4_14
         clear hN
         go_wp2_with fail
         refine hK.out _ _ ⟨Bel.cellOf bx4_14 hHeld.1,Bel.cellOf bx4_14 hHeld.2⟩ (fun hHeld => ?_)
         clear hK K bx4_14
         try simp only [List.getElem_toArray,List.getElem_cons_zero,List.getElem_cons_succ,Act.put,zsA,zsB,zsC]
         refine till_ready (rs := [15]) (by kernel_rfl) (by simp) ?_
         refine TillReady.cons (o := _) rfl (fun K hK => ?_) TillReady.nil
         go_simp
         refine (rsum_any _ _ s (choose i j * (choose i j * bxP k q)) x4_14 hsv hy hl1).mono ?_
         rintro e x5_15 ⟨z,rfl,hz,bx5_15⟩
         obtain ⟨za,zl,zc,rfl⟩ := Rd.shape hz
         replace hS := RbS.keep hS bx5_15
         replace r10 := Row.keep r10 bx5_15
         replace hsv := Rd.below hsv bx5_15
         replace hpv := Rd.below hpv bx5_15
         replace hu := Rd.below hu bx5_15
         replace hv := Rd.below hv bx5_15
         replace hy := Rd.below hy bx5_15
         go_wp2_with fail
         refine hK.out _ _ ⟨Bel.cellOf bx5_15 hHeld.1,Bel.cellOf bx5_15 hHeld.2⟩ (fun hHeld => ?_)
         clear hK K bx5_15
         try simp only [List.getElem_toArray,List.getElem_cons_zero,List.getElem_cons_succ,Act.put,zsA,zsB,zsC]
         have c6 := hHeld.1
         have f6 := r10.frozen 0
         refine till_ready (rs := [16]) (by kernel_rfl) (by simp) ?_
         refine TillReady.last (o := _) rfl (by kernel_rfl) (fun K hK => ?_) TillReady.nil
         go_simp
         refine hK.out _ _ ?_
         clear hK K
         try simp only [List.getElem_toArray,List.getElem_cons_zero,List.getElem_cons_succ,Act.put,zsA,zsB,zsC]
         refine till_done (by kernel_rfl) ?_ _
         go_simp
         have hz2 := Rd.setNe hz c6 (fun _ h => by cases h) (.slice za zl zc)
         have r102 := Row.set r10 0 (.slice za zl zc)
         simp only [zsB] at r102
         have hS2 := hS.far h10 c6 (.slice za zl zc)
         rw [hyy] at hz2
         clear hl1 hz hsv r10 hS c6 f6
         go_wp2
         go_roundg (i + 1 - (j + 1))
         case measure => have := hgj.out;have := jl2.out;omega
         case rel => exact ⟨j + 1,s + y,za,zl,zc,rfl,by have := jl2.out;omega,by go_num,hs2,r102,hz2,hS2⟩
        ·have hjn : j = i + 1 := by omega
         have hji : ¬ (j : Int) ≤ (i : Int) := by omega
         have hsb : s = bxP (k + 1) i := by rw [bxP_sum,← hjn,hs.out]
         rw [hsb] at hsv
         replace hjn := hide hjn
         have c10 := r10.cell? 0
         simp only [List.getElem?_cons_zero] at c10
         have hlen : Hid (l2.length = i) := len_of_snd e2.out (by simp)
         have hsz : w.heap.size + 1 ≤ wr.heap.size := hS.res.lt
         clear hjl hs hsb
         go_wp2_with (first | (with_reducible refine wpList_append_z _ rfl _ _ 77 rfl (w.heap.size + 1) 30 24 Tryz.underlying77 infoNat _ (l2.map (fun p : NatM => p.1)) rfl (hS.r2.z.keep (Bel.al (Below.refl _ _) _)) wr.heap.size rfl 30 (.slice sa sn sc) (Row.newOf _ rfl) rfl ?_ ?_ ?_ ?_) | fail)
         case refine_1 => (try rw [List.length_map]);have := hlen.out;have := i10'.out;omega
         case refine_2 => (try rw [List.length_map]);have := hlen.out;have := i10'.out;omega
         case refine_3 => first | omega | (simp;omega)
         intro v9 w9 hz9 hg9 hkeep9 hown9
         have hL9 : NLi w9 (w.heap.size + 1) v9 (l2 ++ [((.slice sa sn sc : Value),bxP (k + 1) i)]) := ⟨by rw [List.map_append];exact hz9,fun p hp => by
          rcases List.mem_append.1 hp with hp | hp
          ·exact hkeep9 _ _ (Rd.alloc (hS.r2.n p hp) _)
          ·obtain rfl := List.mem_singleton.1 hp;exact hkeep9 _ _ (Rd.alloc hsv _)⟩
         have hne : some w.heap.size ≠ (Value.slice a8 n8 c8).ownBlock := fun he => by have := (hS.r2.lt _ he.symm).1;omega
         have hS9 : RbS w w9 (.slice (some ⟨g5,0,none⟩) N c5) v9 l1 (l2 ++ [((.slice sa sn sc : Value),bxP (k + 1) i)]) := ⟨(Bel.al hS.bel _).grown hg9 (by first | omega | (simp;omega)) (fun q hq => by have := (hS.r2.lt q hq).1;omega),Row.grown (Row.alloc hS.res _) hg9 hne,(hS.r1.keep (Bel.al (Below.refl _ _) _)).grown hg9 (fun k hk => fun he => hS.ne k hk he.symm) hkeep9,hL9,fun k hk he => by
          rcases hown9 with h | h
          ·exact hS.ne k hk (h.symm.trans he)
          ·rw [h] at he;injection he with he;have := (hS.r1.lt k hk).2;(try simp at he);omega⟩
         have e9 : Hid ((l2 ++ [((.slice sa sn sc : Value),bxP (k + 1) i)]).map (fun p : NatM => p.2) = (List.range (i + 1)).map (bxP (k + 1))) := by show _ = _;rw [List.map_append,e2.out,List.range_succ,List.map_append];rfl
         obtain ⟨a9,c9,rfl⟩ := hz9.shape
         clear hz9 hg9 hkeep9 hown9 hne hS e2 hL9 r10 hsv c10
         go_wp2
         go_roundg (N - (i + 1))
         case measure => have := hgi.out;have := hiN2.out;omega
         case rel => exact ⟨i + 1,a9,_,c9,_,rfl,by have := hiN2.out;omega,rfl,by go_num,e9,hS9⟩
      ·obtain rfl : i = N := by omega
       have im : ¬ (i : Int) ≤ (m : Int) := by omega
       have hlen : l2.length = i := len_of_snd e2.out (by simp)
       obtain ⟨g8,c8',hv8,hg8,hg8w,-⟩ := hS.r2.form (by omega)
       rw [hlen] at hv8
       injection hv8 with e81 e82 e83
       replace e82 := e82.symm
       subst e81 e82 e83
       have hr2 := hS.r2
       have hrr := hS.res
       have hbb := hS.bel
       clear hS hlen hg8 hg8w
       go_wp2
       go_roundg (d - (k + 1))
       case measure => have := hgk.out;have := hlt2.out;omega
       case rel => exact ⟨k + 1,g8,c8,l2,rfl,by have := hlt2.out;omega,rfl,by go_num,e2,hr2,hrr,hbb⟩
    ·obtain rfl : k = d := by omega
     obtain ⟨pa,pl,pc,cgp,hpv⟩ := hL1.get (i := m) (y := bxP k m) rfl (by rw [e1.out];exact row_get (by have := hN.out;omega))
     rw [← hP.out] at hpv
     have cR := rR.cell? 0
     have fR := rR.frozen 0
     simp only [List.getElem?_cons_zero] at cR
     have hf := Rd.setNe hpv cR (fun _ h => by cases h) (.slice pa pl pc)
     have belf := Bel.st bel (p := ⟨w.heap.size,0,none⟩) (Nat.le_refl _) (.slice pa pl pc)
     clear hpv e1 hL1
     go_wp2
     exact bodyPost_ret (v := .agg #[(.slice pa pl pc)]) (by simp [results,Tryz.results124,go_sem,cR]) rfl ⟨_,rfl,hf,belf⟩
end Go.Proofs.YtldikghldcefcaaGreat
end
section
set_option linter.unusedVariables false
set_option linter.unusedSimpArgs false
namespace Go.Proofs.YtldikghldcefcaaGreat
def atN (d m a b : Nat) (box : Bool) : Nat := if a + b < m then d ^ (a + b) * ((if box = true then bxP d (m - a - b) else d ^ (2 * (m - a - b))) - d ^ (m - a - b)) else 0
def exN (d m a b : Nat) (box : Bool) : Nat := atN d m a b box + atN d m (a + 1) (b + 1) box - (atN d m (a + 1) b box + atN d m a (b + 1) box)
abbrev agF (a : Nat) (x y : List Nat) : Prop := x.take a = y.take a
abbrev agB (m b : Nat) (x y : List Nat) : Prop := x.drop (m - b) = y.drop (m - b)
theorem atN_count (d m a b : Nat) (box : Bool) : atN d m a b box = cnt2 d m fun x y => (x ≠ y ∧ (box = true → x.Perm y)) ∧ agF a x y ∧ agB m b x y := by
 have h1 := pairsN_count d m ⟨a,b,box⟩
 have h2 := cnt2_split (d := d) (m := m) (meets m ⟨a,b,box⟩) (fun x y => x = y)
 have h3 : cnt2 d m (fun x y => meets m ⟨a,b,box⟩ x y ∧ x = y) = d ^ m := by
  rw [← cnt2_eq]
  exact cnt2_congr fun x y _ _ _ _ => ⟨fun h => h.2,fun h => by subst h;exact ⟨⟨rfl,rfl,fun _ => List.Perm.refl _⟩,rfl⟩⟩
 have h4 : cnt2 d m (fun x y => meets m ⟨a,b,box⟩ x y ∧ ¬ x = y) = cnt2 d m fun x y => (x ≠ y ∧ (box = true → x.Perm y)) ∧ agF a x y ∧ agB m b x y :=
  cnt2_congr fun x y _ _ _ _ => ⟨fun ⟨⟨p,q,r⟩,s⟩ => ⟨⟨s,r⟩,p,q⟩,fun ⟨⟨s,r⟩,p,q⟩ => ⟨⟨p,q,r⟩,s⟩⟩
 rw [h3,h4] at h2
 unfold atN
 unfold pairsN at h1
 simp only [] at h1
 by_cases h : a + b < m
 ·rw [if_pos h]
  rw [Nat.min_eq_right (by omega)] at h1
  have e : d ^ m = d ^ (a + b) * d ^ (m - a - b) := by rw [← Nat.pow_add];congr 1;omega
  rw [Nat.sub_sub] at e
  rw [Nat.mul_sub,Nat.sub_sub,← e]
  omega
 ·rw [if_neg h]
  rw [Nat.min_eq_left (by omega),Nat.sub_self,bxP_zero] at h1
  have : d ^ m * (if box = true then 1 else d ^ (2 * 0)) = d ^ m := by cases box <;> simp
  omega
theorem cnt2_neither {d m : Nat} (P Q R : List Nat → List Nat → Prop) [∀ x y,Decidable (P x y)] [∀ x y,Decidable (Q x y)] [∀ x y,Decidable (R x y)] :
  cnt2 d m P + cnt2 d m (fun x y => P x y ∧ Q x y ∧ R x y) = cnt2 d m (fun x y => P x y ∧ Q x y) + cnt2 d m (fun x y => P x y ∧ R x y) + cnt2 d m (fun x y => P x y ∧ ¬ Q x y ∧ ¬ R x y) := by
 have h1 := cnt2_split (d := d) (m := m) P Q
 have h2 := cnt2_split (d := d) (m := m) (fun x y => P x y ∧ ¬ Q x y) R
 have h3 := cnt2_split (d := d) (m := m) (fun x y => P x y ∧ R x y) Q
 have e1 : cnt2 d m (fun x y => (P x y ∧ ¬ Q x y) ∧ R x y) = cnt2 d m (fun x y => (P x y ∧ R x y) ∧ ¬ Q x y) := cnt2_congr fun x y _ _ _ _ => ⟨fun ⟨⟨p,q⟩,r⟩ => ⟨⟨p,r⟩,q⟩,fun ⟨⟨p,r⟩,q⟩ => ⟨⟨p,q⟩,r⟩⟩
 have e2 : cnt2 d m (fun x y => (P x y ∧ ¬ Q x y) ∧ ¬ R x y) = cnt2 d m (fun x y => P x y ∧ ¬ Q x y ∧ ¬ R x y) := cnt2_congr fun x y _ _ _ _ => ⟨fun ⟨⟨p,q⟩,r⟩ => ⟨p,q,r⟩,fun ⟨p,q,r⟩ => ⟨⟨p,q⟩,r⟩⟩
 have e3 : cnt2 d m (fun x y => (P x y ∧ R x y) ∧ Q x y) = cnt2 d m (fun x y => P x y ∧ Q x y ∧ R x y) := cnt2_congr fun x y _ _ _ _ => ⟨fun ⟨⟨p,q⟩,r⟩ => ⟨p,r,q⟩,fun ⟨p,q,r⟩ => ⟨⟨p,r⟩,q⟩⟩
 rw [e1,e2] at h2
 rw [e3] at h3
 omega
abbrev exX (m a b : Nat) (x y : List Nat) : Prop := agF a x y ∧ agB m b x y ∧ ¬ agF (a + 1) x y ∧ ¬ agB m (b + 1) x y
theorem exN_count (d m a b : Nat) (box : Bool) : atN d m (a + 1) b box + atN d m a (b + 1) box ≤ atN d m a b box + atN d m (a + 1) (b + 1) box ∧ exN d m a b box = cnt2 d m fun x y => (x ≠ y ∧ (box = true → x.Perm y)) ∧ exX m a b x y := by
 have h := cnt2_neither (d := d) (m := m) (fun x y => (x ≠ y ∧ (box = true → x.Perm y)) ∧ agF a x y ∧ agB m b x y) (agF (a + 1)) (agB m (b + 1))
 have up : ∀ {x y : List Nat},agF (a + 1) x y → agF a x y := fun h => take_le (by omega) h
 have ub : ∀ {x y : List Nat},agB m (b + 1) x y → agB m b x y := fun h => drop_le (by omega) h
 have e1 : cnt2 d m (fun x y => ((x ≠ y ∧ (box = true → x.Perm y)) ∧ agF a x y ∧ agB m b x y) ∧ agF (a + 1) x y ∧ agB m (b + 1) x y) = atN d m (a + 1) (b + 1) box := by
  rw [atN_count]
  exact cnt2_congr fun x y _ _ _ _ => ⟨fun ⟨⟨p,_,_⟩,q,r⟩ => ⟨p,q,r⟩,fun ⟨p,q,r⟩ => ⟨⟨p,up q,ub r⟩,q,r⟩⟩
 have e2 : cnt2 d m (fun x y => ((x ≠ y ∧ (box = true → x.Perm y)) ∧ agF a x y ∧ agB m b x y) ∧ agF (a + 1) x y) = atN d m (a + 1) b box := by
  rw [atN_count]
  exact cnt2_congr fun x y _ _ _ _ => ⟨fun ⟨⟨p,_,r⟩,q⟩ => ⟨p,q,r⟩,fun ⟨p,q,r⟩ => ⟨⟨p,up q,r⟩,q⟩⟩
 have e3 : cnt2 d m (fun x y => ((x ≠ y ∧ (box = true → x.Perm y)) ∧ agF a x y ∧ agB m b x y) ∧ agB m (b + 1) x y) = atN d m a (b + 1) box := by
  rw [atN_count]
  exact cnt2_congr fun x y _ _ _ _ => ⟨fun ⟨⟨p,q,_⟩,r⟩ => ⟨p,q,r⟩,fun ⟨p,q,r⟩ => ⟨⟨p,q,ub r⟩,r⟩⟩
 have e4 : cnt2 d m (fun x y => ((x ≠ y ∧ (box = true → x.Perm y)) ∧ agF a x y ∧ agB m b x y) ∧ ¬ agF (a + 1) x y ∧ ¬ agB m (b + 1) x y) = cnt2 d m fun x y => (x ≠ y ∧ (box = true → x.Perm y)) ∧ exX m a b x y :=
  cnt2_congr fun x y _ _ _ _ => ⟨fun ⟨⟨p,q,r⟩,s,t⟩ => ⟨p,q,r,s,t⟩,fun ⟨p,q,r,s,t⟩ => ⟨⟨p,q,r⟩,s,t⟩⟩
 rw [← atN_count,e1,e2,e3,e4] at h
 unfold exN
 omega
theorem first_diff {x y : List Nat} (hl : x.length = y.length) (h : x ≠ y) : ∃ a,a < x.length ∧ x.take a = y.take a ∧ x.take (a + 1) ≠ y.take (a + 1) := by
 induction x generalizing y with
 | nil => cases y with
  | nil => exact absurd rfl h
  | cons _ _ => cases hl
 | cons c x ih =>
  cases y with
  | nil => cases hl
  | cons e y =>
   by_cases hc : c = e
   ·subst hc
    obtain ⟨a,h1,h2,h3⟩ := ih (y := y) (by simpa using hl) (fun e => h (by rw [e]))
    exact ⟨a + 1,by simp;omega,by simp [h2],by simpa using h3⟩
   ·exact ⟨0,by simp,rfl,by simpa using hc⟩
theorem last_diff {m : Nat} {x y : List Nat} (hx : x.length = m) (hy : y.length = m) (h : x ≠ y) : ∃ b,b < m ∧ agB m b x y ∧ ¬ agB m (b + 1) x y := by
 obtain ⟨b,h1,h2,h3⟩ := first_diff (x := x.reverse) (y := y.reverse) (by simp [hx,hy]) (fun e => h (List.reverse_inj.1 e))
 rw [List.length_reverse,hx] at h1
 rw [List.take_reverse,List.take_reverse,hx,hy] at h2 h3
 exact ⟨b,h1,List.reverse_inj.1 h2,fun e => h3 (by rw [e])⟩
theorem ex_unique {m a b a' b' : Nat} {x y : List Nat} (h : exX m a b x y) (h' : exX m a' b' x y) : a = a' ∧ b = b' := by
 obtain ⟨h1,h2,h3,h4⟩ := h
 obtain ⟨k1,k2,k3,k4⟩ := h'
 constructor
 ·rcases Nat.lt_trichotomy a a' with e | e | e
  ·exact absurd (take_le e k1) h3
  ·exact e
  ·exact absurd (take_le e h1) k3
 ·rcases Nat.lt_trichotomy b b' with e | e | e
  ·exact absurd (drop_le (by omega) k2) h4
  ·exact e
  ·exact absurd (drop_le (by omega) h2) k4
theorem ex_exists {m : Nat} {x y : List Nat} (hx : x.length = m) (hy : y.length = m) (h : x ≠ y) : ∃ a b,a < m ∧ b < m - a ∧ exX m a b x y := by
 obtain ⟨a,h1,h2,h3⟩ := first_diff (hx.trans hy.symm) h
 obtain ⟨b,k1,k2,k3⟩ := last_diff hx hy h
 refine ⟨a,b,by omega,?_,h2,k2,h3,k3⟩
 have : ¬ m ≤ a + b := fun hm => h (agree_all hx hy hm h2 k2)
 omega
theorem ex_sum (d m : Nat) (P : List Nat → List Nat → Prop) [∀ x y,Decidable (P x y)] : sumTo (fun a => sumTo (fun b => cnt2 d m fun x y => (x ≠ y ∧ exX m a b x y) ∧ P x y) (m - a)) m = cnt2 d m fun x y => x ≠ y ∧ P x y := by
 unfold cnt2
 have e1 : ∀ a,sumTo (fun b => sumD d m fun x => sumD d m fun y => if (x ≠ y ∧ exX m a b x y) ∧ P x y then 1 else 0) (m - a) = sumD d m fun x => sumD d m fun y => sumTo (fun b => if (x ≠ y ∧ exX m a b x y) ∧ P x y then 1 else 0) (m - a) := by
  intro a
  rw [← sumD_sumTo]
  exact sumD_congr fun x _ _ => (sumD_sumTo _ _ _ _).symm
 rw [sumTo_congr fun a _ => e1 a,← sumD_sumTo]
 refine sumD_congr fun x hx _ => ?_
 rw [← sumD_sumTo]
 refine sumD_congr fun y hy _ => ?_
 by_cases h : x ≠ y ∧ P x y
 ·rw [if_pos h]
  obtain ⟨a,b,ha,hb,hX⟩ := ex_exists hx hy h.1
  rw [sumTo_one ha,sumTo_one hb,if_pos ⟨⟨h.1,hX⟩,h.2⟩]
  ·intro k hk hne
   rw [if_neg]
   rintro ⟨⟨_,hY⟩,_⟩
   exact hne (ex_unique hY hX).2
  ·intro k hk hne
   rw [sumTo_congr (g := fun _ => 0),sumTo_zero]
   intro j hj
   rw [if_neg]
   rintro ⟨⟨_,hY⟩,_⟩
   exact hne (ex_unique hY hX).1
 ·rw [if_neg h,sumTo_congr (g := fun _ => 0),sumTo_zero]
  intro a ha
  rw [sumTo_congr (g := fun _ => 0),sumTo_zero]
  intro b hb
  rw [if_neg]
  rintro ⟨⟨h1,_⟩,h2⟩
  exact h ⟨h1,h2⟩
def metC (c : CondD) (a b : Nat) (box equal : Bool) : Bool := equal || decide (0 < c.front ∧ c.front ≤ a) || decide (0 < c.back ∧ c.back ≤ b) || (c.box && box)
def firstR (C : List CondD) (a b : Nat) (box equal : Bool) : Nat := C.findIdx fun c => metC c a b box equal
def winR (d m : Nat) (C : List CondD) (t : Nat) : Nat :=
 (if firstR C 0 0 true true = t then d ^ m else 0) + sumTo (fun a => sumTo (fun b => (if firstR C a b true false = t then exN d m a b true else 0) + (if firstR C a b false false = t then exN d m a b false - exN d m a b true else 0)) (m - a)) m
theorem met_meets {m a b : Nat} {c : CondD} (hc : singleC c) {x y : List Nat} (hx : x.length = m) (hy : y.length = m) (h : exX m a b x y) : metC c a b (decide (x.Perm y)) false = decide (meets m c x y) := by
 obtain ⟨f,k,o⟩ := c
 obtain ⟨h1,h2,h3,h4⟩ := h
 have d0 : x.drop m = y.drop m := by rw [List.drop_eq_nil_of_le (by omega),List.drop_eq_nil_of_le (by omega)]
 unfold singleC at hc
 simp only [] at hc
 unfold metC meets
 simp only []
 rcases hc with ⟨h,rfl,rfl⟩ | ⟨rfl,h,rfl⟩ | ⟨rfl,rfl,rfl⟩
 ·simp [h,d0]
  constructor
  ·exact fun e => take_le e h1
  ·intro e
   apply Nat.le_of_not_lt
   intro e2
   exact h3 (take_le e2 e)
 ·simp [h]
  constructor
  ·exact fun e => drop_le (by omega) h2
  ·intro e
   apply Nat.le_of_not_lt
   intro e2
   exact h4 (drop_le (by omega) e)
 ·simp [d0]
theorem findIdx_congr {α : Type} {p q : α → Bool} {l : List α} (h : ∀ c ∈ l,p c = q c) : l.findIdx p = l.findIdx q := by
 induction l with
 | nil => rfl
 | cons c l ih =>
  rw [List.findIdx_cons,List.findIdx_cons,h c List.mem_cons_self,ih fun e he => h e (List.mem_cons_of_mem _ he)]
theorem winR_win2 {d m : Nat} {C : List CondD} (hC : ∀ c ∈ C,singleC c) (t : Nat) : winR d m C t = win2 d m C t := by
 unfold winR win2
 rw [cnt2_split (d := d) (m := m) (fun x y => C.findIdx (fun c => decide (meets m c x y)) = t) (fun x y => x = y)]
 congr 1
 ·have e : cnt2 d m (fun x y => C.findIdx (fun c => decide (meets m c x y)) = t ∧ x = y) = cnt2 d m (fun x y => x = y ∧ firstR C 0 0 true true = t) := by
   refine cnt2_congr fun x y _ _ _ _ => ?_
   have key : ∀ x : List Nat,C.findIdx (fun c => decide (meets m c x x)) = firstR C 0 0 true true := fun x => findIdx_congr fun c _ => by simp [meets,metC]
   constructor
   ·rintro ⟨h,rfl⟩;exact ⟨rfl,by rw [← key x];exact h⟩
   ·rintro ⟨rfl,h⟩;exact ⟨by rw [key x];exact h,rfl⟩
  rw [e]
  by_cases h : firstR C 0 0 true true = t
  ·rw [if_pos h,← cnt2_eq];exact cnt2_congr fun x y _ _ _ _ => by simp [h]
  ·rw [if_neg h]
   have e2 : cnt2 d m (fun x y => x = y ∧ firstR C 0 0 true true = t) = cnt2 d m (fun _ _ => False) := cnt2_congr fun x y _ _ _ _ => by simp [h]
   rw [e2]
   unfold cnt2
   simp [sumD_zero]
 ·have e : cnt2 d m (fun x y => C.findIdx (fun c => decide (meets m c x y)) = t ∧ ¬ x = y) = cnt2 d m (fun x y => x ≠ y ∧ C.findIdx (fun c => decide (meets m c x y)) = t) := cnt2_congr fun x y _ _ _ _ => And.comm
  rw [e,← ex_sum]
  refine sumTo_congr fun a ha => sumTo_congr fun b hb => ?_
  have h1 := (exN_count d m a b true).2
  have h2 := (exN_count d m a b false).2
  have h3 := cnt2_split (d := d) (m := m) (fun x y => (x ≠ y ∧ (false = true → x.Perm y)) ∧ exX m a b x y) (fun x y => x.Perm y)
  have h4 : cnt2 d m (fun x y => ((x ≠ y ∧ (false = true → x.Perm y)) ∧ exX m a b x y) ∧ x.Perm y) = exN d m a b true := by
   rw [h1]
   exact cnt2_congr fun x y _ _ _ _ => ⟨fun ⟨⟨⟨p,_⟩,q⟩,r⟩ => ⟨⟨p,fun _ => r⟩,q⟩,fun ⟨⟨p,r⟩,q⟩ => ⟨⟨⟨p,fun h => by cases h⟩,q⟩,r rfl⟩⟩
  rw [h4,← h2] at h3
  have h5 : exN d m a b false - exN d m a b true = cnt2 d m (fun x y => ((x ≠ y ∧ (false = true → x.Perm y)) ∧ exX m a b x y) ∧ ¬ x.Perm y) := by omega
  rw [h5,h1,cnt2_split (d := d) (m := m) (fun x y => (x ≠ y ∧ exX m a b x y) ∧ C.findIdx (fun c => decide (meets m c x y)) = t) (fun x y => x.Perm y)]
  congr 1
  ·by_cases h : firstR C a b true false = t
   ·rw [if_pos h]
    refine cnt2_congr fun x y hx hy _ _ => ?_
    constructor
    ·rintro ⟨⟨p,r⟩,q⟩
     refine ⟨⟨⟨p,q⟩,?_⟩,r rfl⟩
     rw [← h]
     exact findIdx_congr fun c hc => by rw [← met_meets (hC c hc) hx hy q,decide_eq_true (r rfl)]
    ·rintro ⟨⟨⟨p,q⟩,_⟩,r⟩
     exact ⟨⟨p,fun _ => r⟩,q⟩
   ·rw [if_neg h]
    have e2 : cnt2 d m (fun x y => ((x ≠ y ∧ exX m a b x y) ∧ C.findIdx (fun c => decide (meets m c x y)) = t) ∧ x.Perm y) = cnt2 d m (fun _ _ => False) := by
     refine cnt2_congr fun x y hx hy _ _ => ⟨?_,fun h => h.elim⟩
     rintro ⟨⟨⟨p,q⟩,e⟩,r⟩
     apply h
     rw [← e]
     exact findIdx_congr fun c hc => by rw [← met_meets (hC c hc) hx hy q,decide_eq_true r]
    rw [e2]
    unfold cnt2
    simp [sumD_zero]
  ·by_cases h : firstR C a b false false = t
   ·rw [if_pos h]
    refine cnt2_congr fun x y hx hy _ _ => ?_
    constructor
    ·rintro ⟨⟨⟨p,_⟩,q⟩,r⟩
     refine ⟨⟨⟨p,q⟩,?_⟩,r⟩
     rw [← h]
     exact findIdx_congr fun c hc => by rw [← met_meets (hC c hc) hx hy q,decide_eq_false r]
    ·rintro ⟨⟨⟨p,q⟩,_⟩,r⟩
     exact ⟨⟨⟨p,fun h => by cases h⟩,q⟩,r⟩
   ·rw [if_neg h]
    have e2 : cnt2 d m (fun x y => ((x ≠ y ∧ exX m a b x y) ∧ C.findIdx (fun c => decide (meets m c x y)) = t) ∧ ¬ x.Perm y) = cnt2 d m (fun _ _ => False) := by
     refine cnt2_congr fun x y hx hy _ _ => ⟨?_,fun h => h.elim⟩
     rintro ⟨⟨⟨p,q⟩,e⟩,r⟩
     apply h
     rw [← e]
     exact findIdx_congr fun c hc => by rw [← met_meets (hC c hc) hx hy q,decide_eq_false r]
    rw [e2]
    unfold cnt2
    simp [sumD_zero]
end Go.Proofs.YtldikghldcefcaaGreat
end
section
set_option linter.unusedVariables false
set_option linter.unusedSimpArgs false
namespace Go.Proofs.YtldikghldcefcaaGreat
open Go.RowKit
theorem pow_le_bxP (d n : Nat) : d ^ n ≤ bxP d n := by
 rw [bxP_count,← cnt2_eq]
 have h := cnt2_split (d := d) (m := n) (fun x y => x.Perm y) (fun x y => x = y)
 have e : cnt2 d n (fun x y => x.Perm y ∧ x = y) = cnt2 d n (fun x y => x = y) := cnt2_congr fun x y _ _ _ _ => ⟨fun h => h.2,fun h => by subst h;exact ⟨List.Perm.refl _,rfl⟩⟩
 omega
set_option maxHeartbeats 8000000 in
set_option maxRecDepth 100000 in
theorem ratl_any (g : GameD) (av tv : Value) (ms : List AddonM) (d m a b : Nat) (box : Bool) (w : World) (hr : GameR w av tv ms g) (hm0 : g.main = (m : Int)) (hd0 : g.of = (d : Int)) (hm10 : m ≤ 10) (hd10 : d ≤ 10) (hd1 : 1 ≤ d) (ha : a ≤ 20) (hb : b ≤ 20) :
  Calls Tryz.prog 103 #[gameVal g av tv,.int .i64 (a : Int),.int .i64 (b : Int),.bool box] w (SomeNat (atN d m a b box) w) := by
 obtain ⟨PP,hP⟩ : ∃ P,P = atN d m a b box := ⟨_,rfl⟩
 rw [← hP]
 unfold atN at hP
 have hm := hide hm0
 have hd := hide hd0
 clear hm0 hd0
 obtain ⟨aa,ac,rfl,hal,ham⟩ := hr.1.1.shape
 obtain ⟨ta,tc,rfl,htl,htm⟩ := hr.2.2.shape
 obtain ⟨an,han⟩ : ∃ an,an = ms.length := ⟨_,rfl⟩
 obtain ⟨tn,htn⟩ : ∃ tn,tn = g.tiers.length := ⟨_,rfl⟩
 rw [← han,← htn]
 clear hr hal htl ham htm han htn
 unfold gameVal
 go_enter Tryz.func103,Tryz.ntmps103
 go_upto_region 1 with (fail)
 obtain ⟨W,hW⟩ : ∃ W,W = (w.alloc (Obj.cells #[.string g.name,.int .i64 g.kind,.int .i64 g.price,.int .i64 g.main,.int .i64 g.of,.int .i64 g.bonus,.int .i64 g.bonusOf,.int .i64 g.extra,.int .i64 g.draws,.int .i64 g.system,.int .i64 g.days,.int .i64 g.at_,.int .i64 g.close,.int .i64 g.cancel,.int .i64 g.expiry,.int .i64 g.pool,.int .i64 g.reserve,.int .i64 g.round,.int .i64 g.cap,.int .i64 g.rolls,(.slice aa an ac),(.slice ta tn tc)] 25)).alloc (Obj.cells #[.slice none 0 0] 30) := ⟨_,rfl⟩
 have bel : Below w.heap.size w W := by rw [hW];exact Bel.al (Bel.al (Below.refl _ _) _) _
 have rg : GameAt W w.heap.size g (.slice aa an ac) (.slice ta tn tc) := by rw [hW];exact Row.alloc (Row.new _ _ _) _
 have rR : Row W (w.heap.size + 1) 30 [.slice none 0 0] := by rw [hW];exact Row.at2 _ _ _ _
 rw [← hW]
 clear hW
 have cm := rg.main
 rw [hm.out] at cm
 have w1 : IntKind.i64.wrap ((m : Int) - (a : Int)) = (m : Int) - (a : Int) := by rw [IntKind.wrap_i64];omega
 have w2 : IntKind.i64.wrap ((m : Int) - (a : Int) - (b : Int)) = (m : Int) - (a : Int) - (b : Int) := by rw [IntKind.wrap_i64];omega
 by_cases hab : a + b < m
 rotate_left
 ·rw [if_neg hab] at hP
  subst hP
  have h1 : (m : Int) - (a : Int) - (b : Int) < 1 := by omega
  have cR := rR.cell? 0
  have fR := rR.frozen 0
  simp only [List.getElem?_cons_zero] at cR
  have hf := Rd.setNe (NV.zero W) cR (fun _ h => by cases h) (.slice none 0 0)
  have belf := Bel.st bel (p := ⟨w.heap.size + 1,0,none⟩) (by simp only [];omega) (.slice none 0 0)
  go_wp2
  exact bodyPost_ret (v := .agg #[(.slice none 0 0)]) (by simp [results,Tryz.results103,go_sem,cR]) rfl ⟨_,rfl,hf,belf⟩
 ·rw [if_pos hab] at hP
  obtain ⟨n,hn⟩ : ∃ n,n = m - a - b := ⟨_,rfl⟩
  obtain ⟨s,hs⟩ : ∃ s,s = a + b := ⟨_,rfl⟩
  obtain ⟨n2,hn2⟩ : ∃ n2,n2 = 2 * n := ⟨_,rfl⟩
  rw [← hn,← hs,← hn2] at hP
  replace hP := hide hP
  have w3 : IntKind.i64.wrap ((m : Int) - (a : Int) - (b : Int)) = (n : Int) := by rw [w2];omega
  have w4 : IntKind.i64.wrap (2 * (n : Int)) = (n2 : Int) := by rw [IntKind.wrap_i64];omega
  have w5 : IntKind.i64.wrap ((a : Int) + (b : Int)) = (s : Int) := by rw [IntKind.wrap_i64];omega
  have h1 : ¬ (n : Int) < 1 := by omega
  have hn20 := hide (show n ≤ 60 by omega)
  have hs20 := hide (show s ≤ 60 by omega)
  have hs20' := hide (show s ≤ 20 by omega)
  have hn2' := hide (show n2 ≤ 20 by omega)
  have hn10 := hide (show n ≤ 10 by omega)
  have hn22 := hide hn2
  replace hd10 := hide hd10
  replace hd1 := hide hd1
  have cW := hide (fun (k : Nat) X (hk : k ≤ 60) => rpow_any d k X (by have := hd10.out;omega) hk)
  have co := rg.of
  rw [hd.out] at co
  clear w2 hab hn hs hn2 ha hb hm10
  go_wp2_with fail
  refine (cW.out n2 _ (by have := hn2'.out;omega)).mono ?_
  rintro e w2 ⟨u,rfl,hq,hb2⟩
  obtain ⟨qa,ql,qc,rfl⟩ := Rd.shape hq
  replace rg := rg.keep hb2
  replace rR := Row.keep rR hb2
  replace bel := Bel.to bel hb2
  clear hb2 cm co
  go_upto_region 5 with (fail)
  obtain ⟨b10,hb10⟩ : ∃ b,b = w2.heap.size := ⟨_,rfl⟩
  have hRb : w.heap.size + 1 < b10 := by have := rR.lt;omega
  obtain ⟨w3,hw3⟩ : ∃ X,X = w2.alloc (.cells #[.slice qa ql qc] 30) := ⟨_,rfl⟩
  have b3 : Below w2.heap.size w2 w3 := by rw [hw3];exact Bel.al (Below.refl _ _) _
  have r10 : Row w3 b10 30 [.slice qa ql qc] := by rw [hw3,hb10];exact Row.newOf _ rfl
  rw [← hw3,← hb10]
  clear hw3 hb10
  replace rg := rg.keep b3
  replace rR := Row.keep rR b3
  replace bel := Bel.to bel b3
  replace hq := Rd.below hq b3
  clear b3
  cases box
  ·obtain ⟨A,hA⟩ : ∃ A,A = d ^ n2 := ⟨_,rfl⟩
   rw [← hA] at hq
   have hA3 : Hid ((limbs A).length ≤ 3) := by show _ ≤ _;rw [hA];exact pow_limbs hd10.out hn2'.out
   have hle : Hid (d ^ n ≤ A) := by show _ ≤ _;rw [hA,hn22.out];exact Nat.pow_le_pow_right hd1.out (by omega)
   have hPP : Hid (d ^ s * (A - d ^ n) = PP) := by show _ = _;rw [hP.out,hA,if_neg (by decide)]
   clear hA
   have hlv : Hid (limS [d ^ s,A - d ^ n] ≤ 63) := by
    have h1 := limbs_len_le (Nat.sub_le A (d ^ n))
    have h2 := hA3.out
    have h3 := pow_limbs (d := d) (n := s) hd10.out hs20'.out
    show _ ≤ _
    simp [limS]
    omega
   have hlA : Hid ((limbs A).length ≤ 64) := by have := hA3.out;show _ ≤ _;omega
   have c4 := rg.of
   rw [hd.out] at c4
   have c10 := r10.cell? 0
   simp only [List.getElem?_cons_zero] at c10
   clear hA3
   go_upto_region 7 with (fail)
   refine till_begin 14 (fun X => X.cell? ⟨w.heap.size,4,none⟩ = some (.int .i64 (d : Int)) ∧ X.cell? ⟨b10,0,none⟩ = some (.slice qa ql qc)) (by kernel_rfl) (⟨c4,c10⟩) (fun hHeld => ?_)
   refine' till_pure (i := 0) (oi := _) (v := .pointer (some ⟨w.heap.size,4,none⟩)) rfl (by kernel_rfl) (by kernel_rfl) (by kernel_rfl) (by kernel_rfl) (fun _ _ _ h => h) (Or.inl ⟨by first | (go_simp;done) | rfl,fun X _ => by go_simp⟩) hHeld ?_
   try simp only [List.getElem_toArray,List.getElem_cons_zero,List.getElem_cons_succ,Act.put,zsA,zsB,zsC]
   refine' till_take (i := 1) (oi := _) (v := .int .i64 (d : Int)) rfl (by kernel_rfl) (by kernel_rfl) (by kernel_rfl) (by kernel_rfl) (fun _ _ _ h => h) (Or.inl ⟨by first | (go_simp;done) | rfl,fun X hX => by have h0 := hX.1;go_simp⟩) hHeld ?_
   try simp only [List.getElem_toArray,List.getElem_cons_zero,List.getElem_cons_succ,Act.put,zsA,zsB,zsC]
   refine' till_pure (i := 2) (oi := _) (v := .int .i64 (a : Int)) rfl (by kernel_rfl) (by kernel_rfl) (by kernel_rfl) (by kernel_rfl) (fun _ _ _ h => h) (Or.inl ⟨by first | (go_simp;done) | rfl,fun X _ => by go_simp⟩) hHeld ?_
   try simp only [List.getElem_toArray,List.getElem_cons_zero,List.getElem_cons_succ,Act.put,zsA,zsB,zsC]
   refine' till_pure (i := 3) (oi := _) (v := .int .i64 (b : Int)) rfl (by kernel_rfl) (by kernel_rfl) (by kernel_rfl) (by kernel_rfl) (fun _ _ _ h => h) (Or.inl ⟨by first | (go_simp;done) | rfl,fun X _ => by go_simp⟩) hHeld ?_
   try simp only [List.getElem_toArray,List.getElem_cons_zero,List.getElem_cons_succ,Act.put,zsA,zsB,zsC]
   refine' till_pure (i := 4) (oi := _) (v := .int .i64 (s : Int)) rfl (by kernel_rfl) (by kernel_rfl) (by kernel_rfl) (by kernel_rfl) (fun _ _ _ h => h) (Or.inl ⟨by first | (go_simp;done) | rfl,fun X _ => by go_simp⟩) hHeld ?_
   try simp only [List.getElem_toArray,List.getElem_cons_zero,List.getElem_cons_succ,Act.put,zsA,zsB,zsC]
   refine' till_take (i := 6) (oi := _) (v := .agg #[.slice qa ql qc]) rfl (by kernel_rfl) (by kernel_rfl) (by kernel_rfl) (by kernel_rfl) (fun _ _ _ h => h) (Or.inl ⟨by first | (go_simp;done) | rfl,fun X hX => by have h0 := hX.2;go_simp⟩) hHeld ?_
   try simp only [List.getElem_toArray,List.getElem_cons_zero,List.getElem_cons_succ,Act.put,zsA,zsB,zsC]
   refine' till_pure (i := 7) (oi := _) (v := .pointer (some ⟨w.heap.size,4,none⟩)) rfl (by kernel_rfl) (by kernel_rfl) (by kernel_rfl) (by kernel_rfl) (fun _ _ _ h => h) (Or.inl ⟨by first | (go_simp;done) | rfl,fun X _ => by go_simp⟩) hHeld ?_
   try simp only [List.getElem_toArray,List.getElem_cons_zero,List.getElem_cons_succ,Act.put,zsA,zsB,zsC]
   refine' till_take (i := 8) (oi := _) (v := .int .i64 (d : Int)) rfl (by kernel_rfl) (by kernel_rfl) (by kernel_rfl) (by kernel_rfl) (fun _ _ _ h => h) (Or.inl ⟨by first | (go_simp;done) | rfl,fun X hX => by have h0 := hX.1;go_simp⟩) hHeld ?_
   try simp only [List.getElem_toArray,List.getElem_cons_zero,List.getElem_cons_succ,Act.put,zsA,zsB,zsC]
   refine' till_pure (i := 9) (oi := _) (v := .int .i64 (n : Int)) rfl (by kernel_rfl) (by kernel_rfl) (by kernel_rfl) (by kernel_rfl) (fun _ _ _ h => h) (Or.inl ⟨by first | (go_simp;done) | rfl,fun X _ => by go_simp⟩) hHeld ?_
   try simp only [List.getElem_toArray,List.getElem_cons_zero,List.getElem_cons_succ,Act.put,zsA,zsB,zsC]
   obtain ⟨Y0,hY0⟩ : ∃ Y,Y = w3.drew := ⟨_,rfl⟩
   have hY1 : Below w3.heap.size w3 Y0 := by rw [hY0];exact Below.drew (Below.refl _ _)
   replace rR := Row.keep rR hY1
   replace bel := Bel.to bel hY1
   replace hq := Rd.below hq hY1
   rw [← hY0] at hHeld ⊢
   clear hY0 hY1 c4 c10
   refine till_ready (rs := [5]) (by kernel_rfl) (by simp) ?_
   refine TillReady.cons (o := _) rfl (fun K hK => ?_) TillReady.nil
   go_simp
   refine (cW.out s Y0 hs20.out).mono ?_
   rintro e x1_5 ⟨u,rfl,hu,bx1_5⟩
   obtain ⟨ua,ul,uc,rfl⟩ := Rd.shape hu
   replace rR := Row.keep rR bx1_5
   replace bel := Bel.to bel bx1_5
   replace hq := Rd.below hq bx1_5
   go_wp2_with fail
   refine hK.out _ _ ⟨Bel.cellOf bx1_5 hHeld.1,Bel.cellOf bx1_5 hHeld.2⟩ (fun hHeld => ?_)
   clear hK K bx1_5
   try simp only [List.getElem_toArray,List.getElem_cons_zero,List.getElem_cons_succ,Act.put,zsA,zsB,zsC]
   refine till_ready (rs := [10]) (by kernel_rfl) (by simp) ?_
   refine TillReady.cons (o := _) rfl (fun K hK => ?_) TillReady.nil
   go_simp
   refine (cW.out n x1_5 hn20.out).mono ?_
   rintro e x2_10 ⟨v,rfl,hv,bx2_10⟩
   obtain ⟨va,vl,vc,rfl⟩ := Rd.shape hv
   replace rR := Row.keep rR bx2_10
   replace bel := Bel.to bel bx2_10
   replace hq := Rd.below hq bx2_10
   replace hu := Rd.below hu bx2_10
   go_wp2_with fail
   refine hK.out _ _ ⟨Bel.cellOf bx2_10 hHeld.1,Bel.cellOf bx2_10 hHeld.2⟩ (fun hHeld => ?_)
   clear hK K bx2_10
   try simp only [List.getElem_toArray,List.getElem_cons_zero,List.getElem_cons_succ,Act.put,zsA,zsB,zsC]
   refine till_ready (rs := [11]) (by kernel_rfl) (by simp) ?_
   refine TillReady.cons (o := _) rfl (fun K hK => ?_) TillReady.nil
   go_simp
   refine (rless_any _ _ A (d ^ n) x2_10 hq hv hle.out hlA.out).mono ?_
   rintro e x3_11 ⟨z,rfl,hz,bx3_11⟩
   obtain ⟨za,zl,zc,rfl⟩ := Rd.shape hz
   replace rR := Row.keep rR bx3_11
   replace bel := Bel.to bel bx3_11
   replace hq := Rd.below hq bx3_11
   replace hu := Rd.below hu bx3_11
   replace hv := Rd.below hv bx3_11
   go_wp2_with fail
   refine hK.out _ _ ⟨Bel.cellOf bx3_11 hHeld.1,Bel.cellOf bx3_11 hHeld.2⟩ (fun hHeld => ?_)
   clear hK K bx3_11
   try simp only [List.getElem_toArray,List.getElem_cons_zero,List.getElem_cons_succ,Act.put,zsA,zsB,zsC]
   refine till_ready (rs := [12]) (by kernel_rfl) (by simp) ?_
   refine TillReady.cons (o := _) rfl (fun K hK => ?_) TillReady.nil
   go_simp
   obtain ⟨x4_12,hx4_12⟩ : ∃ X,X = x3_11.alloc (.cells #[.slice ua ul uc,.slice za zl zc] 30) := ⟨_,rfl⟩
   have bx4_12 : Below x3_11.heap.size x3_11 x4_12 := by rw [hx4_12];exact Bel.al (Below.refl _ _) _
   have r21 : Row x4_12 x3_11.heap.size 30 ([(.slice ua ul uc,d ^ s),(.slice za zl zc,A - d ^ n)].map (fun p : NatM => p.1)) := by rw [hx4_12];exact Row.newOf _ rfl
   rw [← hx4_12]
   clear hx4_12
   replace rR := Row.keep rR bx4_12
   replace bel := Bel.to bel bx4_12
   replace hq := Rd.below hq bx4_12
   replace hu := Rd.below hu bx4_12
   replace hv := Rd.below hv bx4_12
   replace hz := Rd.below hz bx4_12
   have hN := Row.nats (n := 2) r21 rfl (by decide) (fun p hp => by
    simp only [List.mem_cons,List.not_mem_nil,or_false] at hp
    rcases hp with rfl | rfl
    ·exact hu
    ·exact hz)
   clear r21
   refine hK.out _ _ ⟨Bel.cellOf bx4_12 hHeld.1,Bel.cellOf bx4_12 hHeld.2⟩ (fun hHeld => ?_)
   clear hK K bx4_12
   try simp only [List.getElem_toArray,List.getElem_cons_zero,List.getElem_cons_succ,Act.put,zsA,zsB,zsC]
   refine till_ready (rs := [13]) (by kernel_rfl) (by simp) ?_
   refine TillReady.cons (o := _) rfl (fun K hK => ?_) TillReady.nil
   go_simp
   refine (rprod_any _ _ x4_12 hN hlv.out (by simp)).mono ?_
   rintro e x5_13 ⟨y,rfl,hy,bx5_13⟩
   obtain ⟨ya,yl,yc,rfl⟩ := Rd.shape hy
   simp only [List.map_cons,List.map_nil,prodL,Nat.mul_one] at hy
   replace rR := Row.keep rR bx5_13
   replace bel := Bel.to bel bx5_13
   replace hq := Rd.below hq bx5_13
   replace hu := Rd.below hu bx5_13
   replace hv := Rd.below hv bx5_13
   replace hz := Rd.below hz bx5_13
   clear hN
   go_wp2_with fail
   refine hK.out _ _ ⟨Bel.cellOf bx5_13 hHeld.1,Bel.cellOf bx5_13 hHeld.2⟩ (fun hHeld => ?_)
   clear hK K bx5_13
   try simp only [List.getElem_toArray,List.getElem_cons_zero,List.getElem_cons_succ,Act.put,zsA,zsB,zsC]
   have cp9 := rR.cell? 0
   have fp9 := rR.frozen 0
   simp only [List.getElem?_cons_zero] at cp9
   refine till_ready (rs := [14]) (by kernel_rfl) (by simp) ?_
   refine TillReady.last (o := _) rfl (by kernel_rfl) (fun K hK => ?_) TillReady.nil
   go_simp
   refine hK.out _ _ ?_
   clear hK K
   try simp only [List.getElem_toArray,List.getElem_cons_zero,List.getElem_cons_succ,Act.put,zsA,zsB,zsC]
   refine till_done (by kernel_rfl) ?_ _
   go_simp
   have hf := Rd.setNe hy cp9 (fun _ h => by cases h) (.slice ya yl yc)
   rw [hPP.out] at hf
   have belf := Bel.st bel (p := ⟨w.heap.size + 1,0,none⟩) (by simp only [];omega) (.slice ya yl yc)
   go_wp2
   exact bodyPost_ret (v := .agg #[(.slice ya yl yc)]) (by simp [results,Tryz.results103,go_sem,cp9]) rfl ⟨_,rfl,hf,belf⟩
  ·have cB := hide (fun X => rbox_any d n X hd10.out hn10.out)
   obtain ⟨A,hA⟩ : ∃ A,A = bxP d n := ⟨_,rfl⟩
   rw [← hA] at cB
   have hA3 : Hid ((limbs A).length ≤ 3) := by show _ ≤ _;rw [hA];exact bxP_limbs hd10.out hn10.out
   have hle : Hid (d ^ n ≤ A) := by show _ ≤ _;rw [hA];exact pow_le_bxP d n
   have hPP : Hid (d ^ s * (A - d ^ n) = PP) := by show _ = _;rw [hP.out,hA,if_pos rfl]
   have co := rg.of
   rw [hd.out] at co
   clear hA hq
   go_wp2_with fail
   refine (cB.out _).mono ?_
   rintro e w7 ⟨u,rfl,hv,hb7⟩
   obtain ⟨va,vl,vc,rfl⟩ := Rd.shape hv
   replace rg := rg.keep hb7
   replace rR := Row.keep rR hb7
   replace bel := Bel.to bel hb7
   replace r10 := Row.keep r10 hb7
   clear hb7 co cB
   have c10 := r10.cell? 0
   have f10 := r10.frozen 0
   simp only [List.getElem?_cons_zero] at c10
   go_upto_region 7 with (fail)
   obtain ⟨w8,hw8⟩ : ∃ X,X = w7.setCell ⟨b10,0,none⟩ (.slice va vl vc) := ⟨_,rfl⟩
   replace hv : NV w8 (.slice va vl vc) A := by rw [hw8];exact Rd.setNe hv c10 (fun _ h => by cases h) _
   replace r10 : Row w8 b10 30 [.slice va vl vc] := by rw [hw8];exact Row.set r10 0 _
   replace rR : Row w8 (w.heap.size + 1) 30 [.slice none 0 0] := by rw [hw8];exact Row.far rR (p := ⟨b10,0,none⟩) (by simp only [];omega) _
   replace rg : GameAt w8 w.heap.size g (.slice aa an ac) (.slice ta tn tc) := by rw [hw8];exact Row.far rg (p := ⟨b10,0,none⟩) (by simp only [];omega) _
   replace bel : Below w.heap.size w w8 := by rw [hw8];exact Bel.st bel (p := ⟨b10,0,none⟩) (by simp only [];omega) _
   rw [← hw8]
   clear hw8 c10 f10
   have hq := hv
   clear hv
   have hlv : Hid (limS [d ^ s,A - d ^ n] ≤ 63) := by
    have h1 := limbs_len_le (Nat.sub_le A (d ^ n))
    have h2 := hA3.out
    have h3 := pow_limbs (d := d) (n := s) hd10.out hs20'.out
    show _ ≤ _
    simp [limS]
    omega
   have hlA : Hid ((limbs A).length ≤ 64) := by have := hA3.out;show _ ≤ _;omega
   have c4 := rg.of
   rw [hd.out] at c4
   have c10 := r10.cell? 0
   simp only [List.getElem?_cons_zero] at c10
   clear hA3
   go_upto_region 7 with (fail)
   refine till_begin 14 (fun X => X.cell? ⟨w.heap.size,4,none⟩ = some (.int .i64 (d : Int)) ∧ X.cell? ⟨b10,0,none⟩ = some (.slice va vl vc)) (by kernel_rfl) (⟨c4,c10⟩) (fun hHeld => ?_)
   refine' till_pure (i := 0) (oi := _) (v := .pointer (some ⟨w.heap.size,4,none⟩)) rfl (by kernel_rfl) (by kernel_rfl) (by kernel_rfl) (by kernel_rfl) (fun _ _ _ h => h) (Or.inl ⟨by first | (go_simp;done) | rfl,fun X _ => by go_simp⟩) hHeld ?_
   try simp only [List.getElem_toArray,List.getElem_cons_zero,List.getElem_cons_succ,Act.put,zsA,zsB,zsC]
   refine' till_take (i := 1) (oi := _) (v := .int .i64 (d : Int)) rfl (by kernel_rfl) (by kernel_rfl) (by kernel_rfl) (by kernel_rfl) (fun _ _ _ h => h) (Or.inl ⟨by first | (go_simp;done) | rfl,fun X hX => by have h0 := hX.1;go_simp⟩) hHeld ?_
   try simp only [List.getElem_toArray,List.getElem_cons_zero,List.getElem_cons_succ,Act.put,zsA,zsB,zsC]
   refine' till_pure (i := 2) (oi := _) (v := .int .i64 (a : Int)) rfl (by kernel_rfl) (by kernel_rfl) (by kernel_rfl) (by kernel_rfl) (fun _ _ _ h => h) (Or.inl ⟨by first | (go_simp;done) | rfl,fun X _ => by go_simp⟩) hHeld ?_
   try simp only [List.getElem_toArray,List.getElem_cons_zero,List.getElem_cons_succ,Act.put,zsA,zsB,zsC]
   refine' till_pure (i := 3) (oi := _) (v := .int .i64 (b : Int)) rfl (by kernel_rfl) (by kernel_rfl) (by kernel_rfl) (by kernel_rfl) (fun _ _ _ h => h) (Or.inl ⟨by first | (go_simp;done) | rfl,fun X _ => by go_simp⟩) hHeld ?_
   try simp only [List.getElem_toArray,List.getElem_cons_zero,List.getElem_cons_succ,Act.put,zsA,zsB,zsC]
   refine' till_pure (i := 4) (oi := _) (v := .int .i64 (s : Int)) rfl (by kernel_rfl) (by kernel_rfl) (by kernel_rfl) (by kernel_rfl) (fun _ _ _ h => h) (Or.inl ⟨by first | (go_simp;done) | rfl,fun X _ => by go_simp⟩) hHeld ?_
   try simp only [List.getElem_toArray,List.getElem_cons_zero,List.getElem_cons_succ,Act.put,zsA,zsB,zsC]
   refine' till_take (i := 6) (oi := _) (v := .agg #[.slice va vl vc]) rfl (by kernel_rfl) (by kernel_rfl) (by kernel_rfl) (by kernel_rfl) (fun _ _ _ h => h) (Or.inl ⟨by first | (go_simp;done) | rfl,fun X hX => by have h0 := hX.2;go_simp⟩) hHeld ?_
   try simp only [List.getElem_toArray,List.getElem_cons_zero,List.getElem_cons_succ,Act.put,zsA,zsB,zsC]
   refine' till_pure (i := 7) (oi := _) (v := .pointer (some ⟨w.heap.size,4,none⟩)) rfl (by kernel_rfl) (by kernel_rfl) (by kernel_rfl) (by kernel_rfl) (fun _ _ _ h => h) (Or.inl ⟨by first | (go_simp;done) | rfl,fun X _ => by go_simp⟩) hHeld ?_
   try simp only [List.getElem_toArray,List.getElem_cons_zero,List.getElem_cons_succ,Act.put,zsA,zsB,zsC]
   refine' till_take (i := 8) (oi := _) (v := .int .i64 (d : Int)) rfl (by kernel_rfl) (by kernel_rfl) (by kernel_rfl) (by kernel_rfl) (fun _ _ _ h => h) (Or.inl ⟨by first | (go_simp;done) | rfl,fun X hX => by have h0 := hX.1;go_simp⟩) hHeld ?_
   try simp only [List.getElem_toArray,List.getElem_cons_zero,List.getElem_cons_succ,Act.put,zsA,zsB,zsC]
   refine' till_pure (i := 9) (oi := _) (v := .int .i64 (n : Int)) rfl (by kernel_rfl) (by kernel_rfl) (by kernel_rfl) (by kernel_rfl) (fun _ _ _ h => h) (Or.inl ⟨by first | (go_simp;done) | rfl,fun X _ => by go_simp⟩) hHeld ?_
   try simp only [List.getElem_toArray,List.getElem_cons_zero,List.getElem_cons_succ,Act.put,zsA,zsB,zsC]
   obtain ⟨Y0,hY0⟩ : ∃ Y,Y = w8.drew := ⟨_,rfl⟩
   have hY1 : Below w8.heap.size w8 Y0 := by rw [hY0];exact Below.drew (Below.refl _ _)
   replace rR := Row.keep rR hY1
   replace bel := Bel.to bel hY1
   replace hq := Rd.below hq hY1
   rw [← hY0] at hHeld ⊢
   clear hY0 hY1 c4 c10
   refine till_ready (rs := [5]) (by kernel_rfl) (by simp) ?_
   refine TillReady.cons (o := _) rfl (fun K hK => ?_) TillReady.nil
   go_simp
   refine (cW.out s Y0 hs20.out).mono ?_
   rintro e x1_5 ⟨u,rfl,hu,bx1_5⟩
   obtain ⟨ua,ul,uc,rfl⟩ := Rd.shape hu
   replace rR := Row.keep rR bx1_5
   replace bel := Bel.to bel bx1_5
   replace hq := Rd.below hq bx1_5
   go_wp2_with fail
   refine hK.out _ _ ⟨Bel.cellOf bx1_5 hHeld.1,Bel.cellOf bx1_5 hHeld.2⟩ (fun hHeld => ?_)
   clear hK K bx1_5
   try simp only [List.getElem_toArray,List.getElem_cons_zero,List.getElem_cons_succ,Act.put,zsA,zsB,zsC]
   refine till_ready (rs := [10]) (by kernel_rfl) (by simp) ?_
   refine TillReady.cons (o := _) rfl (fun K hK => ?_) TillReady.nil
   go_simp
   refine (cW.out n x1_5 hn20.out).mono ?_
   rintro e x2_10 ⟨v,rfl,hv,bx2_10⟩
   obtain ⟨va,vl,vc,rfl⟩ := Rd.shape hv
   replace rR := Row.keep rR bx2_10
   replace bel := Bel.to bel bx2_10
   replace hq := Rd.below hq bx2_10
   replace hu := Rd.below hu bx2_10
   go_wp2_with fail
   refine hK.out _ _ ⟨Bel.cellOf bx2_10 hHeld.1,Bel.cellOf bx2_10 hHeld.2⟩ (fun hHeld => ?_)
   clear hK K bx2_10
   try simp only [List.getElem_toArray,List.getElem_cons_zero,List.getElem_cons_succ,Act.put,zsA,zsB,zsC]
   refine till_ready (rs := [11]) (by kernel_rfl) (by simp) ?_
   refine TillReady.cons (o := _) rfl (fun K hK => ?_) TillReady.nil
   go_simp
   refine (rless_any _ _ A (d ^ n) x2_10 hq hv hle.out hlA.out).mono ?_
   rintro e x3_11 ⟨z,rfl,hz,bx3_11⟩
   obtain ⟨za,zl,zc,rfl⟩ := Rd.shape hz
   replace rR := Row.keep rR bx3_11
   replace bel := Bel.to bel bx3_11
   replace hq := Rd.below hq bx3_11
   replace hu := Rd.below hu bx3_11
   replace hv := Rd.below hv bx3_11
   go_wp2_with fail
   refine hK.out _ _ ⟨Bel.cellOf bx3_11 hHeld.1,Bel.cellOf bx3_11 hHeld.2⟩ (fun hHeld => ?_)
   clear hK K bx3_11
   try simp only [List.getElem_toArray,List.getElem_cons_zero,List.getElem_cons_succ,Act.put,zsA,zsB,zsC]
   refine till_ready (rs := [12]) (by kernel_rfl) (by simp) ?_
   refine TillReady.cons (o := _) rfl (fun K hK => ?_) TillReady.nil
   go_simp
   obtain ⟨x4_12,hx4_12⟩ : ∃ X,X = x3_11.alloc (.cells #[.slice ua ul uc,.slice za zl zc] 30) := ⟨_,rfl⟩
   have bx4_12 : Below x3_11.heap.size x3_11 x4_12 := by rw [hx4_12];exact Bel.al (Below.refl _ _) _
   have r21 : Row x4_12 x3_11.heap.size 30 ([(.slice ua ul uc,d ^ s),(.slice za zl zc,A - d ^ n)].map (fun p : NatM => p.1)) := by rw [hx4_12];exact Row.newOf _ rfl
   rw [← hx4_12]
   clear hx4_12
   replace rR := Row.keep rR bx4_12
   replace bel := Bel.to bel bx4_12
   replace hq := Rd.below hq bx4_12
   replace hu := Rd.below hu bx4_12
   replace hv := Rd.below hv bx4_12
   replace hz := Rd.below hz bx4_12
   have hN := Row.nats (n := 2) r21 rfl (by decide) (fun p hp => by
    simp only [List.mem_cons,List.not_mem_nil,or_false] at hp
    rcases hp with rfl | rfl
    ·exact hu
    ·exact hz)
   clear r21
   refine hK.out _ _ ⟨Bel.cellOf bx4_12 hHeld.1,Bel.cellOf bx4_12 hHeld.2⟩ (fun hHeld => ?_)
   clear hK K bx4_12
   try simp only [List.getElem_toArray,List.getElem_cons_zero,List.getElem_cons_succ,Act.put,zsA,zsB,zsC]
   refine till_ready (rs := [13]) (by kernel_rfl) (by simp) ?_
   refine TillReady.cons (o := _) rfl (fun K hK => ?_) TillReady.nil
   go_simp
   refine (rprod_any _ _ x4_12 hN hlv.out (by simp)).mono ?_
   rintro e x5_13 ⟨y,rfl,hy,bx5_13⟩
   obtain ⟨ya,yl,yc,rfl⟩ := Rd.shape hy
   simp only [List.map_cons,List.map_nil,prodL,Nat.mul_one] at hy
   replace rR := Row.keep rR bx5_13
   replace bel := Bel.to bel bx5_13
   replace hq := Rd.below hq bx5_13
   replace hu := Rd.below hu bx5_13
   replace hv := Rd.below hv bx5_13
   replace hz := Rd.below hz bx5_13
   clear hN
   go_wp2_with fail
   refine hK.out _ _ ⟨Bel.cellOf bx5_13 hHeld.1,Bel.cellOf bx5_13 hHeld.2⟩ (fun hHeld => ?_)
   clear hK K bx5_13
   try simp only [List.getElem_toArray,List.getElem_cons_zero,List.getElem_cons_succ,Act.put,zsA,zsB,zsC]
   have cp9 := rR.cell? 0
   have fp9 := rR.frozen 0
   simp only [List.getElem?_cons_zero] at cp9
   refine till_ready (rs := [14]) (by kernel_rfl) (by simp) ?_
   refine TillReady.last (o := _) rfl (by kernel_rfl) (fun K hK => ?_) TillReady.nil
   go_simp
   refine hK.out _ _ ?_
   clear hK K
   try simp only [List.getElem_toArray,List.getElem_cons_zero,List.getElem_cons_succ,Act.put,zsA,zsB,zsC]
   refine till_done (by kernel_rfl) ?_ _
   go_simp
   have hf := Rd.setNe hy cp9 (fun _ h => by cases h) (.slice ya yl yc)
   rw [hPP.out] at hf
   have belf := Bel.st bel (p := ⟨w.heap.size + 1,0,none⟩) (by simp only [];omega) (.slice ya yl yc)
   go_wp2
   exact bodyPost_ret (v := .agg #[(.slice ya yl yc)]) (by simp [results,Tryz.results103,go_sem,cp9]) rfl ⟨_,rfl,hf,belf⟩
theorem atN_le (d m a b : Nat) (box : Bool) : atN d m a b box ≤ d ^ (2 * m) := by rw [atN_count];exact cnt2_le _
theorem two_limbs {d m x y : Nat} (hd : d ≤ 10) (hm : m ≤ 10) (hx : x ≤ d ^ (2 * m)) (hy : y ≤ d ^ (2 * m)) : (limbs (x + y)).length ≤ 64 := by
 have h2 : d ^ (2 * m) ≤ 10 ^ (2 * m) := Nat.pow_le_pow_left hd _
 have h3 : 10 ^ (2 * m) ≤ 10 ^ 20 := Nat.pow_le_pow_right (by omega) (by omega)
 have e1 : (10 : Nat) ^ 20 = 100000000000000000000 := by decide
 have e2 : (4294967296 : Nat) ^ 3 = 79228162514264337593543950336 := by decide
 have := length_limbs_lt.1 (show x + y < 4294967296 ^ 3 by omega)
 omega
set_option maxHeartbeats 8000000 in
set_option maxRecDepth 100000 in
theorem rex_any (g : GameD) (av tv : Value) (ms : List AddonM) (d m a b : Nat) (box : Bool) (w : World) (hr : GameR w av tv ms g) (hm : g.main = (m : Int)) (hd : g.of = (d : Int)) (hm10 : m ≤ 10) (hd10 : d ≤ 10) (hd1 : 1 ≤ d) (ha0 : a ≤ 10) (hb0 : b ≤ 10) :
  Calls Tryz.prog 70 #[gameVal g av tv,.int .i64 (a : Int),.int .i64 (b : Int),.bool box] w (SomeNat (exN d m a b box) w) := by
 have cA := hide (fun (a b : Nat) X (hX : Below w.heap.size w X) (ha : a ≤ 20) (hb : b ≤ 20) => ratl_any g av tv ms d m a b box X (hr.below hX) hm hd hm10 hd10 hd1 ha hb)
 obtain ⟨a1,ha1⟩ : ∃ x,x = a + 1 := ⟨_,rfl⟩
 obtain ⟨b1,hb1⟩ : ∃ x,x = b + 1 := ⟨_,rfl⟩
 have hle := (exN_count d m a b box).1
 obtain ⟨PP,hP⟩ : ∃ P,P = exN d m a b box := ⟨_,rfl⟩
 rw [← hP]
 unfold exN at hP
 rw [← ha1,← hb1] at hle hP
 have hPP := hide hP.symm
 have hl1 := hide (two_limbs hd10 hm10 (atN_le d m a b box) (atN_le d m a1 b1 box))
 have hl2 := hide (two_limbs hd10 hm10 (atN_le d m a1 b box) (atN_le d m a b1 box))
 have ww1 : IntKind.i64.wrap ((a : Int) + 1) = (a1 : Int) := by rw [IntKind.wrap_i64];omega
 have ww2 : IntKind.i64.wrap ((b : Int) + 1) = (b1 : Int) := by rw [IntKind.wrap_i64];omega
 have ww3 : (a : Int) + 1 = (a1 : Int) := by omega
 have ww4 : (b : Int) + 1 = (b1 : Int) := by omega
 replace ha1 := hide ha1
 replace hb1 := hide hb1
 have ha := hide (show a ≤ 10 ∧ a1 ≤ 11 by have := ha1.out;omega)
 have hb := hide (show b ≤ 10 ∧ b1 ≤ 11 by have := hb1.out;omega)
 replace hle := hide hle
 clear hP hm hd hm10 hd10 hd1
 have a10 : (a : Int) ≤ 10 := by omega
 have a11 : (a1 : Int) ≤ 11 := by have := ha.out;omega
 have b11 : (b1 : Int) ≤ 11 := by have := hb.out;omega
 have ww5 : IntKind.i64.wrap (a1 : Int) = (a1 : Int) := by rw [IntKind.wrap_i64];omega
 have ww6 : IntKind.i64.wrap (b1 : Int) = (b1 : Int) := by rw [IntKind.wrap_i64];omega
 have b10 : (b : Int) ≤ 10 := by omega
 obtain ⟨aa,ac,rfl,hal,ham⟩ := hr.1.1.shape
 obtain ⟨ta,tc,rfl,htl,htm⟩ := hr.2.2.shape
 obtain ⟨an,han⟩ : ∃ an,an = ms.length := ⟨_,rfl⟩
 obtain ⟨tn,htn⟩ : ∃ tn,tn = g.tiers.length := ⟨_,rfl⟩
 rw [← han,← htn] at cA ⊢
 clear hr hal htl ham htm han htn
 unfold gameVal at cA ⊢
 go_enter Tryz.func70,Tryz.ntmps70
 go_upto_region 1 with (fail)
 obtain ⟨W,hW⟩ : ∃ W,W = (w.alloc (Obj.cells #[.string g.name,.int .i64 g.kind,.int .i64 g.price,.int .i64 g.main,.int .i64 g.of,.int .i64 g.bonus,.int .i64 g.bonusOf,.int .i64 g.extra,.int .i64 g.draws,.int .i64 g.system,.int .i64 g.days,.int .i64 g.at_,.int .i64 g.close,.int .i64 g.cancel,.int .i64 g.expiry,.int .i64 g.pool,.int .i64 g.reserve,.int .i64 g.round,.int .i64 g.cap,.int .i64 g.rolls,(.slice aa an ac),(.slice ta tn tc)] 25)).alloc (Obj.cells #[.slice none 0 0] 30) := ⟨_,rfl⟩
 have bel : Below w.heap.size w W := by rw [hW];exact Bel.al (Bel.al (Below.refl _ _) _) _
 have rg : GameAt W w.heap.size g (.slice aa an ac) (.slice ta tn tc) := by rw [hW];exact Row.alloc (Row.new _ _ _) _
 have rR : Row W (w.heap.size + 1) 30 [.slice none 0 0] := by rw [hW];exact Row.at2 _ _ _ _
 rw [← hW]
 clear hW
 have hr0 : W.rangeAt w.heap.size 0 [.string g.name,.int .i64 g.kind,.int .i64 g.price,.int .i64 g.main,.int .i64 g.of,.int .i64 g.bonus,.int .i64 g.bonusOf,.int .i64 g.extra,.int .i64 g.draws,.int .i64 g.system,.int .i64 g.days,.int .i64 g.at_,.int .i64 g.close,.int .i64 g.cancel,.int .i64 g.expiry,.int .i64 g.pool,.int .i64 g.reserve,.int .i64 g.round,.int .i64 g.cap,.int .i64 g.rolls,(.slice aa an ac),(.slice ta tn tc)] := fun j u hu => by rw [Nat.zero_add];exact (rg.cell? j).trans hu
 go_cut [9] (fun p X => ∃ (b9 : Nat) (pa : Option Addr) (pl pc : Nat),p = .pointer (some ⟨b9,0,none⟩) ∧ w.heap.size + 1 < b9 ∧ GameAt X w.heap.size g (.slice aa an ac) (.slice ta tn tc) ∧ Row X (w.heap.size + 1) 30 [.slice none 0 0] ∧ Below w.heap.size w X ∧ Row X b9 30 [.slice pa pl pc] ∧ NV X (.slice pa pl pc) (atN d m a b box + atN d m a1 b1 box))
 case first =>
  refine till_begin 14 (fun X => X.rangeAt w.heap.size 0 [.string g.name,.int .i64 g.kind,.int .i64 g.price,.int .i64 g.main,.int .i64 g.of,.int .i64 g.bonus,.int .i64 g.bonusOf,.int .i64 g.extra,.int .i64 g.draws,.int .i64 g.system,.int .i64 g.days,.int .i64 g.at_,.int .i64 g.close,.int .i64 g.cancel,.int .i64 g.expiry,.int .i64 g.pool,.int .i64 g.reserve,.int .i64 g.round,.int .i64 g.cap,.int .i64 g.rolls,(.slice aa an ac),(.slice ta tn tc)]) (by kernel_rfl) (hr0) (fun hHeld => ?_)
  refine' till_take (i := 0) (oi := _) (v := .agg #[.string g.name,.int .i64 g.kind,.int .i64 g.price,.int .i64 g.main,.int .i64 g.of,.int .i64 g.bonus,.int .i64 g.bonusOf,.int .i64 g.extra,.int .i64 g.draws,.int .i64 g.system,.int .i64 g.days,.int .i64 g.at_,.int .i64 g.close,.int .i64 g.cancel,.int .i64 g.expiry,.int .i64 g.pool,.int .i64 g.reserve,.int .i64 g.round,.int .i64 g.cap,.int .i64 g.rolls,(.slice aa an ac),(.slice ta tn tc)]) rfl (by kernel_rfl) (by kernel_rfl) (by kernel_rfl) (by kernel_rfl) (fun _ _ _ h => h) (by refine (yieldsIf_load_mid ?_ 25 (.tmp 4) rfl w.heap.size 0 ?_ [.string g.name,.int .i64 g.kind,.int .i64 g.price,.int .i64 g.main,.int .i64 g.of,.int .i64 g.bonus,.int .i64 g.bonusOf,.int .i64 g.extra,.int .i64 g.draws,.int .i64 g.system,.int .i64 g.days,.int .i64 g.at_,.int .i64 g.close,.int .i64 g.cancel,.int .i64 g.expiry,.int .i64 g.pool,.int .i64 g.reserve,.int .i64 g.round,.int .i64 g.cap,.int .i64 g.rolls,(.slice aa an ac),(.slice ta tn tc)] _ (fun X h => h) Tryz.underlying25 rfl (by kernel_rfl)) <;> go_simp) hHeld ?_
  try simp only [List.getElem_toArray,List.getElem_cons_zero,List.getElem_cons_succ,Act.put,zsA,zsB,zsC]
  refine' till_pure (i := 1) (oi := _) (v := .int .i64 (a : Int)) rfl (by kernel_rfl) (by kernel_rfl) (by kernel_rfl) (by kernel_rfl) (fun _ _ _ h => h) (Or.inl ⟨by first | (go_simp;done) | rfl,fun X _ => by go_simp⟩) hHeld ?_
  try simp only [List.getElem_toArray,List.getElem_cons_zero,List.getElem_cons_succ,Act.put,zsA,zsB,zsC]
  refine' till_pure (i := 2) (oi := _) (v := .int .i64 (b : Int)) rfl (by kernel_rfl) (by kernel_rfl) (by kernel_rfl) (by kernel_rfl) (fun _ _ _ h => h) (Or.inl ⟨by first | (go_simp;done) | rfl,fun X _ => by go_simp⟩) hHeld ?_
  try simp only [List.getElem_toArray,List.getElem_cons_zero,List.getElem_cons_succ,Act.put,zsA,zsB,zsC]
  refine' till_pure (i := 3) (oi := _) (v := .bool box) rfl (by kernel_rfl) (by kernel_rfl) (by kernel_rfl) (by kernel_rfl) (fun _ _ _ h => h) (Or.inl ⟨by first | (go_simp;done) | rfl,fun X _ => by go_simp⟩) hHeld ?_
  try simp only [List.getElem_toArray,List.getElem_cons_zero,List.getElem_cons_succ,Act.put,zsA,zsB,zsC]
  refine' till_take (i := 5) (oi := _) (v := .agg #[.string g.name,.int .i64 g.kind,.int .i64 g.price,.int .i64 g.main,.int .i64 g.of,.int .i64 g.bonus,.int .i64 g.bonusOf,.int .i64 g.extra,.int .i64 g.draws,.int .i64 g.system,.int .i64 g.days,.int .i64 g.at_,.int .i64 g.close,.int .i64 g.cancel,.int .i64 g.expiry,.int .i64 g.pool,.int .i64 g.reserve,.int .i64 g.round,.int .i64 g.cap,.int .i64 g.rolls,(.slice aa an ac),(.slice ta tn tc)]) rfl (by kernel_rfl) (by kernel_rfl) (by kernel_rfl) (by kernel_rfl) (fun _ _ _ h => h) (by refine (yieldsIf_load_mid ?_ 25 (.tmp 4) rfl w.heap.size 0 ?_ [.string g.name,.int .i64 g.kind,.int .i64 g.price,.int .i64 g.main,.int .i64 g.of,.int .i64 g.bonus,.int .i64 g.bonusOf,.int .i64 g.extra,.int .i64 g.draws,.int .i64 g.system,.int .i64 g.days,.int .i64 g.at_,.int .i64 g.close,.int .i64 g.cancel,.int .i64 g.expiry,.int .i64 g.pool,.int .i64 g.reserve,.int .i64 g.round,.int .i64 g.cap,.int .i64 g.rolls,(.slice aa an ac),(.slice ta tn tc)] _ (fun X h => h) Tryz.underlying25 rfl (by kernel_rfl)) <;> go_simp) hHeld ?_
  try simp only [List.getElem_toArray,List.getElem_cons_zero,List.getElem_cons_succ,Act.put,zsA,zsB,zsC]
  refine' till_pure (i := 6) (oi := _) (v := .int .i64 (a : Int)) rfl (by kernel_rfl) (by kernel_rfl) (by kernel_rfl) (by kernel_rfl) (fun _ _ _ h => h) (Or.inl ⟨by first | (go_simp;done) | rfl,fun X _ => by go_simp⟩) hHeld ?_
  try simp only [List.getElem_toArray,List.getElem_cons_zero,List.getElem_cons_succ,Act.put,zsA,zsB,zsC]
  refine' till_pure (i := 7) (oi := _) (v := .int .i64 (a1 : Int)) rfl (by kernel_rfl) (by kernel_rfl) (by kernel_rfl) (by kernel_rfl) (fun _ _ _ h => h) (Or.inl ⟨by first | (go_simp;done) | rfl,fun X _ => by go_simp⟩) hHeld ?_
  try simp only [List.getElem_toArray,List.getElem_cons_zero,List.getElem_cons_succ,Act.put,zsA,zsB,zsC]
  refine' till_pure (i := 8) (oi := _) (v := .int .i64 (b : Int)) rfl (by kernel_rfl) (by kernel_rfl) (by kernel_rfl) (by kernel_rfl) (fun _ _ _ h => h) (Or.inl ⟨by first | (go_simp;done) | rfl,fun X _ => by go_simp⟩) hHeld ?_
  try simp only [List.getElem_toArray,List.getElem_cons_zero,List.getElem_cons_succ,Act.put,zsA,zsB,zsC]
  refine' till_pure (i := 9) (oi := _) (v := .int .i64 (b1 : Int)) rfl (by kernel_rfl) (by kernel_rfl) (by kernel_rfl) (by kernel_rfl) (fun _ _ _ h => h) (Or.inl ⟨by first | (go_simp;done) | rfl,fun X _ => by go_simp⟩) hHeld ?_
  try simp only [List.getElem_toArray,List.getElem_cons_zero,List.getElem_cons_succ,Act.put,zsA,zsB,zsC]
  refine' till_pure (i := 10) (oi := _) (v := .bool box) rfl (by kernel_rfl) (by kernel_rfl) (by kernel_rfl) (by kernel_rfl) (fun _ _ _ h => h) (Or.inl ⟨by first | (go_simp;done) | rfl,fun X _ => by go_simp⟩) hHeld ?_
  try simp only [List.getElem_toArray,List.getElem_cons_zero,List.getElem_cons_succ,Act.put,zsA,zsB,zsC]
  obtain ⟨Y0,hY0⟩ : ∃ Y,Y = W.drew := ⟨_,rfl⟩
  have hY1 : Below W.heap.size W Y0 := by rw [hY0];exact Below.drew (Below.refl _ _)
  replace rg := GameAt.keep rg hY1
  replace rR := Row.keep rR hY1
  replace bel := Bel.to bel hY1
  rw [← hY0] at hHeld ⊢
  clear hY0 hY1 hr0
  refine till_ready (rs := [4,13]) (by kernel_rfl) (by simp) ?_
  refine TillReady.cons (o := _) rfl (fun K hK => ?_) (TillReady.cons (o := _) rfl (fun K hK => ?_) TillReady.nil)
  ·skip
   go_simp
   refine (cA.out a b Y0 bel (by have := ha.out;omega) (by have := hb.out;omega)).mono ?_
   rintro e x1_4 ⟨u,rfl,hu,bx1_4⟩
   obtain ⟨ua,ul,uc,rfl⟩ := Rd.shape hu
   replace rg := GameAt.keep rg bx1_4
   replace rR := Row.keep rR bx1_4
   replace bel := Bel.to bel bx1_4
   go_wp2_with fail
   refine hK.out _ _ (range_keep bx1_4 hHeld) (fun hHeld => ?_)
   clear hK K bx1_4
   try simp only [List.getElem_toArray,List.getElem_cons_zero,List.getElem_cons_succ,Act.put,zsA,zsB,zsC]
   refine till_ready (rs := [11,13]) (by kernel_rfl) (by simp) ?_
   refine TillReady.cons (o := _) rfl (fun K hK => ?_) (TillReady.cons (o := _) rfl (fun K hK => ?_) TillReady.nil)
   ·skip
    go_simp
    refine (cA.out a1 b1 x1_4 bel (by have := ha.out;omega) (by have := hb.out;omega)).mono ?_
    rintro e x2_11 ⟨v,rfl,hv,bx2_11⟩
    obtain ⟨va,vl,vc,rfl⟩ := Rd.shape hv
    replace rg := GameAt.keep rg bx2_11
    replace rR := Row.keep rR bx2_11
    replace bel := Bel.to bel bx2_11
    replace hu := Rd.below hu bx2_11
    go_wp2_with fail
    refine hK.out _ _ (range_keep bx2_11 hHeld) (fun hHeld => ?_)
    clear hK K bx2_11
    try simp only [List.getElem_toArray,List.getElem_cons_zero,List.getElem_cons_succ,Act.put,zsA,zsB,zsC]
    refine till_ready (rs := [12,13]) (by kernel_rfl) (by simp) ?_
    refine TillReady.cons (o := _) rfl (fun K hK => ?_) (TillReady.cons (o := _) rfl (fun K hK => ?_) TillReady.nil)
    ·skip
     go_simp
     refine (rsum_any _ _ _ _ x2_11 hu hv hl1.out).mono ?_
     rintro e x3_12 ⟨y,rfl,hy,bx3_12⟩
     obtain ⟨ya,yl,yc,rfl⟩ := Rd.shape hy
     replace rg := GameAt.keep rg bx3_12
     replace rR := Row.keep rR bx3_12
     replace bel := Bel.to bel bx3_12
     replace hu := Rd.below hu bx3_12
     replace hv := Rd.below hv bx3_12
     go_wp2_with fail
     refine hK.out _ _ (range_keep bx3_12 hHeld) (fun hHeld => ?_)
     clear hK K bx3_12
     try simp only [List.getElem_toArray,List.getElem_cons_zero,List.getElem_cons_succ,Act.put,zsA,zsB,zsC]
     refine till_ready (rs := [13]) (by kernel_rfl) (by simp) ?_
     refine TillReady.cons (o := _) rfl (fun K hK => ?_) TillReady.nil
     go_simp
     obtain ⟨x4_13,hx4_13⟩ : ∃ X,X = x3_12.alloc (.cells #[.slice none 0 0] 30) := ⟨_,rfl⟩
     have bx4_13 : Below x3_12.heap.size x3_12 x4_13 := by rw [hx4_13];exact Bel.al (Below.refl _ _) _
     have rp : Row x4_13 x3_12.heap.size 30 [.slice none 0 0] := by rw [hx4_13];exact Row.newOf _ rfl
     have hbp : w.heap.size + 1 < x3_12.heap.size := rR.lt
     rw [← hx4_13]
     clear hx4_13
     replace rg := GameAt.keep rg bx4_13
     replace rR := Row.keep rR bx4_13
     replace bel := Bel.to bel bx4_13
     replace hu := Rd.below hu bx4_13
     replace hv := Rd.below hv bx4_13
     replace hy := Rd.below hy bx4_13
     refine hK.out _ _ (range_keep bx4_13 hHeld) (fun hHeld => ?_)
     clear hK K bx4_13
     try simp only [List.getElem_toArray,List.getElem_cons_zero,List.getElem_cons_succ,Act.put,zsA,zsB,zsC]
     have cp9 := rp.cell? 0
     have fp9 := rp.frozen 0
     simp only [List.getElem?_cons_zero] at cp9
     refine till_ready (rs := [14]) (by kernel_rfl) (by simp) ?_
     refine TillReady.last (o := _) rfl (by kernel_rfl) (fun K hK => ?_) TillReady.nil
     go_simp
     refine hK.out _ _ ?_
     clear hK K
     try simp only [List.getElem_toArray,List.getElem_cons_zero,List.getElem_cons_succ,Act.put,zsA,zsB,zsC]
     refine till_done (by kernel_rfl) ?_ _
     go_simp
     go_wp2_with fail
     go_meet
     exact ⟨_,ya,yl,yc,rfl,hbp,Row.far rg (p := ⟨_,0,none⟩) (by simp only [];omega) _,Row.far rR (p := ⟨_,0,none⟩) (by simp only [];omega) _,Bel.st bel (p := ⟨_,0,none⟩) (by simp only [];omega) _,Row.set rp 0 _,Rd.setNe hy cp9 (fun _ h => by cases h) _⟩
    ·skip
     go_simp
     obtain ⟨x3_13,hx3_13⟩ : ∃ X,X = x2_11.alloc (.cells #[.slice none 0 0] 30) := ⟨_,rfl⟩
     have bx3_13 : Below x2_11.heap.size x2_11 x3_13 := by rw [hx3_13];exact Bel.al (Below.refl _ _) _
     have rp : Row x3_13 x2_11.heap.size 30 [.slice none 0 0] := by rw [hx3_13];exact Row.newOf _ rfl
     have hbp : w.heap.size + 1 < x2_11.heap.size := rR.lt
     rw [← hx3_13]
     clear hx3_13
     replace rg := GameAt.keep rg bx3_13
     replace rR := Row.keep rR bx3_13
     replace bel := Bel.to bel bx3_13
     replace hu := Rd.below hu bx3_13
     replace hv := Rd.below hv bx3_13
     refine hK.out _ _ (range_keep bx3_13 hHeld) (fun hHeld => ?_)
     clear hK K bx3_13
     try simp only [List.getElem_toArray,List.getElem_cons_zero,List.getElem_cons_succ,Act.put,zsA,zsB,zsC]
     refine till_ready (rs := [12]) (by kernel_rfl) (by simp) ?_
     refine TillReady.cons (o := _) rfl (fun K hK => ?_) TillReady.nil
     go_simp
     refine (rsum_any _ _ _ _ x3_13 hu hv hl1.out).mono ?_
     rintro e x4_12 ⟨y,rfl,hy,bx4_12⟩
     obtain ⟨ya,yl,yc,rfl⟩ := Rd.shape hy
     replace rg := GameAt.keep rg bx4_12
     replace rR := Row.keep rR bx4_12
     replace bel := Bel.to bel bx4_12
     replace hu := Rd.below hu bx4_12
     replace hv := Rd.below hv bx4_12
     replace rp := Row.keep rp bx4_12
     go_wp2_with fail
     refine hK.out _ _ (range_keep bx4_12 hHeld) (fun hHeld => ?_)
     clear hK K bx4_12
     try simp only [List.getElem_toArray,List.getElem_cons_zero,List.getElem_cons_succ,Act.put,zsA,zsB,zsC]
     have cp9 := rp.cell? 0
     have fp9 := rp.frozen 0
     simp only [List.getElem?_cons_zero] at cp9
     refine till_ready (rs := [14]) (by kernel_rfl) (by simp) ?_
     refine TillReady.last (o := _) rfl (by kernel_rfl) (fun K hK => ?_) TillReady.nil
     go_simp
     refine hK.out _ _ ?_
     clear hK K
     try simp only [List.getElem_toArray,List.getElem_cons_zero,List.getElem_cons_succ,Act.put,zsA,zsB,zsC]
     refine till_done (by kernel_rfl) ?_ _
     go_simp
     go_wp2_with fail
     go_meet
     exact ⟨_,ya,yl,yc,rfl,hbp,Row.far rg (p := ⟨_,0,none⟩) (by simp only [];omega) _,Row.far rR (p := ⟨_,0,none⟩) (by simp only [];omega) _,Bel.st bel (p := ⟨_,0,none⟩) (by simp only [];omega) _,Row.set rp 0 _,Rd.setNe hy cp9 (fun _ h => by cases h) _⟩
   ·skip
    go_simp
    obtain ⟨x2_13,hx2_13⟩ : ∃ X,X = x1_4.alloc (.cells #[.slice none 0 0] 30) := ⟨_,rfl⟩
    have bx2_13 : Below x1_4.heap.size x1_4 x2_13 := by rw [hx2_13];exact Bel.al (Below.refl _ _) _
    have rp : Row x2_13 x1_4.heap.size 30 [.slice none 0 0] := by rw [hx2_13];exact Row.newOf _ rfl
    have hbp : w.heap.size + 1 < x1_4.heap.size := rR.lt
    rw [← hx2_13]
    clear hx2_13
    replace rg := GameAt.keep rg bx2_13
    replace rR := Row.keep rR bx2_13
    replace bel := Bel.to bel bx2_13
    replace hu := Rd.below hu bx2_13
    refine hK.out _ _ (range_keep bx2_13 hHeld) (fun hHeld => ?_)
    clear hK K bx2_13
    try simp only [List.getElem_toArray,List.getElem_cons_zero,List.getElem_cons_succ,Act.put,zsA,zsB,zsC]
    refine till_ready (rs := [11]) (by kernel_rfl) (by simp) ?_
    refine TillReady.cons (o := _) rfl (fun K hK => ?_) TillReady.nil
    go_simp
    refine (cA.out a1 b1 x2_13 bel (by have := ha.out;omega) (by have := hb.out;omega)).mono ?_
    rintro e x3_11 ⟨v,rfl,hv,bx3_11⟩
    obtain ⟨va,vl,vc,rfl⟩ := Rd.shape hv
    replace rg := GameAt.keep rg bx3_11
    replace rR := Row.keep rR bx3_11
    replace bel := Bel.to bel bx3_11
    replace hu := Rd.below hu bx3_11
    replace rp := Row.keep rp bx3_11
    go_wp2_with fail
    refine hK.out _ _ (range_keep bx3_11 hHeld) (fun hHeld => ?_)
    clear hK K bx3_11
    try simp only [List.getElem_toArray,List.getElem_cons_zero,List.getElem_cons_succ,Act.put,zsA,zsB,zsC]
    refine till_ready (rs := [12]) (by kernel_rfl) (by simp) ?_
    refine TillReady.cons (o := _) rfl (fun K hK => ?_) TillReady.nil
    go_simp
    refine (rsum_any _ _ _ _ x3_11 hu hv hl1.out).mono ?_
    rintro e x4_12 ⟨y,rfl,hy,bx4_12⟩
    obtain ⟨ya,yl,yc,rfl⟩ := Rd.shape hy
    replace rg := GameAt.keep rg bx4_12
    replace rR := Row.keep rR bx4_12
    replace bel := Bel.to bel bx4_12
    replace hu := Rd.below hu bx4_12
    replace rp := Row.keep rp bx4_12
    replace hv := Rd.below hv bx4_12
    go_wp2_with fail
    refine hK.out _ _ (range_keep bx4_12 hHeld) (fun hHeld => ?_)
    clear hK K bx4_12
    try simp only [List.getElem_toArray,List.getElem_cons_zero,List.getElem_cons_succ,Act.put,zsA,zsB,zsC]
    have cp9 := rp.cell? 0
    have fp9 := rp.frozen 0
    simp only [List.getElem?_cons_zero] at cp9
    refine till_ready (rs := [14]) (by kernel_rfl) (by simp) ?_
    refine TillReady.last (o := _) rfl (by kernel_rfl) (fun K hK => ?_) TillReady.nil
    go_simp
    refine hK.out _ _ ?_
    clear hK K
    try simp only [List.getElem_toArray,List.getElem_cons_zero,List.getElem_cons_succ,Act.put,zsA,zsB,zsC]
    refine till_done (by kernel_rfl) ?_ _
    go_simp
    go_wp2_with fail
    go_meet
    exact ⟨_,ya,yl,yc,rfl,hbp,Row.far rg (p := ⟨_,0,none⟩) (by simp only [];omega) _,Row.far rR (p := ⟨_,0,none⟩) (by simp only [];omega) _,Bel.st bel (p := ⟨_,0,none⟩) (by simp only [];omega) _,Row.set rp 0 _,Rd.setNe hy cp9 (fun _ h => by cases h) _⟩
  ·skip
   go_simp
   obtain ⟨x1_13,hx1_13⟩ : ∃ X,X = Y0.alloc (.cells #[.slice none 0 0] 30) := ⟨_,rfl⟩
   have bx1_13 : Below Y0.heap.size Y0 x1_13 := by rw [hx1_13];exact Bel.al (Below.refl _ _) _
   have rp : Row x1_13 Y0.heap.size 30 [.slice none 0 0] := by rw [hx1_13];exact Row.newOf _ rfl
   have hbp : w.heap.size + 1 < Y0.heap.size := rR.lt
   rw [← hx1_13]
   clear hx1_13
   replace rg := GameAt.keep rg bx1_13
   replace rR := Row.keep rR bx1_13
   replace bel := Bel.to bel bx1_13
   refine hK.out _ _ (range_keep bx1_13 hHeld) (fun hHeld => ?_)
   clear hK K bx1_13
   try simp only [List.getElem_toArray,List.getElem_cons_zero,List.getElem_cons_succ,Act.put,zsA,zsB,zsC]
   refine till_ready (rs := [4]) (by kernel_rfl) (by simp) ?_
   refine TillReady.cons (o := _) rfl (fun K hK => ?_) TillReady.nil
   go_simp
   refine (cA.out a b x1_13 bel (by have := ha.out;omega) (by have := hb.out;omega)).mono ?_
   rintro e x2_4 ⟨u,rfl,hu,bx2_4⟩
   obtain ⟨ua,ul,uc,rfl⟩ := Rd.shape hu
   replace rg := GameAt.keep rg bx2_4
   replace rR := Row.keep rR bx2_4
   replace bel := Bel.to bel bx2_4
   replace rp := Row.keep rp bx2_4
   go_wp2_with fail
   refine hK.out _ _ (range_keep bx2_4 hHeld) (fun hHeld => ?_)
   clear hK K bx2_4
   try simp only [List.getElem_toArray,List.getElem_cons_zero,List.getElem_cons_succ,Act.put,zsA,zsB,zsC]
   refine till_ready (rs := [11]) (by kernel_rfl) (by simp) ?_
   refine TillReady.cons (o := _) rfl (fun K hK => ?_) TillReady.nil
   go_simp
   refine (cA.out a1 b1 x2_4 bel (by have := ha.out;omega) (by have := hb.out;omega)).mono ?_
   rintro e x3_11 ⟨v,rfl,hv,bx3_11⟩
   obtain ⟨va,vl,vc,rfl⟩ := Rd.shape hv
   replace rg := GameAt.keep rg bx3_11
   replace rR := Row.keep rR bx3_11
   replace bel := Bel.to bel bx3_11
   replace rp := Row.keep rp bx3_11
   replace hu := Rd.below hu bx3_11
   go_wp2_with fail
   refine hK.out _ _ (range_keep bx3_11 hHeld) (fun hHeld => ?_)
   clear hK K bx3_11
   try simp only [List.getElem_toArray,List.getElem_cons_zero,List.getElem_cons_succ,Act.put,zsA,zsB,zsC]
   refine till_ready (rs := [12]) (by kernel_rfl) (by simp) ?_
   refine TillReady.cons (o := _) rfl (fun K hK => ?_) TillReady.nil
   go_simp
   refine (rsum_any _ _ _ _ x3_11 hu hv hl1.out).mono ?_
   rintro e x4_12 ⟨y,rfl,hy,bx4_12⟩
   obtain ⟨ya,yl,yc,rfl⟩ := Rd.shape hy
   replace rg := GameAt.keep rg bx4_12
   replace rR := Row.keep rR bx4_12
   replace bel := Bel.to bel bx4_12
   replace rp := Row.keep rp bx4_12
   replace hu := Rd.below hu bx4_12
   replace hv := Rd.below hv bx4_12
   go_wp2_with fail
   refine hK.out _ _ (range_keep bx4_12 hHeld) (fun hHeld => ?_)
   clear hK K bx4_12
   try simp only [List.getElem_toArray,List.getElem_cons_zero,List.getElem_cons_succ,Act.put,zsA,zsB,zsC]
   have cp9 := rp.cell? 0
   have fp9 := rp.frozen 0
   simp only [List.getElem?_cons_zero] at cp9
   refine till_ready (rs := [14]) (by kernel_rfl) (by simp) ?_
   refine TillReady.last (o := _) rfl (by kernel_rfl) (fun K hK => ?_) TillReady.nil
   go_simp
   refine hK.out _ _ ?_
   clear hK K
   try simp only [List.getElem_toArray,List.getElem_cons_zero,List.getElem_cons_succ,Act.put,zsA,zsB,zsC]
   refine till_done (by kernel_rfl) ?_ _
   go_simp
   go_wp2_with fail
   go_meet
   exact ⟨_,ya,yl,yc,rfl,hbp,Row.far rg (p := ⟨_,0,none⟩) (by simp only [];omega) _,Row.far rR (p := ⟨_,0,none⟩) (by simp only [];omega) _,Bel.st bel (p := ⟨_,0,none⟩) (by simp only [];omega) _,Row.set rp 0 _,Rd.setNe hy cp9 (fun _ h => by cases h) _⟩
 case rest =>
  clear rg rR bel hr0
  obtain ⟨b9,pa,pl,pc,rfl,h9,rg,rR,bel,r9,hp⟩ := hcut
  have hr0 : wc.rangeAt w.heap.size 0 [.string g.name,.int .i64 g.kind,.int .i64 g.price,.int .i64 g.main,.int .i64 g.of,.int .i64 g.bonus,.int .i64 g.bonusOf,.int .i64 g.extra,.int .i64 g.draws,.int .i64 g.system,.int .i64 g.days,.int .i64 g.at_,.int .i64 g.close,.int .i64 g.cancel,.int .i64 g.expiry,.int .i64 g.pool,.int .i64 g.reserve,.int .i64 g.round,.int .i64 g.cap,.int .i64 g.rolls,(.slice aa an ac),(.slice ta tn tc)] := fun j u hu => by rw [Nat.zero_add];exact (rg.cell? j).trans hu
  have c9 := r9.cell? 0
  simp only [List.getElem?_cons_zero] at c9
  go_upto_region 2 with (fail)
  refine till_begin 15 (fun X => X.rangeAt w.heap.size 0 [.string g.name,.int .i64 g.kind,.int .i64 g.price,.int .i64 g.main,.int .i64 g.of,.int .i64 g.bonus,.int .i64 g.bonusOf,.int .i64 g.extra,.int .i64 g.draws,.int .i64 g.system,.int .i64 g.days,.int .i64 g.at_,.int .i64 g.close,.int .i64 g.cancel,.int .i64 g.expiry,.int .i64 g.pool,.int .i64 g.reserve,.int .i64 g.round,.int .i64 g.cap,.int .i64 g.rolls,(.slice aa an ac),(.slice ta tn tc)] ∧ X.cell? ⟨b9,0,none⟩ = some (.slice pa pl pc)) (by kernel_rfl) (⟨hr0,c9⟩) (fun hHeld => ?_)
  refine' till_take (i := 0) (oi := _) (v := .agg #[.slice pa pl pc]) rfl (by kernel_rfl) (by kernel_rfl) (by kernel_rfl) (by kernel_rfl) (fun _ _ _ h => h) (Or.inl ⟨by first | (go_simp;done) | rfl,fun X hX => by have h0 := hX.2;go_simp⟩) hHeld ?_
  try simp only [List.getElem_toArray,List.getElem_cons_zero,List.getElem_cons_succ,Act.put,zsA,zsB,zsC]
  refine' till_take (i := 1) (oi := _) (v := .agg #[.string g.name,.int .i64 g.kind,.int .i64 g.price,.int .i64 g.main,.int .i64 g.of,.int .i64 g.bonus,.int .i64 g.bonusOf,.int .i64 g.extra,.int .i64 g.draws,.int .i64 g.system,.int .i64 g.days,.int .i64 g.at_,.int .i64 g.close,.int .i64 g.cancel,.int .i64 g.expiry,.int .i64 g.pool,.int .i64 g.reserve,.int .i64 g.round,.int .i64 g.cap,.int .i64 g.rolls,(.slice aa an ac),(.slice ta tn tc)]) rfl (by kernel_rfl) (by kernel_rfl) (by kernel_rfl) (by kernel_rfl) (fun _ _ _ h => h) (by refine (yieldsIf_load_mid ?_ 25 (.tmp 4) rfl w.heap.size 0 ?_ [.string g.name,.int .i64 g.kind,.int .i64 g.price,.int .i64 g.main,.int .i64 g.of,.int .i64 g.bonus,.int .i64 g.bonusOf,.int .i64 g.extra,.int .i64 g.draws,.int .i64 g.system,.int .i64 g.days,.int .i64 g.at_,.int .i64 g.close,.int .i64 g.cancel,.int .i64 g.expiry,.int .i64 g.pool,.int .i64 g.reserve,.int .i64 g.round,.int .i64 g.cap,.int .i64 g.rolls,(.slice aa an ac),(.slice ta tn tc)] _ (fun X h => h.1) Tryz.underlying25 rfl (by kernel_rfl)) <;> go_simp) hHeld ?_
  try simp only [List.getElem_toArray,List.getElem_cons_zero,List.getElem_cons_succ,Act.put,zsA,zsB,zsC]
  refine' till_pure (i := 2) (oi := _) (v := .int .i64 (a : Int)) rfl (by kernel_rfl) (by kernel_rfl) (by kernel_rfl) (by kernel_rfl) (fun _ _ _ h => h) (Or.inl ⟨by first | (go_simp;done) | rfl,fun X _ => by go_simp⟩) hHeld ?_
  try simp only [List.getElem_toArray,List.getElem_cons_zero,List.getElem_cons_succ,Act.put,zsA,zsB,zsC]
  refine' till_pure (i := 3) (oi := _) (v := .int .i64 (a1 : Int)) rfl (by kernel_rfl) (by kernel_rfl) (by kernel_rfl) (by kernel_rfl) (fun _ _ _ h => h) (Or.inl ⟨by first | (go_simp;done) | rfl,fun X _ => by go_simp⟩) hHeld ?_
  try simp only [List.getElem_toArray,List.getElem_cons_zero,List.getElem_cons_succ,Act.put,zsA,zsB,zsC]
  refine' till_pure (i := 4) (oi := _) (v := .int .i64 (b : Int)) rfl (by kernel_rfl) (by kernel_rfl) (by kernel_rfl) (by kernel_rfl) (fun _ _ _ h => h) (Or.inl ⟨by first | (go_simp;done) | rfl,fun X _ => by go_simp⟩) hHeld ?_
  try simp only [List.getElem_toArray,List.getElem_cons_zero,List.getElem_cons_succ,Act.put,zsA,zsB,zsC]
  refine' till_pure (i := 5) (oi := _) (v := .bool box) rfl (by kernel_rfl) (by kernel_rfl) (by kernel_rfl) (by kernel_rfl) (fun _ _ _ h => h) (Or.inl ⟨by first | (go_simp;done) | rfl,fun X _ => by go_simp⟩) hHeld ?_
  try simp only [List.getElem_toArray,List.getElem_cons_zero,List.getElem_cons_succ,Act.put,zsA,zsB,zsC]
  refine' till_take (i := 7) (oi := _) (v := .agg #[.string g.name,.int .i64 g.kind,.int .i64 g.price,.int .i64 g.main,.int .i64 g.of,.int .i64 g.bonus,.int .i64 g.bonusOf,.int .i64 g.extra,.int .i64 g.draws,.int .i64 g.system,.int .i64 g.days,.int .i64 g.at_,.int .i64 g.close,.int .i64 g.cancel,.int .i64 g.expiry,.int .i64 g.pool,.int .i64 g.reserve,.int .i64 g.round,.int .i64 g.cap,.int .i64 g.rolls,(.slice aa an ac),(.slice ta tn tc)]) rfl (by kernel_rfl) (by kernel_rfl) (by kernel_rfl) (by kernel_rfl) (fun _ _ _ h => h) (by refine (yieldsIf_load_mid ?_ 25 (.tmp 4) rfl w.heap.size 0 ?_ [.string g.name,.int .i64 g.kind,.int .i64 g.price,.int .i64 g.main,.int .i64 g.of,.int .i64 g.bonus,.int .i64 g.bonusOf,.int .i64 g.extra,.int .i64 g.draws,.int .i64 g.system,.int .i64 g.days,.int .i64 g.at_,.int .i64 g.close,.int .i64 g.cancel,.int .i64 g.expiry,.int .i64 g.pool,.int .i64 g.reserve,.int .i64 g.round,.int .i64 g.cap,.int .i64 g.rolls,(.slice aa an ac),(.slice ta tn tc)] _ (fun X h => h.1) Tryz.underlying25 rfl (by kernel_rfl)) <;> go_simp) hHeld ?_
  try simp only [List.getElem_toArray,List.getElem_cons_zero,List.getElem_cons_succ,Act.put,zsA,zsB,zsC]
  refine' till_pure (i := 8) (oi := _) (v := .int .i64 (a : Int)) rfl (by kernel_rfl) (by kernel_rfl) (by kernel_rfl) (by kernel_rfl) (fun _ _ _ h => h) (Or.inl ⟨by first | (go_simp;done) | rfl,fun X _ => by go_simp⟩) hHeld ?_
  try simp only [List.getElem_toArray,List.getElem_cons_zero,List.getElem_cons_succ,Act.put,zsA,zsB,zsC]
  refine' till_pure (i := 9) (oi := _) (v := .int .i64 (b : Int)) rfl (by kernel_rfl) (by kernel_rfl) (by kernel_rfl) (by kernel_rfl) (fun _ _ _ h => h) (Or.inl ⟨by first | (go_simp;done) | rfl,fun X _ => by go_simp⟩) hHeld ?_
  try simp only [List.getElem_toArray,List.getElem_cons_zero,List.getElem_cons_succ,Act.put,zsA,zsB,zsC]
  refine' till_pure (i := 10) (oi := _) (v := .int .i64 (b1 : Int)) rfl (by kernel_rfl) (by kernel_rfl) (by kernel_rfl) (by kernel_rfl) (fun _ _ _ h => h) (Or.inl ⟨by first | (go_simp;done) | rfl,fun X _ => by go_simp⟩) hHeld ?_
  try simp only [List.getElem_toArray,List.getElem_cons_zero,List.getElem_cons_succ,Act.put,zsA,zsB,zsC]
  refine' till_pure (i := 11) (oi := _) (v := .bool box) rfl (by kernel_rfl) (by kernel_rfl) (by kernel_rfl) (by kernel_rfl) (fun _ _ _ h => h) (Or.inl ⟨by first | (go_simp;done) | rfl,fun X _ => by go_simp⟩) hHeld ?_
  try simp only [List.getElem_toArray,List.getElem_cons_zero,List.getElem_cons_succ,Act.put,zsA,zsB,zsC]
  obtain ⟨Y0,hY0⟩ : ∃ Y,Y = wc.drew := ⟨_,rfl⟩
  have hY1 : Below wc.heap.size wc Y0 := by rw [hY0];exact Below.drew (Below.refl _ _)
  replace rR := Row.keep rR hY1
  replace bel := Bel.to bel hY1
  replace hp := Rd.below hp hY1
  rw [← hY0] at hHeld ⊢
  clear hY0 hY1 hr0 c9
  refine till_ready (rs := [6]) (by kernel_rfl) (by simp) ?_
  refine TillReady.cons (o := _) rfl (fun K hK => ?_) TillReady.nil
  go_simp
  refine (cA.out a1 b Y0 bel (by have := ha.out;omega) (by have := hb.out;omega)).mono ?_
  rintro e x1_6 ⟨u,rfl,hu,bx1_6⟩
  obtain ⟨ua,ul,uc,rfl⟩ := Rd.shape hu
  replace rR := Row.keep rR bx1_6
  replace bel := Bel.to bel bx1_6
  replace hp := Rd.below hp bx1_6
  go_wp2_with fail
  refine hK.out _ _ ⟨range_keep bx1_6 hHeld.1,Bel.cellOf bx1_6 hHeld.2⟩ (fun hHeld => ?_)
  clear hK K bx1_6
  try simp only [List.getElem_toArray,List.getElem_cons_zero,List.getElem_cons_succ,Act.put,zsA,zsB,zsC]
  refine till_ready (rs := [12]) (by kernel_rfl) (by simp) ?_
  refine TillReady.cons (o := _) rfl (fun K hK => ?_) TillReady.nil
  go_simp
  refine (cA.out a b1 x1_6 bel (by have := ha.out;omega) (by have := hb.out;omega)).mono ?_
  rintro e x2_12 ⟨v,rfl,hv,bx2_12⟩
  obtain ⟨va,vl,vc,rfl⟩ := Rd.shape hv
  replace rR := Row.keep rR bx2_12
  replace bel := Bel.to bel bx2_12
  replace hp := Rd.below hp bx2_12
  replace hu := Rd.below hu bx2_12
  go_wp2_with fail
  refine hK.out _ _ ⟨range_keep bx2_12 hHeld.1,Bel.cellOf bx2_12 hHeld.2⟩ (fun hHeld => ?_)
  clear hK K bx2_12
  try simp only [List.getElem_toArray,List.getElem_cons_zero,List.getElem_cons_succ,Act.put,zsA,zsB,zsC]
  refine till_ready (rs := [13]) (by kernel_rfl) (by simp) ?_
  refine TillReady.cons (o := _) rfl (fun K hK => ?_) TillReady.nil
  go_simp
  refine (rsum_any _ _ _ _ x2_12 hu hv hl2.out).mono ?_
  rintro e x3_13 ⟨y,rfl,hy,bx3_13⟩
  obtain ⟨ya,yl,yc,rfl⟩ := Rd.shape hy
  replace rR := Row.keep rR bx3_13
  replace bel := Bel.to bel bx3_13
  replace hp := Rd.below hp bx3_13
  replace hu := Rd.below hu bx3_13
  replace hv := Rd.below hv bx3_13
  go_wp2_with fail
  refine hK.out _ _ ⟨range_keep bx3_13 hHeld.1,Bel.cellOf bx3_13 hHeld.2⟩ (fun hHeld => ?_)
  clear hK K bx3_13
  try simp only [List.getElem_toArray,List.getElem_cons_zero,List.getElem_cons_succ,Act.put,zsA,zsB,zsC]
  refine till_ready (rs := [14]) (by kernel_rfl) (by simp) ?_
  refine TillReady.cons (o := _) rfl (fun K hK => ?_) TillReady.nil
  go_simp
  refine (rless_any _ _ _ _ x3_13 hp hy hle.out hl1.out).mono ?_
  rintro e x4_14 ⟨z,rfl,hz,bx4_14⟩
  obtain ⟨za,zl,zc,rfl⟩ := Rd.shape hz
  replace rR := Row.keep rR bx4_14
  replace bel := Bel.to bel bx4_14
  replace hp := Rd.below hp bx4_14
  replace hu := Rd.below hu bx4_14
  replace hv := Rd.below hv bx4_14
  replace hy := Rd.below hy bx4_14
  go_wp2_with fail
  refine hK.out _ _ ⟨range_keep bx4_14 hHeld.1,Bel.cellOf bx4_14 hHeld.2⟩ (fun hHeld => ?_)
  clear hK K bx4_14
  try simp only [List.getElem_toArray,List.getElem_cons_zero,List.getElem_cons_succ,Act.put,zsA,zsB,zsC]
  have cp9 := rR.cell? 0
  have fp9 := rR.frozen 0
  simp only [List.getElem?_cons_zero] at cp9
  refine till_ready (rs := [15]) (by kernel_rfl) (by simp) ?_
  refine TillReady.last (o := _) rfl (by kernel_rfl) (fun K hK => ?_) TillReady.nil
  go_simp
  refine hK.out _ _ ?_
  clear hK K
  try simp only [List.getElem_toArray,List.getElem_cons_zero,List.getElem_cons_succ,Act.put,zsA,zsB,zsC]
  refine till_done (by kernel_rfl) ?_ _
  go_simp
  have hf := Rd.setNe hz cp9 (fun _ h => by cases h) (.slice za zl zc)
  rw [hPP.out] at hf
  have belf := Bel.st bel (p := ⟨w.heap.size + 1,0,none⟩) (by simp only [];omega) (.slice za zl zc)
  go_wp2
  exact bodyPost_ret (v := .agg #[(.slice za zl zc)]) (by simp [results,Tryz.results70,go_sem,cp9]) rfl ⟨_,rfl,hf,belf⟩
theorem firstGo_idx (p : TierD → Bool) (l : List TierD) : ∀ (k T : Nat),T < l.length → (firstGo p l k = ((k + T : Nat) : Int) ↔ l.findIdx p = T) := by
 induction l with
 | nil => intro k T h;exact absurd h (by simp)
 | cons t r ih =>
  intro k T h
  rw [firstGo,List.findIdx_cons]
  by_cases hp : p t = true
  ·rw [if_pos hp,hp]
   simp only [cond_true]
   omega
  ·rw [if_neg hp,show p t = false by simpa using hp]
   simp only [cond_false]
   cases T with
   | zero =>
    have key : ∀ (r : List TierD) (c : Nat),firstGo p r c = -1 ∨ (c : Int) ≤ firstGo p r c := by
     intro r
     induction r with
     | nil => intro c;exact .inl rfl
     | cons x r ihr =>
      intro c
      unfold firstGo
      split
      ·exact .inr (Int.le_refl _)
      ·rcases ihr (c + 1) with h | h
       ·exact .inl h
       ·exact .inr (by omega)
    constructor
    ·intro e
     rcases key r (k + 1) with h' | h' <;> omega
    ·intro e;omega
   | succ T =>
    have h1 := ih (k + 1) T (by simpa using h)
    rw [show k + (T + 1) = k + 1 + T by omega,h1]
    omega
theorem met_cond {g : GameD} {m : Nat} {t : TierD} (hm : g.main = (m : Int)) (h1 : 1 ≤ m) (h : (t.mode = 1 ∧ t.main = 0) ∨ (t.mode = 2 ∧ t.main = 0) ∨ (t.mode = 3 ∧ 1 ≤ t.main ∧ t.main ≤ g.main) ∨ (t.mode = 4 ∧ 1 ≤ t.main ∧ t.main ≤ g.main)) (a b : Nat) (box equal : Bool) (ha : a < m) :
  metB (a : Int) (b : Int) box equal t = metC (condOf m t) a b box equal := by
 unfold metB condOf metC
 rcases h with ⟨h,h2⟩ | ⟨h,h2⟩ | ⟨h,h2⟩ | ⟨h,h2⟩
 ·have e : decide (0 < m ∧ m ≤ a) = false := decide_eq_false (by omega)
  simp only [if_pos h,Nat.lt_irrefl,false_and,decide_false,Bool.or_false,Bool.false_and,e]
 ·have n1 : ¬ t.mode = 1 := by omega
  simp only [if_neg n1,if_pos h,Nat.lt_irrefl,false_and,decide_false,Bool.or_false,Bool.true_and]
  exact Bool.or_comm _ _
 ·have n1 : ¬ t.mode = 1 := by omega
  have n2 : ¬ t.mode = 2 := by omega
  have e : decide (0 < t.main.toNat ∧ t.main.toNat ≤ a) = decide (t.main ≤ (a : Int)) := by rw [decide_eq_decide];omega
  simp only [if_neg n1,if_neg n2,if_pos h,Nat.lt_irrefl,false_and,decide_false,Bool.or_false,Bool.false_and,e]
 ·have n1 : ¬ t.mode = 1 := by omega
  have n2 : ¬ t.mode = 2 := by omega
  have n3 : ¬ t.mode = 3 := by omega
  have e : decide (0 < t.main.toNat ∧ t.main.toNat ≤ b) = decide (t.main ≤ (b : Int)) := by rw [decide_eq_decide];omega
  simp only [if_neg n1,if_neg n2,if_neg n3,Nat.lt_irrefl,false_and,decide_false,Bool.or_false,Bool.false_and,e]
theorem first_met {g : GameD} {m : Nat} (he : gameE g = 0) (hk : g.kind = 2) (hm : g.main = (m : Int)) (h1 : 1 ≤ m) (a b : Nat) (box equal : Bool) (ha : a < m) {T : Nat} (hT : T < g.tiers.length) :
  firstGo (metB (a : Int) (b : Int) box equal) g.tiers 0 = (T : Int) ↔ firstR (g.tiers.map (condOf m)) a b box equal = T := by
 have h := firstGo_idx (metB (a : Int) (b : Int) box equal) g.tiers 0 T hT
 rw [Nat.zero_add] at h
 rw [h]
 unfold firstR
 have e : g.tiers.findIdx (metB (a : Int) (b : Int) box equal) = (g.tiers.map (condOf m)).findIdx (fun c => metC c a b box equal) := by
  rw [List.findIdx_map]
  exact findIdx_congr fun c hc => met_cond hm h1 (dig_tier he hk hc) a b box equal ha
 rw [e]
def wrX (d m : Nat) (C : List CondD) (T a b : Nat) : Nat := (if firstR C a b true false = T then exN d m a b true else 0) + (if firstR C a b false false = T then exN d m a b false - exN d m a b true else 0)
theorem winR_wrX (d m : Nat) (C : List CondD) (T : Nat) : winR d m C T = (if firstR C 0 0 true true = T then d ^ m else 0) + sumTo (fun a => sumTo (wrX d m C T a) (m - a)) m := rfl
theorem wrX_part (d m : Nat) (C : List CondD) (T S0 : Nat) {a b : Nat} (ha : a < m) (hb : b < m - a) : S0 + sumTo (fun a => sumTo (wrX d m C T a) (m - a)) a + sumTo (wrX d m C T a) b + wrX d m C T a b ≤ S0 + sumTo (fun a => sumTo (wrX d m C T a) (m - a)) m := by
 have h1 : sumTo (wrX d m C T a) (b + 1) ≤ sumTo (wrX d m C T a) (m - a) := sumTo_mono hb
 have h2 : sumTo (fun a => sumTo (wrX d m C T a) (m - a)) (a + 1) ≤ sumTo (fun a => sumTo (wrX d m C T a) (m - a)) m := sumTo_mono ha
 rw [sumTo] at h1 h2
 omega
theorem exN_box_le (d m a b : Nat) : exN d m a b true ≤ exN d m a b false := by
 rw [(exN_count d m a b true).2,(exN_count d m a b false).2]
 have h := cnt2_split (d := d) (m := m) (fun x y => (x ≠ y ∧ (false = true → x.Perm y)) ∧ exX m a b x y) (fun x y => x.Perm y)
 have e : cnt2 d m (fun x y => ((x ≠ y ∧ (false = true → x.Perm y)) ∧ exX m a b x y) ∧ x.Perm y) = cnt2 d m (fun x y => (x ≠ y ∧ (true = true → x.Perm y)) ∧ exX m a b x y) :=
  cnt2_congr fun x y _ _ _ _ => ⟨fun ⟨⟨⟨p,_⟩,q⟩,r⟩ => ⟨⟨p,fun _ => r⟩,q⟩,fun ⟨⟨p,r⟩,q⟩ => ⟨⟨⟨p,fun h => by cases h⟩,q⟩,r rfl⟩⟩
 omega
theorem exN_le (d m a b : Nat) (box : Bool) : exN d m a b box ≤ d ^ (2 * m) := by rw [(exN_count d m a b box).2];exact cnt2_le _
theorem big_limbs {d m x : Nat} (hd : d ≤ 10) (hm : m ≤ 10) (hx : x ≤ d ^ (2 * m)) : (limbs x).length ≤ 64 := by
 have := two_limbs hd hm hx (Nat.zero_le _)
 rwa [Nat.add_zero] at this
set_option maxHeartbeats 16000000 in
set_option maxRecDepth 100000 in
theorem rwind_any (g : GameD) (av tv : Value) (ms : List AddonM) (T : Nat) (w : World) (rg : GameR w av tv ms g) (he : gameE g = 0) (hk : g.kind = 2) (hT : T < g.tiers.length) :
  Calls Tryz.prog 31 #[gameVal g av tv,.int .i64 (T : Int)] w (SomeNat (winV g (T : Int)) w) := by
 have hmf := mat_facts (game_mat he)
 obtain ⟨m,hm⟩ : ∃ m : Nat,g.main = (m : Int) := ⟨g.main.toNat,by omega⟩
 obtain ⟨d,hd⟩ : ∃ d : Nat,g.of = (d : Int) := ⟨g.of.toNat,by omega⟩
 have hd2 := hmf.2.2.2.2.2.2.1 hk
 have hm10 : m ≤ 10 := by omega
 have hm1 : 1 ≤ m := by omega
 have hd10 : d ≤ 10 := by omega
 have hd1 : 1 ≤ d := by omega
 obtain ⟨C,hC⟩ : ∃ C,C = g.tiers.map (condOf m) := ⟨_,rfl⟩
 have hsing : ∀ c ∈ C,singleC c := by
  rw [hC]
  intro c hc
  obtain ⟨x,hx,rfl⟩ := List.mem_map.1 hc
  exact (dig_cond hm hm1 (dig_tier he hk hx)).1
 obtain ⟨PT,hPT⟩ : ∃ P,P = winV g (T : Int) := ⟨_,rfl⟩
 have hPT2 : PT = winR d m C T := by
  rw [hPT,winV_dig hk,winR_win2 hsing,Int.toNat_natCast]
  unfold condsG
  rw [hC,hm,hd,Int.toNat_natCast,Int.toNat_natCast]
 have hPTle : PT ≤ d ^ (2 * m) := by rw [hPT2,winR_win2 hsing];unfold win2;exact cnt2_le _
 have hPT3 := hide (big_limbs hd10 hm10 hPTle)
 obtain ⟨S0,hS0⟩ : ∃ s,s = if firstR C 0 0 true true = T then d ^ m else 0 := ⟨_,rfl⟩
 rw [winR_wrX,← hS0] at hPT2
 rw [← hPT]
 have hFst := hide (fun (a b : Nat) (box equal : Bool) (ha : a < m) => first_met he hk hm hm1 a b box equal ha hT)
 rw [← hC] at hFst
 have cF := hide (fun (a b : Nat) (box equal : Bool) X (hX : Below w.heap.size w X) => rfirstd_any g av tv ms (a : Int) (b : Int) box equal X (rg.below hX))
 have cX := hide (fun (a b : Nat) (box : Bool) X (hX : Below w.heap.size w X) (ha : a ≤ 10) (hb : b ≤ 10) => rex_any g av tv ms d m a b box X (rg.below hX) hm hd hm10 hd10 hd1 ha hb)
 obtain ⟨aa,ac,rfl,hal,ham⟩ := rg.1.1.shape
 obtain ⟨ta,tc,rfl,htl,htm⟩ := rg.2.2.shape
 obtain ⟨an,han⟩ : ∃ an,an = ms.length := ⟨_,rfl⟩
 obtain ⟨tn,htn⟩ : ∃ tn,tn = g.tiers.length := ⟨_,rfl⟩
 rw [← han,← htn] at cF cX ⊢
 have hTb : (T : Int) ≤ 9223372036854775807 := by unfold maxLen at htm;omega
 have hmh := hide hm
 have hdh := hide hd
 replace hd10 := hide hd10
 replace hm10h := hide hm10
 have hm10i : (m : Int) ≤ 10 := by omega
 replace hPT2 := hide hPT2
 replace hS0 := hide hS0
 clear rg hal htl ham htm han htn he hk hmf hT hC hsing hPT hPTle hm hd hd2
 unfold gameVal at cF cX ⊢
 go_enter Tryz.func31,Tryz.ntmps31
 go_upto_region 1 with (fail)
 obtain ⟨W,hW⟩ : ∃ W,W = (w.alloc (Obj.cells #[.string g.name,.int .i64 g.kind,.int .i64 g.price,.int .i64 g.main,.int .i64 g.of,.int .i64 g.bonus,.int .i64 g.bonusOf,.int .i64 g.extra,.int .i64 g.draws,.int .i64 g.system,.int .i64 g.days,.int .i64 g.at_,.int .i64 g.close,.int .i64 g.cancel,.int .i64 g.expiry,.int .i64 g.pool,.int .i64 g.reserve,.int .i64 g.round,.int .i64 g.cap,.int .i64 g.rolls,(.slice aa an ac),(.slice ta tn tc)] 25)).alloc (Obj.cells #[.slice none 0 0] 30) := ⟨_,rfl⟩
 have bW : Below w.heap.size w W := by rw [hW];exact Bel.al (Bel.al (Below.refl _ _) _) _
 have r0 : GameAt W w.heap.size g (.slice aa an ac) (.slice ta tn tc) := by rw [hW];exact Row.alloc (Row.new _ _ _) _
 have rR : Row W (w.heap.size + 1) 30 [.slice none 0 0] := by rw [hW];exact Row.at2 _ _ _ _
 rw [← hW]
 clear hW
 have cm := r0.main
 rw [hmh.out] at cm
 go_upto_region 2 with (fail)
 obtain ⟨b5,hb5⟩ : ∃ b,b = W.heap.size := ⟨_,rfl⟩
 obtain ⟨w3,hw3⟩ : ∃ X,X = W.alloc (Obj.cells #[.slice none 0 0] 30) := ⟨_,rfl⟩
 have r5 : Row w3 b5 30 [.slice none 0 0] := by rw [hw3,hb5];exact Row.newOf _ rfl
 have hB : Below W.heap.size W w3 := by rw [hw3];exact Bel.al (Below.refl _ _) _
 have h5W : W.heap.size ≤ b5 := by omega
 have h5r : w.heap.size + 1 < b5 := by have := rR.lt;omega
 replace rR := Row.keep rR hB
 rw [← hw3,← hb5]
 clear hw3 hb5
 have cF0 := hide (cF.out 0 0 true true w3 (Bel.to bW hB))
 obtain ⟨f0,hf0⟩ : ∃ f,f = firstGo (metB ((0 : Nat) : Int) ((0 : Nat) : Int) true true) g.tiers 0 := ⟨_,rfl⟩
 rw [← hf0] at cF0
 have hq0 := hFst.out 0 0 true true hm1
 rw [← hf0] at hq0
 clear hf0
 have rg9 := r0.keep hB
 go_wp2_with (first | (refine wpList_load_row rfl 25 _ rfl _ rfl _ _ _ _ rg9 Tryz.underlying25 rfl (by kernel_rfl) ?_) | fail)
 refine cF0.out.mono ?_
 rintro e w4 ⟨rfl,hb4⟩
 replace r5 := Row.keep r5 hb4
 replace rR := Row.keep rR hb4
 replace hB := Bel.to hB hb4
 clear hb4 cF0 rg9
 go_upto_if 12 with (fail)
 go_cut [] (fun X => ∃ (sa : Option Addr) (sn sc : Nat),Row X b5 30 [.slice sa sn sc] ∧ NV X (.slice sa sn sc) S0 ∧ Row X (w.heap.size + 1) 30 [.slice none 0 0] ∧ Below W.heap.size W X)
 case first =>
  by_cases h0 : firstR C 0 0 true true = T
  ·have ht0 : (f0 == (T : Int)) = true := by rw [hq0.2 h0];simp
   have hS : d ^ m = S0 := by rw [hS0.out,if_pos h0]
   have cW := hide (fun X => rpow_any d m X (by have := hd10.out;omega) (by omega))
   rw [hS] at cW
   have cm4 := Bel.cellOf hB cm
   have co4 := Bel.cellOf hB r0.of
   rw [hdh.out] at co4
   clear h0 hq0 hS
   go_wp2_with fail
   refine (cW.out _).mono ?_
   rintro e w5 ⟨u,rfl,hu,hb5⟩
   obtain ⟨za,zl,zc,rfl⟩ := Rd.shape hu
   replace r5 := Row.keep r5 hb5
   replace rR := Row.keep rR hb5
   replace hB := Bel.to hB hb5
   clear hb5 cW cm4 co4
   have c6 := r5.cell? 0
   have f6 := r5.frozen 0
   simp only [List.getElem?_cons_zero] at c6
   have hz2 := Rd.setNe hu c6 (fun _ h => by cases h) (.slice za zl zc)
   have r52 := Row.set r5 0 (.slice za zl zc)
   simp only [zsB] at r52
   have rR2 := Row.far rR (p := ⟨b5,0,none⟩) (by simp only [];omega) (.slice za zl zc)
   have hB2 := Bel.st hB (p := ⟨b5,0,none⟩) h5W (.slice za zl zc)
   go_upto_region 4 with (fail)
   go_meet
   exact ⟨za,zl,zc,r52,hz2,rR2,hB2⟩
  ·have ht0 : (f0 == (T : Int)) = false := by simpa using fun e => h0 (hq0.1 e)
   have hS : S0 = 0 := by rw [hS0.out,if_neg h0]
   clear h0 hq0
   go_wp2_with fail
   go_meet
   exact ⟨none,0,0,r5,by rw [hS];exact NV.zero _,rR,hB⟩
 case rest =>
  clear r5 rR hB hq0
  obtain ⟨sa,sn,sc,r5,hsv,rR,hB⟩ := hcut
  go_wp2
  go_loopg [6] m (fun gh ti wr => ∃ (a s : Nat) (sa : Option Addr) (sn sc : Nat),gh = m - a ∧ a ≤ m ∧ ti = .int .i64 (a : Int) ∧ Hid (s = S0 + sumTo (fun a => sumTo (wrX d m C T a) (m - a)) a) ∧ Row wr b5 30 [.slice sa sn sc] ∧ NV wr (.slice sa sn sc) s ∧ Row wr (w.heap.size + 1) 30 [.slice none 0 0] ∧ Below W.heap.size W wr)
  case atStart => exact ⟨0,S0,_,_,_,rfl,Nat.zero_le _,rfl,rfl,r5,hsv,rR,hB⟩
  case round =>
   clear r5 hsv rR hB
   obtain ⟨a,s,sa,sn,sc,hga,ha,rfl,hs,r5,hsv,rR,hB⟩ := hrel
   replace hga := hide hga
   have cm3 := Bel.cellOf hB cm
   by_cases hal : a < m
   ·have hal2 := hide hal
    have ai : (a : Int) < (m : Int) := by omega
    clear hal
    go_wp2
    obtain ⟨wo,hwo⟩ : ∃ wo,wo = wr := ⟨_,rfl⟩
    rw [← hwo] at r5 hsv rR hB ⊢
    clear hwo cm3
    go_loopg [7] (m - a) (fun gh ti wr => ∃ (b s : Nat) (sa : Option Addr) (sn sc : Nat),gh = m - a - b ∧ b ≤ m - a ∧ ti = .int .i64 (b : Int) ∧ Hid (s = S0 + sumTo (fun a => sumTo (wrX d m C T a) (m - a)) a + sumTo (wrX d m C T a) b) ∧ Row wr b5 30 [.slice sa sn sc] ∧ NV wr (.slice sa sn sc) s ∧ Row wr (w.heap.size + 1) 30 [.slice none 0 0] ∧ Below W.heap.size W wr)
    case atStart => exact ⟨0,s,sa,sn,sc,rfl,Nat.zero_le _,rfl,hs,r5,hsv,rR,hB⟩
    case round =>
     clear r5 hsv rR hB hs
     obtain ⟨b,s,sa,sn,sc,hgb,hb,rfl,hs,r5,hsv,rR,hB⟩ := hrel
     replace hgb := hide hgb
     have cm3 := Bel.cellOf hB cm
     have hab : (a : Int) + (b : Int) ≤ 20 := by have := hal2.out;have := hm10h.out;omega
     have wab : IntKind.i64.wrap ((a : Int) + (b : Int)) = (a : Int) + (b : Int) := by rw [IntKind.wrap_i64];omega
     by_cases hbl : b < m - a
     ·have hbl2 := hide hbl
      have bi : (a : Int) + (b : Int) < (m : Int) := by omega
      have hpart := hide (wrX_part d m C T S0 hal2.out hbl)
      rw [← hPT2.out] at hpart
      have hab2 := hide (show a ≤ 10 ∧ b ≤ 10 by have := hal2.out;have := hm10h.out;omega)
      have hexl := hide (exN_box_le d m a b)
      have hex3 := hide (big_limbs hd10.out hm10h.out (exN_le d m a b false))
      have bel := Bel.to bW hB
      have rg9 := r0.keep hB
      have cE := hide (cX.out a b true wr bel hab2.out.1 hab2.out.2)
      clear hbl
      go_wp2_with (first | (refine wpList_load_row rfl 25 _ rfl _ rfl _ _ _ _ rg9 Tryz.underlying25 rfl (by kernel_rfl) ?_) | fail)
      refine cE.out.mono ?_
      rintro e w6 ⟨ev,rfl,hev,hb6⟩
      obtain ⟨ea,el,ec,rfl⟩ := Rd.shape hev
      replace r5 := Row.keep r5 hb6
      replace rR := Row.keep rR hb6
      replace hsv := Rd.below hsv hb6
      replace hB := Bel.to hB hb6
      clear hb6 cE rg9 cm3 bel
      go_upto_region 11 with (fail)
      obtain ⟨b8,hb8⟩ : ∃ b,b = w6.heap.size := ⟨_,rfl⟩
      have h58 : b5 < b8 := by have := r5.lt;omega
      obtain ⟨w7,hw7⟩ : ∃ X,X = w6.alloc (.cells #[.slice ea el ec] 30) := ⟨_,rfl⟩
      have b7 : Below w6.heap.size w6 w7 := by rw [hw7];exact Bel.al (Below.refl _ _) _
      have r8 : Row w7 b8 30 [.slice ea el ec] := by rw [hw7,hb8];exact Row.newOf _ rfl
      rw [← hw7,← hb8]
      clear hw7 hb8
      replace r5 := Row.keep r5 b7
      replace rR := Row.keep rR b7
      replace hsv := Rd.below hsv b7
      replace hev := Rd.below hev b7
      replace hB := Bel.to hB b7
      clear b7
      have bel := Bel.to bW hB
      have rg9 := r0.keep hB
      have cF1 := hide (cF.out a b true false w7 bel)
      obtain ⟨f1,hf1⟩ : ∃ f,f = firstGo (metB a b true false) g.tiers 0 := ⟨_,rfl⟩
      rw [← hf1] at cF1
      have hq1 := hFst.out a b true false hal2.out
      rw [← hf1] at hq1
      clear hf1
      go_wp2_with (first | (refine wpList_load_row rfl 25 _ rfl _ rfl _ _ _ _ rg9 Tryz.underlying25 rfl (by kernel_rfl) ?_) | fail)
      refine cF1.out.mono ?_
      rintro e w8 ⟨rfl,hb8⟩
      replace r5 := Row.keep r5 hb8
      replace rR := Row.keep rR hb8
      replace r8 := Row.keep r8 hb8
      replace hsv := Rd.below hsv hb8
      replace hev := Rd.below hev hb8
      replace hB := Bel.to hB hb8
      clear hb8 cF1 rg9 bel
      by_cases h1 : firstR C a b true false = T
      ·have ht1 : (f1 == (T : Int)) = true := by rw [hq1.2 h1];simp
       have hl1 : (limbs (s + exN d m a b true)).length ≤ 64 := by
        have e := hpart.out
        unfold wrX at e
        rw [if_pos h1] at e
        have hle : s + exN d m a b true ≤ PT := by have := hs.out;unfold wrX at this;omega
        have := limbs_len_le hle
        have := hPT3.out
        omega
       obtain ⟨s1,hs1d⟩ : ∃ s1,s1 = s + exN d m a b true := ⟨_,rfl⟩
       have hs1 : Hid (s1 = S0 + sumTo (fun a => sumTo (wrX d m C T a) (m - a)) a + sumTo (wrX d m C T a) b + (if firstR C a b true false = T then exN d m a b true else 0)) := by show _ = _;rw [if_pos h1,hs1d,hs.out]
       rw [← hs1d] at hl1
       have cS := hide (fun X (h1 : NV X (.slice sa sn sc) s) (h2 : NV X (.slice ea el ec) (exN d m a b true)) => rsum_any _ _ s (exN d m a b true) X h1 h2 (by rw [← hs1d];exact hl1))
       rw [← hs1d] at cS
       have c5 := r5.cell? 0
       have c8 := r8.cell? 0
       simp only [List.getElem?_cons_zero] at c5 c8
       clear h1 hq1 hs1d
       go_wp2_with fail
       refine (cS.out _ hsv hev).mono ?_
       rintro e w10 ⟨u,rfl,hu,hb10⟩
       obtain ⟨za,zl,zc,rfl⟩ := Rd.shape hu
       replace r5 := Row.keep r5 hb10
       replace rR := Row.keep rR hb10
       replace r8 := Row.keep r8 hb10
       replace hev := Rd.below hev hb10
       replace hB := Bel.to hB hb10
       clear hb10 cS c5 c8 hsv hl1
       have c6 := r5.cell? 0
       have f6 := r5.frozen 0
       simp only [List.getElem?_cons_zero] at c6
       have hz2 := Rd.setNe hu c6 (fun _ h => by cases h) (.slice za zl zc)
       have r52 := Row.set r5 0 (.slice za zl zc)
       simp only [zsB] at r52
       have rR2 := Row.far rR (p := ⟨b5,0,none⟩) (by simp only [];omega) (.slice za zl zc)
       have hB2 := Bel.st hB (p := ⟨b5,0,none⟩) h5W (.slice za zl zc)
       have r82 := Row.far r8 (p := ⟨b5,0,none⟩) (by simp only [];omega) (.slice za zl zc)
       have hev2 := Rd.setNe hev c6 (fun _ h => by cases h) (.slice za zl zc)
       go_upto_region 13 with (fail)
       obtain ⟨w11,hw11⟩ : ∃ X,X = w10.setCell ⟨b5,0,none⟩ (.slice za zl zc) := ⟨_,rfl⟩
       rw [← hw11] at hz2 r52 rR2 hB2 r82 hev2 ⊢
       clear hw11 hu r5 rR hB r8 hev c6 f6
       have r5 := r52
       have rR := rR2
       have hB := hB2
       have r8 := r82
       have hev := hev2
       have hsv := hz2
       clear r52 rR2 hB2 r82 hev2 hz2
       have bel := Bel.to bW hB
       have rg9 := r0.keep hB
       have cF2 := hide (cF.out a b false false _ bel)
       obtain ⟨f2,hf2⟩ : ∃ f,f = firstGo (metB a b false false) g.tiers 0 := ⟨_,rfl⟩
       rw [← hf2] at cF2
       have hq2 := hFst.out a b false false hal2.out
       rw [← hf2] at hq2
       clear hf2
       go_wp2_with (first | (refine wpList_load_row rfl 25 _ rfl _ rfl _ _ _ _ rg9 Tryz.underlying25 rfl (by kernel_rfl) ?_) | fail)
       refine cF2.out.mono ?_
       rintro e w9 ⟨rfl,hb9⟩
       replace r5 := Row.keep r5 hb9
       replace rR := Row.keep rR hb9
       replace r8 := Row.keep r8 hb9
       replace hsv := Rd.below hsv hb9
       replace hev := Rd.below hev hb9
       replace hB := Bel.to hB hb9
       clear hb9 cF2 rg9 bel
       by_cases h2 : firstR C a b false false = T
       ·have ht2 : (f2 == (T : Int)) = true := by rw [hq2.2 h2];simp
        have hl2 : (limbs (s1 + (exN d m a b false - exN d m a b true))).length ≤ 64 := by
         have e := hpart.out
         have eX : wrX d m C T a b = (if firstR C a b true false = T then exN d m a b true else 0) + (exN d m a b false - exN d m a b true) := by unfold wrX;rw [if_pos h2]
         have hle : s1 + (exN d m a b false - exN d m a b true) ≤ PT := by have := hs1.out;omega
         have := limbs_len_le hle
         have := hPT3.out
         omega
        have hs3 : Hid (s1 + (exN d m a b false - exN d m a b true) = S0 + sumTo (fun a => sumTo (wrX d m C T a) (m - a)) a + sumTo (wrX d m C T a) (b + 1)) := by
         show _ = _
         rw [sumTo]
         unfold wrX
         rw [if_pos h2]
         have e := hs1.out
         unfold wrX at e
         omega
        have hr0 : w9.rangeAt w.heap.size 0 [.string g.name,.int .i64 g.kind,.int .i64 g.price,.int .i64 g.main,.int .i64 g.of,.int .i64 g.bonus,.int .i64 g.bonusOf,.int .i64 g.extra,.int .i64 g.draws,.int .i64 g.system,.int .i64 g.days,.int .i64 g.at_,.int .i64 g.close,.int .i64 g.cancel,.int .i64 g.expiry,.int .i64 g.pool,.int .i64 g.reserve,.int .i64 g.round,.int .i64 g.cap,.int .i64 g.rolls,(.slice aa an ac),(.slice ta tn tc)] := fun j u hu => by rw [Nat.zero_add];exact ((r0.keep hB).cell? j).trans hu
        have c5 := r5.cell? 0
        have c8 := r8.cell? 0
        simp only [List.getElem?_cons_zero] at c5 c8
        clear h2 hq2 hpart hs1 hs
        go_upto_region 14 with (fail)
        refine till_begin 8 (fun X => X.cell? ⟨b5,0,none⟩ = some (.slice za zl zc) ∧ X.cell? ⟨b8,0,none⟩ = some (.slice ea el ec) ∧ X.rangeAt w.heap.size 0 [.string g.name,.int .i64 g.kind,.int .i64 g.price,.int .i64 g.main,.int .i64 g.of,.int .i64 g.bonus,.int .i64 g.bonusOf,.int .i64 g.extra,.int .i64 g.draws,.int .i64 g.system,.int .i64 g.days,.int .i64 g.at_,.int .i64 g.close,.int .i64 g.cancel,.int .i64 g.expiry,.int .i64 g.pool,.int .i64 g.reserve,.int .i64 g.round,.int .i64 g.cap,.int .i64 g.rolls,(.slice aa an ac),(.slice ta tn tc)]) (by kernel_rfl) (⟨c5,c8,hr0⟩) (fun hHeld => ?_)
        refine' till_take (i := 0) (oi := _) (v := .agg #[.slice za zl zc]) rfl (by kernel_rfl) (by kernel_rfl) (by kernel_rfl) (by kernel_rfl) (fun _ _ _ h => h) (Or.inl ⟨by first | (go_simp;done) | rfl,fun X hX => by have h0 := hX.1;go_simp⟩) hHeld ?_
        try simp only [List.getElem_toArray,List.getElem_cons_zero,List.getElem_cons_succ,Act.put,zsA,zsB,zsC]
        refine' till_take (i := 1) (oi := _) (v := .agg #[.string g.name,.int .i64 g.kind,.int .i64 g.price,.int .i64 g.main,.int .i64 g.of,.int .i64 g.bonus,.int .i64 g.bonusOf,.int .i64 g.extra,.int .i64 g.draws,.int .i64 g.system,.int .i64 g.days,.int .i64 g.at_,.int .i64 g.close,.int .i64 g.cancel,.int .i64 g.expiry,.int .i64 g.pool,.int .i64 g.reserve,.int .i64 g.round,.int .i64 g.cap,.int .i64 g.rolls,(.slice aa an ac),(.slice ta tn tc)]) rfl (by kernel_rfl) (by kernel_rfl) (by kernel_rfl) (by kernel_rfl) (fun _ _ _ h => h) (by refine (yieldsIf_load_mid ?_ 25 (.tmp 2) rfl w.heap.size 0 ?_ [.string g.name,.int .i64 g.kind,.int .i64 g.price,.int .i64 g.main,.int .i64 g.of,.int .i64 g.bonus,.int .i64 g.bonusOf,.int .i64 g.extra,.int .i64 g.draws,.int .i64 g.system,.int .i64 g.days,.int .i64 g.at_,.int .i64 g.close,.int .i64 g.cancel,.int .i64 g.expiry,.int .i64 g.pool,.int .i64 g.reserve,.int .i64 g.round,.int .i64 g.cap,.int .i64 g.rolls,(.slice aa an ac),(.slice ta tn tc)] _ (fun X h => h.2.2) Tryz.underlying25 rfl (by kernel_rfl)) <;> go_simp) hHeld ?_
        try simp only [List.getElem_toArray,List.getElem_cons_zero,List.getElem_cons_succ,Act.put,zsA,zsB,zsC]
        refine' till_pure (i := 2) (oi := _) (v := .int .i64 (a : Int)) rfl (by kernel_rfl) (by kernel_rfl) (by kernel_rfl) (by kernel_rfl) (fun _ _ _ h => h) (Or.inl ⟨by first | (go_simp;done) | rfl,fun X _ => by go_simp⟩) hHeld ?_
        try simp only [List.getElem_toArray,List.getElem_cons_zero,List.getElem_cons_succ,Act.put,zsA,zsB,zsC]
        refine' till_pure (i := 3) (oi := _) (v := .int .i64 (b : Int)) rfl (by kernel_rfl) (by kernel_rfl) (by kernel_rfl) (by kernel_rfl) (fun _ _ _ h => h) (Or.inl ⟨by first | (go_simp;done) | rfl,fun X _ => by go_simp⟩) hHeld ?_
        try simp only [List.getElem_toArray,List.getElem_cons_zero,List.getElem_cons_succ,Act.put,zsA,zsB,zsC]
        refine' till_take (i := 5) (oi := _) (v := .agg #[.slice ea el ec]) rfl (by kernel_rfl) (by kernel_rfl) (by kernel_rfl) (by kernel_rfl) (fun _ _ _ h => h) (Or.inl ⟨by first | (go_simp;done) | rfl,fun X hX => by have h0 := hX.2.1;go_simp⟩) hHeld ?_
        try simp only [List.getElem_toArray,List.getElem_cons_zero,List.getElem_cons_succ,Act.put,zsA,zsB,zsC]
        obtain ⟨Y0,hY0⟩ : ∃ Y,Y = w9.drew := ⟨_,rfl⟩
        have hY1 : Below w9.heap.size w9 Y0 := by rw [hY0];exact Below.drew (Below.refl _ _)
        replace r5 := Row.keep r5 hY1
        replace hsv := Rd.below hsv hY1
        replace rR := Row.keep rR hY1
        replace hB := Bel.to hB hY1
        replace hev := Rd.below hev hY1
        rw [← hY0] at hHeld ⊢
        clear hY0 hY1 c5 c8 hr0
        refine till_ready (rs := [4]) (by kernel_rfl) (by simp) ?_
        refine TillReady.cons (o := _) rfl (fun K hK => ?_) TillReady.nil
        go_simp
        refine (cX.out a b false Y0 (Bel.to bW hB) hab2.out.1 hab2.out.2).mono ?_
        rintro e x1_4 ⟨u,rfl,hu,bx1_4⟩
        obtain ⟨ua,ul,uc,rfl⟩ := Rd.shape hu
        replace r5 := Row.keep r5 bx1_4
        replace hsv := Rd.below hsv bx1_4
        replace rR := Row.keep rR bx1_4
        replace hB := Bel.to hB bx1_4
        replace hev := Rd.below hev bx1_4
        go_wp2_with fail
        refine hK.out _ _ ⟨Bel.cellOf bx1_4 hHeld.1,Bel.cellOf bx1_4 hHeld.2.1,range_keep bx1_4 hHeld.2.2⟩ (fun hHeld => ?_)
        clear hK K bx1_4
        try simp only [List.getElem_toArray,List.getElem_cons_zero,List.getElem_cons_succ,Act.put,zsA,zsB,zsC]
        refine till_ready (rs := [6]) (by kernel_rfl) (by simp) ?_
        refine TillReady.cons (o := _) rfl (fun K hK => ?_) TillReady.nil
        go_simp
        refine (rless_any _ _ _ _ x1_4 hu hev hexl.out hex3.out).mono ?_
        rintro e x2_6 ⟨v,rfl,hv,bx2_6⟩
        obtain ⟨va,vl,vc,rfl⟩ := Rd.shape hv
        replace r5 := Row.keep r5 bx2_6
        replace hsv := Rd.below hsv bx2_6
        replace rR := Row.keep rR bx2_6
        replace hB := Bel.to hB bx2_6
        replace hev := Rd.below hev bx2_6
        replace hu := Rd.below hu bx2_6
        go_wp2_with fail
        refine hK.out _ _ ⟨Bel.cellOf bx2_6 hHeld.1,Bel.cellOf bx2_6 hHeld.2.1,range_keep bx2_6 hHeld.2.2⟩ (fun hHeld => ?_)
        clear hK K bx2_6
        try simp only [List.getElem_toArray,List.getElem_cons_zero,List.getElem_cons_succ,Act.put,zsA,zsB,zsC]
        refine till_ready (rs := [7]) (by kernel_rfl) (by simp) ?_
        refine TillReady.cons (o := _) rfl (fun K hK => ?_) TillReady.nil
        go_simp
        refine (rsum_any _ _ _ _ x2_6 hsv hv hl2).mono ?_
        rintro e x3_7 ⟨z,rfl,hz,bx3_7⟩
        obtain ⟨ya,yl,yc,rfl⟩ := Rd.shape hz
        replace r5 := Row.keep r5 bx3_7
        replace hsv := Rd.below hsv bx3_7
        replace rR := Row.keep rR bx3_7
        replace hB := Bel.to hB bx3_7
        replace hev := Rd.below hev bx3_7
        replace hu := Rd.below hu bx3_7
        replace hv := Rd.below hv bx3_7
        go_wp2_with fail
        refine hK.out _ _ ⟨Bel.cellOf bx3_7 hHeld.1,Bel.cellOf bx3_7 hHeld.2.1,range_keep bx3_7 hHeld.2.2⟩ (fun hHeld => ?_)
        clear hK K bx3_7
        try simp only [List.getElem_toArray,List.getElem_cons_zero,List.getElem_cons_succ,Act.put,zsA,zsB,zsC]
        have c6 := hHeld.1
        have f6 := r5.frozen 0
        refine till_ready (rs := [8]) (by kernel_rfl) (by simp) ?_
        refine TillReady.last (o := _) rfl (by kernel_rfl) (fun K hK => ?_) TillReady.nil
        go_simp
        refine hK.out _ _ ?_
        clear hK K
        try simp only [List.getElem_toArray,List.getElem_cons_zero,List.getElem_cons_succ,Act.put,zsA,zsB,zsC]
        refine till_done (by kernel_rfl) ?_ _
        go_simp
        have hz2 := Rd.setNe hz c6 (fun _ h => by cases h) (.slice ya yl yc)
        have r52 := Row.set r5 0 (.slice ya yl yc)
        simp only [zsB] at r52
        have rR2 := Row.far rR (p := ⟨b5,0,none⟩) (by simp only [];omega) (.slice ya yl yc)
        have hB2 := Bel.st hB (p := ⟨b5,0,none⟩) h5W (.slice ya yl yc)
        clear hz hsv r5 rR hB c6 f6 hev
        go_wp2
        go_roundg (m - a - (b + 1))
        case measure => have := hgb.out;have := hbl2.out;omega
        case rel => exact ⟨b + 1,_,ya,yl,yc,rfl,by have := hbl2.out;omega,by go_num,hs3,r52,hz2,rR2,hB2⟩
       ·have ht2 : (f2 == (T : Int)) = false := by simpa using fun e => h2 (hq2.1 e)
        have hs3 : Hid (s1 = S0 + sumTo (fun a => sumTo (wrX d m C T a) (m - a)) a + sumTo (wrX d m C T a) (b + 1)) := by
         show _ = _
         rw [sumTo]
         unfold wrX
         rw [if_neg h2]
         have e := hs1.out
         unfold wrX at e
         omega
        clear h2 hq2 hpart hs1 hs hev r8
        go_wp2
        go_roundg (m - a - (b + 1))
        case measure => have := hgb.out;have := hbl2.out;omega
        case rel => exact ⟨b + 1,_,za,zl,zc,rfl,by have := hbl2.out;omega,by go_num,hs3,r5,hsv,rR,hB⟩
      ·have ht1 : (f1 == (T : Int)) = false := by simpa using fun e => h1 (hq1.1 e)
       obtain ⟨s1,hs1d⟩ : ∃ s1,s1 = s := ⟨_,rfl⟩
       rw [← hs1d] at hsv
       have hs1 : Hid (s1 = S0 + sumTo (fun a => sumTo (wrX d m C T a) (m - a)) a + sumTo (wrX d m C T a) b + (if firstR C a b true false = T then exN d m a b true else 0)) := by show _ = _;rw [if_neg h1,hs1d,hs.out,Nat.add_zero]
       clear h1 hq1 hs1d
       have bel := Bel.to bW hB
       have rg9 := r0.keep hB
       have cF2 := hide (cF.out a b false false _ bel)
       obtain ⟨f2,hf2⟩ : ∃ f,f = firstGo (metB a b false false) g.tiers 0 := ⟨_,rfl⟩
       rw [← hf2] at cF2
       have hq2 := hFst.out a b false false hal2.out
       rw [← hf2] at hq2
       clear hf2
       go_wp2_with (first | (refine wpList_load_row rfl 25 _ rfl _ rfl _ _ _ _ rg9 Tryz.underlying25 rfl (by kernel_rfl) ?_) | fail)
       refine cF2.out.mono ?_
       rintro e w9 ⟨rfl,hb9⟩
       replace r5 := Row.keep r5 hb9
       replace rR := Row.keep rR hb9
       replace r8 := Row.keep r8 hb9
       replace hsv := Rd.below hsv hb9
       replace hev := Rd.below hev hb9
       replace hB := Bel.to hB hb9
       clear hb9 cF2 rg9 bel
       by_cases h2 : firstR C a b false false = T
       ·have ht2 : (f2 == (T : Int)) = true := by rw [hq2.2 h2];simp
        have hl2 : (limbs (s1 + (exN d m a b false - exN d m a b true))).length ≤ 64 := by
         have e := hpart.out
         have eX : wrX d m C T a b = (if firstR C a b true false = T then exN d m a b true else 0) + (exN d m a b false - exN d m a b true) := by unfold wrX;rw [if_pos h2]
         have hle : s1 + (exN d m a b false - exN d m a b true) ≤ PT := by have := hs1.out;omega
         have := limbs_len_le hle
         have := hPT3.out
         omega
        have hs3 : Hid (s1 + (exN d m a b false - exN d m a b true) = S0 + sumTo (fun a => sumTo (wrX d m C T a) (m - a)) a + sumTo (wrX d m C T a) (b + 1)) := by
         show _ = _
         rw [sumTo]
         unfold wrX
         rw [if_pos h2]
         have e := hs1.out
         unfold wrX at e
         omega
        have hr0 : w9.rangeAt w.heap.size 0 [.string g.name,.int .i64 g.kind,.int .i64 g.price,.int .i64 g.main,.int .i64 g.of,.int .i64 g.bonus,.int .i64 g.bonusOf,.int .i64 g.extra,.int .i64 g.draws,.int .i64 g.system,.int .i64 g.days,.int .i64 g.at_,.int .i64 g.close,.int .i64 g.cancel,.int .i64 g.expiry,.int .i64 g.pool,.int .i64 g.reserve,.int .i64 g.round,.int .i64 g.cap,.int .i64 g.rolls,(.slice aa an ac),(.slice ta tn tc)] := fun j u hu => by rw [Nat.zero_add];exact ((r0.keep hB).cell? j).trans hu
        have c5 := r5.cell? 0
        have c8 := r8.cell? 0
        simp only [List.getElem?_cons_zero] at c5 c8
        clear h2 hq2 hpart hs1 hs
        go_upto_region 14 with (fail)
        refine till_begin 8 (fun X => X.cell? ⟨b5,0,none⟩ = some (.slice sa sn sc) ∧ X.cell? ⟨b8,0,none⟩ = some (.slice ea el ec) ∧ X.rangeAt w.heap.size 0 [.string g.name,.int .i64 g.kind,.int .i64 g.price,.int .i64 g.main,.int .i64 g.of,.int .i64 g.bonus,.int .i64 g.bonusOf,.int .i64 g.extra,.int .i64 g.draws,.int .i64 g.system,.int .i64 g.days,.int .i64 g.at_,.int .i64 g.close,.int .i64 g.cancel,.int .i64 g.expiry,.int .i64 g.pool,.int .i64 g.reserve,.int .i64 g.round,.int .i64 g.cap,.int .i64 g.rolls,(.slice aa an ac),(.slice ta tn tc)]) (by kernel_rfl) (⟨c5,c8,hr0⟩) (fun hHeld => ?_)
        refine' till_take (i := 0) (oi := _) (v := .agg #[.slice sa sn sc]) rfl (by kernel_rfl) (by kernel_rfl) (by kernel_rfl) (by kernel_rfl) (fun _ _ _ h => h) (Or.inl ⟨by first | (go_simp;done) | rfl,fun X hX => by have h0 := hX.1;go_simp⟩) hHeld ?_
        try simp only [List.getElem_toArray,List.getElem_cons_zero,List.getElem_cons_succ,Act.put,zsA,zsB,zsC]
        refine' till_take (i := 1) (oi := _) (v := .agg #[.string g.name,.int .i64 g.kind,.int .i64 g.price,.int .i64 g.main,.int .i64 g.of,.int .i64 g.bonus,.int .i64 g.bonusOf,.int .i64 g.extra,.int .i64 g.draws,.int .i64 g.system,.int .i64 g.days,.int .i64 g.at_,.int .i64 g.close,.int .i64 g.cancel,.int .i64 g.expiry,.int .i64 g.pool,.int .i64 g.reserve,.int .i64 g.round,.int .i64 g.cap,.int .i64 g.rolls,(.slice aa an ac),(.slice ta tn tc)]) rfl (by kernel_rfl) (by kernel_rfl) (by kernel_rfl) (by kernel_rfl) (fun _ _ _ h => h) (by refine (yieldsIf_load_mid ?_ 25 (.tmp 2) rfl w.heap.size 0 ?_ [.string g.name,.int .i64 g.kind,.int .i64 g.price,.int .i64 g.main,.int .i64 g.of,.int .i64 g.bonus,.int .i64 g.bonusOf,.int .i64 g.extra,.int .i64 g.draws,.int .i64 g.system,.int .i64 g.days,.int .i64 g.at_,.int .i64 g.close,.int .i64 g.cancel,.int .i64 g.expiry,.int .i64 g.pool,.int .i64 g.reserve,.int .i64 g.round,.int .i64 g.cap,.int .i64 g.rolls,(.slice aa an ac),(.slice ta tn tc)] _ (fun X h => h.2.2) Tryz.underlying25 rfl (by kernel_rfl)) <;> go_simp) hHeld ?_
        try simp only [List.getElem_toArray,List.getElem_cons_zero,List.getElem_cons_succ,Act.put,zsA,zsB,zsC]
        refine' till_pure (i := 2) (oi := _) (v := .int .i64 (a : Int)) rfl (by kernel_rfl) (by kernel_rfl) (by kernel_rfl) (by kernel_rfl) (fun _ _ _ h => h) (Or.inl ⟨by first | (go_simp;done) | rfl,fun X _ => by go_simp⟩) hHeld ?_
        try simp only [List.getElem_toArray,List.getElem_cons_zero,List.getElem_cons_succ,Act.put,zsA,zsB,zsC]
        refine' till_pure (i := 3) (oi := _) (v := .int .i64 (b : Int)) rfl (by kernel_rfl) (by kernel_rfl) (by kernel_rfl) (by kernel_rfl) (fun _ _ _ h => h) (Or.inl ⟨by first | (go_simp;done) | rfl,fun X _ => by go_simp⟩) hHeld ?_
        try simp only [List.getElem_toArray,List.getElem_cons_zero,List.getElem_cons_succ,Act.put,zsA,zsB,zsC]
        refine' till_take (i := 5) (oi := _) (v := .agg #[.slice ea el ec]) rfl (by kernel_rfl) (by kernel_rfl) (by kernel_rfl) (by kernel_rfl) (fun _ _ _ h => h) (Or.inl ⟨by first | (go_simp;done) | rfl,fun X hX => by have h0 := hX.2.1;go_simp⟩) hHeld ?_
        try simp only [List.getElem_toArray,List.getElem_cons_zero,List.getElem_cons_succ,Act.put,zsA,zsB,zsC]
        obtain ⟨Y0,hY0⟩ : ∃ Y,Y = w9.drew := ⟨_,rfl⟩
        have hY1 : Below w9.heap.size w9 Y0 := by rw [hY0];exact Below.drew (Below.refl _ _)
        replace r5 := Row.keep r5 hY1
        replace hsv := Rd.below hsv hY1
        replace rR := Row.keep rR hY1
        replace hB := Bel.to hB hY1
        replace hev := Rd.below hev hY1
        rw [← hY0] at hHeld ⊢
        clear hY0 hY1 c5 c8 hr0
        refine till_ready (rs := [4]) (by kernel_rfl) (by simp) ?_
        refine TillReady.cons (o := _) rfl (fun K hK => ?_) TillReady.nil
        go_simp
        refine (cX.out a b false Y0 (Bel.to bW hB) hab2.out.1 hab2.out.2).mono ?_
        rintro e x1_4 ⟨u,rfl,hu,bx1_4⟩
        obtain ⟨ua,ul,uc,rfl⟩ := Rd.shape hu
        replace r5 := Row.keep r5 bx1_4
        replace hsv := Rd.below hsv bx1_4
        replace rR := Row.keep rR bx1_4
        replace hB := Bel.to hB bx1_4
        replace hev := Rd.below hev bx1_4
        go_wp2_with fail
        refine hK.out _ _ ⟨Bel.cellOf bx1_4 hHeld.1,Bel.cellOf bx1_4 hHeld.2.1,range_keep bx1_4 hHeld.2.2⟩ (fun hHeld => ?_)
        clear hK K bx1_4
        try simp only [List.getElem_toArray,List.getElem_cons_zero,List.getElem_cons_succ,Act.put,zsA,zsB,zsC]
        refine till_ready (rs := [6]) (by kernel_rfl) (by simp) ?_
        refine TillReady.cons (o := _) rfl (fun K hK => ?_) TillReady.nil
        go_simp
        refine (rless_any _ _ _ _ x1_4 hu hev hexl.out hex3.out).mono ?_
        rintro e x2_6 ⟨v,rfl,hv,bx2_6⟩
        obtain ⟨va,vl,vc,rfl⟩ := Rd.shape hv
        replace r5 := Row.keep r5 bx2_6
        replace hsv := Rd.below hsv bx2_6
        replace rR := Row.keep rR bx2_6
        replace hB := Bel.to hB bx2_6
        replace hev := Rd.below hev bx2_6
        replace hu := Rd.below hu bx2_6
        go_wp2_with fail
        refine hK.out _ _ ⟨Bel.cellOf bx2_6 hHeld.1,Bel.cellOf bx2_6 hHeld.2.1,range_keep bx2_6 hHeld.2.2⟩ (fun hHeld => ?_)
        clear hK K bx2_6
        try simp only [List.getElem_toArray,List.getElem_cons_zero,List.getElem_cons_succ,Act.put,zsA,zsB,zsC]
        refine till_ready (rs := [7]) (by kernel_rfl) (by simp) ?_
        refine TillReady.cons (o := _) rfl (fun K hK => ?_) TillReady.nil
        go_simp
        refine (rsum_any _ _ _ _ x2_6 hsv hv hl2).mono ?_
        rintro e x3_7 ⟨z,rfl,hz,bx3_7⟩
        obtain ⟨za,zl,zc,rfl⟩ := Rd.shape hz
        replace r5 := Row.keep r5 bx3_7
        replace hsv := Rd.below hsv bx3_7
        replace rR := Row.keep rR bx3_7
        replace hB := Bel.to hB bx3_7
        replace hev := Rd.below hev bx3_7
        replace hu := Rd.below hu bx3_7
        replace hv := Rd.below hv bx3_7
        go_wp2_with fail
        refine hK.out _ _ ⟨Bel.cellOf bx3_7 hHeld.1,Bel.cellOf bx3_7 hHeld.2.1,range_keep bx3_7 hHeld.2.2⟩ (fun hHeld => ?_)
        clear hK K bx3_7
        try simp only [List.getElem_toArray,List.getElem_cons_zero,List.getElem_cons_succ,Act.put,zsA,zsB,zsC]
        have c6 := hHeld.1
        have f6 := r5.frozen 0
        refine till_ready (rs := [8]) (by kernel_rfl) (by simp) ?_
        refine TillReady.last (o := _) rfl (by kernel_rfl) (fun K hK => ?_) TillReady.nil
        go_simp
        refine hK.out _ _ ?_
        clear hK K
        try simp only [List.getElem_toArray,List.getElem_cons_zero,List.getElem_cons_succ,Act.put,zsA,zsB,zsC]
        refine till_done (by kernel_rfl) ?_ _
        go_simp
        have hz2 := Rd.setNe hz c6 (fun _ h => by cases h) (.slice za zl zc)
        have r52 := Row.set r5 0 (.slice za zl zc)
        simp only [zsB] at r52
        have rR2 := Row.far rR (p := ⟨b5,0,none⟩) (by simp only [];omega) (.slice za zl zc)
        have hB2 := Bel.st hB (p := ⟨b5,0,none⟩) h5W (.slice za zl zc)
        clear hz hsv r5 rR hB c6 f6 hev
        go_wp2
        go_roundg (m - a - (b + 1))
        case measure => have := hgb.out;have := hbl2.out;omega
        case rel => exact ⟨b + 1,_,za,zl,zc,rfl,by have := hbl2.out;omega,by go_num,hs3,r52,hz2,rR2,hB2⟩
       ·have ht2 : (f2 == (T : Int)) = false := by simpa using fun e => h2 (hq2.1 e)
        have hs3 : Hid (s1 = S0 + sumTo (fun a => sumTo (wrX d m C T a) (m - a)) a + sumTo (wrX d m C T a) (b + 1)) := by
         show _ = _
         rw [sumTo]
         unfold wrX
         rw [if_neg h2]
         have e := hs1.out
         unfold wrX at e
         omega
        clear h2 hq2 hpart hs1 hs hev r8
        go_wp2
        go_roundg (m - a - (b + 1))
        case measure => have := hgb.out;have := hbl2.out;omega
        case rel => exact ⟨b + 1,_,sa,sn,sc,rfl,by have := hbl2.out;omega,by go_num,hs3,r5,hsv,rR,hB⟩
     ·have hbn : b = m - a := by omega
      have bi : ¬ (a : Int) + (b : Int) < (m : Int) := by have := hal2.out;omega
      have hs2 : Hid (s = S0 + sumTo (fun a => sumTo (wrX d m C T a) (m - a)) (a + 1)) := by show _ = _;rw [sumTo,hs.out,hbn,Nat.add_assoc]
      replace hbn := hide hbn
      clear hs hbl
      go_wp2
      go_roundg (m - (a + 1))
      case measure => have := hga.out;have := hal2.out;omega
      case rel => exact ⟨a + 1,s,sa,sn,sc,rfl,by have := hal2.out;omega,by go_num,hs2,r5,hsv,rR,hB⟩
   ·obtain rfl : a = m := by omega
    have hp : NV wr (.slice sa sn sc) PT := by rw [hPT2.out,← hs.out];exact hsv
    have c5 := r5.cell? 0
    simp only [List.getElem?_cons_zero] at c5
    have bel := Bel.to bW hB
    clear hsv hs
    have cR := rR.cell? 0
    have fR := rR.frozen 0
    simp only [List.getElem?_cons_zero] at cR
    have hf := Rd.setNe hp cR (fun _ h => by cases h) (.slice sa sn sc)
    have belf := Bel.st bel (p := ⟨w.heap.size + 1,0,none⟩) (by simp only [];omega) (.slice sa sn sc)
    go_wp2
    exact bodyPost_ret (v := .agg #[(.slice sa sn sc)]) (by simp [results,Tryz.results31,go_sem,cR]) rfl ⟨_,rfl,hf,belf⟩
end Go.Proofs.YtldikghldcefcaaGreat
end

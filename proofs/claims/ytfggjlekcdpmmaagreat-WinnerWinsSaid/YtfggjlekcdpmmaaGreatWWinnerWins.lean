/- WinnerWins: for every input the Go function lotterylaw34.WinnerWins returns true, and each argument reads afterwards as before. Conditions: none. -/
import Derived.Test.YtfggjlekcdpmmaaGreatRows
import Derived.WalkKit
import Derived.ProofKit
import Derived.OpenShut
import Derived.ChangeOld
import Derived.Below
import Derived.Test.YtfggjlekcdpmmaaGreatHWinC
import Derived.Test.YtfggjlekcdpmmaaGreatHTrodB
import Derived.Test.YtfggjlekcdpmmaaGreatHWinE
import Derived.Test.YtfggjlekcdpmmaaGreatHTrod
section
open Go.RowKit
set_option linter.unusedVariables false
set_option linter.unusedSimpArgs false
namespace Go.Proofs.YtfggjlekcdpmmaaGreat
set_option maxHeartbeats 16000000 in
set_option maxRecDepth 100000 in
theorem wins34_walk (g : GameD) (av tv : Value) (ms : List AddonM) (v : Value) (tm : List TickM) (nn : Int) (mv bv xv : Value) (r : ResD) (w : World) (rg : GameR w av tv ms g) (rt : TicketsR w v tm) (rd : ResR w mv bv xv r) (hin : InI nn) :
  Calls Tryz.prog 3 #[gameVal g av tv,v,drawVal nn mv bv xv r] w (BoolB true w) := by
 have cG := hide (fun X (hX : Below w.heap.size w X) => small25_any g av tv ms w X rg hX)
 have cF := hide (fun X (hX : Below w.heap.size w X) => few34_any v tm 8 w X rt hX (by decide))
 have cR := hide (fun X (hX : Below w.heap.size w X) => result34_cut mv bv xv r w X rd hX)
 obtain ⟨aa,ac,rfl,-,-⟩ := rg.1.1.shape
 obtain ⟨ta,tc,rfl,-,-⟩ := rg.2.2.shape
 obtain ⟨ka,kc,rfl,-,-⟩ := rt.1.shape
 obtain ⟨ma,mc,rfl,-,-,-⟩ := rd.1.form
 obtain ⟨ba,bc,rfl,-,-,-⟩ := rd.2.1.form
 obtain ⟨xa,xc,rfl,-,-,-⟩ := rd.2.2.form
 obtain ⟨kn,hkn⟩ : ∃ n,n = tm.length := ⟨_,rfl⟩
 rw [← hkn] at cF ⊢
 clear rg rt rd hkn
 unfold gameVal at cG
 unfold ResC resVal at cR
 unfold gameVal drawVal
 go_enter Tryz.func3,Tryz.ntmps3
 go_upto_region 1 with (fail)
 obtain ⟨W,hW⟩ : ∃ W,W = ((w.alloc (Obj.cells #[.string g.name,.int .i64 g.kind,.int .i64 g.price,.int .i64 g.main,.int .i64 g.of,.int .i64 g.bonus,.int .i64 g.bonusOf,.int .i64 g.extra,.int .i64 g.draws,.int .i64 g.system,.int .i64 g.days,.int .i64 g.at_,.int .i64 g.close,.int .i64 g.cancel,.int .i64 g.expiry,.int .i64 g.pool,.int .i64 g.reserve,.int .i64 g.round,.int .i64 g.cap,.int .i64 g.rolls,(.slice aa ms.length ac),(.slice ta g.tiers.length tc)] 25)).alloc (Obj.cells #[.int .i64 nn,.slice ma r.main.length mc,.slice ba r.bonus.length bc,.slice xa r.extra.length xc,.int .i64 r.factor,.string r.serial] 31)) := ⟨_,rfl⟩
 have bW : Below w.heap.size w W := by rw [hW];exact Bel.al (Bel.al (Below.refl _ _) _) _
 have r0 : GameAt W (w.heap.size) g ((.slice aa ms.length ac)) ((.slice ta g.tiers.length tc)) := by rw [hW];exact Row.alloc (Row.new _ _ _) _
 have r1 : Row W ((w.heap.size + 1)) 31 [.int .i64 nn,.slice ma r.main.length mc,.slice ba r.bonus.length bc,.slice xa r.extra.length xc,.int .i64 r.factor,.string r.serial] := by rw [hW];exact Row.at2 _ _ _ _
 have sW : w.heap.size + 1 < W.heap.size := by rw [hW];simp
 rw [← hW]
 clear hW
 go_wp2_with (first | (refine wpList_load_row rfl 25 _ rfl _ rfl _ _ _ _ r0 Tryz.underlying25 rfl (by kernel_rfl) ?_) | fail)
 refine (cG.out _ bW).mono ?_
 rintro e w1 ⟨g1,av1,tv1,ms1,rfl,K1,hgt,hb1⟩
 obtain ⟨aa1,ac1,rfl,-,-⟩ := (K1.now hb1 bW).1.1.shape
 obtain ⟨ta1,tc1,rfl,-,-⟩ := (K1.now hb1 bW).2.2.shape
 have B1 := Bel.to bW hb1
 go_wp2_with fail
 refine (cF.out _ B1).mono ?_
 rintro e w2 ⟨u2,tm1,rfl,K2,htm,hb2⟩
 obtain ⟨ka1,kc1,rfl,-,-⟩ := (K2.now hb2 B1).1.shape
 have B2 := Bel.to B1 hb2
 have q0 := Row.keep (Row.keep r0 hb1) hb2
 have q1 := Row.keep (Row.keep r1 hb1) hb2
 go_upto_region 2 with (first | ((with_reducible refine wpList_store_game rfl _ _ rfl w.heap.size g1 _ _ rfl rfl ⟨_,_,_,rfl⟩ ⟨_,_,_,rfl⟩ _ q0 ?_ ?_);(rfl);intro A rA gA) | fail)
 have bA : Below w.heap.size w A := B2.grown gA B2.size (fun q hq => by injection hq with hq;omega)
 have HG : ∀ X,Below A.heap.size A X → GameR X (.slice aa1 ms1.length ac1) (.slice ta1 g1.tiers.length tc1) ms1 g1 := fun X hX =>
  K1 X (Bel.to bA hX) (((SameR.refl W.heap.size w1).keep hb2 |>.then gA (fun q hq => by injection hq with hq;omega)).keep hX)
 have HT : ∀ X,Below A.heap.size A X → TicketsR X (.slice ka1 tm1.length kc1) tm1 := fun X hX =>
  K2 X (Bel.to bA hX) (((SameR.refl w1.heap.size w2).then gA (fun q hq => by injection hq with hq;have := hb1.size;omega)).keep hX)
 have rD := Row.grown q1 gA (by simp)
 clear K1 K2 q0 q1 r0 r1 gA hb1 hb2 B1 B2 bW cG cF
 have hrD : A.drew.rangeAt (w.heap.size + 1) 1 [.slice ma r.main.length mc,.slice ba r.bonus.length bc,.slice xa r.extra.length xc,.int .i64 r.factor,.string r.serial] := by
  intro j u hu
  have h9 : ([.int .i64 nn,.slice ma r.main.length mc,.slice ba r.bonus.length bc,.slice xa r.extra.length xc,.int .i64 r.factor,.string r.serial] : List Value)[1 + j]? = some u := by rw [Nat.add_comm,List.getElem?_cons_succ];exact hu
  show A.cell? _ = _
  rw [rD.cell?]
  exact h9
 have xD : A.drew.cell? ⟨w.heap.size + 1,0,none⟩ = some (.int .i64 nn) := (rD.cell? 0).trans rfl
 replace HG := hide HG
 replace HT := hide HT
 obtain ⟨ts,hts⟩ : ∃ ts,ts = tm1.map (·.d) := ⟨_,rfl⟩
 obtain ⟨P,hP⟩ : ∃ P,P = winsP g1 ts nn (cutR r) := ⟨_,rfl⟩
 obtain ⟨tn1,htn1⟩ : ∃ n,n = tm1.length := ⟨_,rfl⟩
 rw [← htn1] at HT ⊢
 replace hts := hide hts
 replace hP := hide hP
 replace htn1 := hide htn1
 obtain ⟨E0,c⟩ := P
 have bd : Below A.heap.size A A.drew := Below.drewSelf A
 have bAd := Bel.to bA bd
 go_upto_region 2 with (fail)
 refine wp_region_held_drew (S := fun X => (Rng X [(w.heap.size,gameCells g1 (.slice aa1 ms1.length ac1) (.slice ta1 g1.tiers.length tc1))] ∧ X.rangeAt (w.heap.size + 1) 1 [.slice ma r.main.length mc,.slice ba r.bonus.length bc,.slice xa r.extra.length xc,.int .i64 r.factor,.string r.serial]) ∧ X.cell? ⟨w.heap.size + 1,0,none⟩ = some (.int .i64 nn)) (by kernel_rfl) (⟨⟨Rng.drew (Rng.cons rA (Rng.nil _)),hrD⟩,xD⟩) (fun hHeld => ?_)
 refine' wpAnyH_take (i := 0) (oi := _) (v := _) rfl (by kernel_rfl) (by kernel_rfl) (by kernel_rfl) (fun _ _ _ h => h) (yieldsIf_load_mid (by first | (go_simp;done) | rfl) 25 (.tmp 3) rfl (w.heap.size) (0) rfl (gameCells g1 (.slice aa1 ms1.length ac1) (.slice ta1 g1.tiers.length tc1)) _ (fun X h => Rng.at0 h.1.1) Tryz.underlying25 rfl (by kernel_rfl)) hHeld ?_
 try simp only [Act.put,zsA,zsB,zsC]
 refine' wpAnyH_take (i := 1) (oi := _) (v := .slice ka1 tn1 kc1) rfl (by kernel_rfl) (by kernel_rfl) (by kernel_rfl) (fun _ _ _ h => h) (Or.inl ⟨by first | (go_simp;done) | rfl,fun X _ => by go_simp⟩) hHeld ?_
 try simp only [Act.put,zsA,zsB,zsC]
 refine' wpAnyH_take (i := 2) (oi := _) (v := .pointer (some ⟨w.heap.size + 1,0,none⟩)) rfl (by kernel_rfl) (by kernel_rfl) (by kernel_rfl) (fun _ _ _ h => h) (Or.inl ⟨by first | (go_simp;done) | rfl,fun X _ => by go_simp⟩) hHeld ?_
 try simp only [Act.put,zsA,zsB,zsC]
 refine' wpAnyH_take (i := 3) (oi := _) (v := .int .i64 nn) rfl (by kernel_rfl) (by kernel_rfl) (by kernel_rfl) (fun _ _ _ h => h) (Or.inl ⟨by first | (go_simp;done) | rfl,fun X hX => by have cX := hX.2;go_simp⟩) hHeld ?_
 try simp only [Act.put,zsA,zsB,zsC]
 refine' wpAnyH_take (i := 4) (oi := _) (v := .pointer (some ⟨w.heap.size + 1,1,none⟩)) rfl (by kernel_rfl) (by kernel_rfl) (by kernel_rfl) (fun _ _ _ h => h) (Or.inl ⟨by first | (go_simp;done) | rfl,fun X _ => by go_simp⟩) hHeld ?_
 try simp only [Act.put,zsA,zsB,zsC]
 refine' wpAnyH_take (i := 5) (oi := _) (v := .agg #[.slice ma r.main.length mc,.slice ba r.bonus.length bc,.slice xa r.extra.length xc,.int .i64 r.factor,.string r.serial]) rfl (by kernel_rfl) (by kernel_rfl) (by kernel_rfl) (fun _ _ _ h => h) (by refine (yieldsIf_load_mid ?_ 29 (.tmp 20) rfl (w.heap.size + 1) (1) ?_ ([.slice ma r.main.length mc,.slice ba r.bonus.length bc,.slice xa r.extra.length xc,.int .i64 r.factor,.string r.serial]) _ (fun X h => h.1.2) Tryz.underlying29 rfl (by kernel_rfl)) <;> go_simp) hHeld ?_
 try simp only [Act.put,zsA,zsB,zsC]
 refine wpAnyH_ready (rs := [6]) (by kernel_rfl) (by simp) ?_
 refine AllReadyH.cons (o := _) rfl (fun K hK => ?_) AllReadyH.nil
 go_simp
 refine (cR.out _ (bAd)).mono ?_
 rintro e w3 ⟨mv1,bv1,xv1,rfl,K3,hs1,hbw3⟩
 obtain ⟨ma1,mc1,rfl,-,-,-⟩ := (K3 w3 (Bel.to (bAd) hbw3)).1.form
 obtain ⟨ba1,bc1,rfl,-,-,-⟩ := (K3 w3 (Bel.to (bAd) hbw3)).2.1.form
 obtain ⟨xa1,xc1,rfl,-,-,-⟩ := (K3 w3 (Bel.to (bAd) hbw3)).2.2.form
 go_wp2_with fail
 refine hK.out _ _ (⟨⟨Rng.keep hHeld.1.1 hbw3,fun j u hu => Bel.cellOf hbw3 (hHeld.1.2 j u hu)⟩,Bel.cellOf hbw3 hHeld.2⟩) (fun hHeld => ?_)
 clear hK K
 try simp only [Act.put,zsA,zsB,zsC]
 have cW1 := wins_any g1 _ _ _ _ _ _ ms1 tm1 nn (cutR r) w3 (HG.out w3 (Bel.to bd hbw3)) (HT.out w3 (Bel.to bd hbw3)) (K3 w3 (Bel.to (bAd) hbw3)) (by omega) hin (by have := htm;omega)
 rw [← hts.out,← hP.out] at cW1
 simp only [] at cW1
 unfold gameVal resVal at cW1
 replace cW1 := hide cW1
 refine wpAnyH_ready (rs := [7]) (by kernel_rfl) (by simp) ?_
 refine AllReadyH.cons (o := _) rfl (fun K hK => ?_) AllReadyH.nil
 go_simp
 refine (cW1.out).mono ?_
 rintro e w4 ⟨v1,rfl,ho1,hbw4⟩
 obtain ⟨ea1,ec1,rfl⟩ := OwnS.shape ho1
 go_wp2_with fail
 refine hK.out _ _ (⟨⟨Rng.keep hHeld.1.1 hbw4,fun j u hu => Bel.cellOf hbw4 (hHeld.1.2 j u hu)⟩,Bel.cellOf hbw4 hHeld.2⟩) (fun hHeld => ?_)
 clear hK K
 try simp only [Act.put,zsA,zsB,zsC]
 refine' wpAnyH_take (i := 8) (oi := _) (v := .tuple #[.slice ea1 E0.length ec1,.int .i64 c]) rfl (by kernel_rfl) (by kernel_rfl) (by kernel_rfl) (fun _ _ _ h => h) (Or.inl ⟨by first | (go_simp;done) | rfl,fun X _ => by go_simp⟩) hHeld ?_
 try simp only [Act.put,zsA,zsB,zsC]
 refine' wpAnyH_take (i := 9) (oi := _) (v := .slice ea1 E0.length ec1) rfl (by kernel_rfl) (by kernel_rfl) (by kernel_rfl) (fun _ _ _ h => h) (Or.inl ⟨by first | (go_simp;done) | rfl,fun X _ => by go_simp⟩) hHeld ?_
 try simp only [Act.put,zsA,zsB,zsC]
 refine' wpAnyH_take (i := 10) (oi := _) (v := .int .i64 c) rfl (by kernel_rfl) (by kernel_rfl) (by kernel_rfl) (fun _ _ _ h => h) (Or.inl ⟨by first | (go_simp;done) | rfl,fun X _ => by go_simp⟩) hHeld ?_
 try simp only [Act.put,zsA,zsB,zsC]
 refine' wpAnyH_take (i := 11) (oi := _) (v := .slice ea1 E0.length ec1) rfl (by kernel_rfl) (by kernel_rfl) (by kernel_rfl) (fun _ _ _ h => h) (Or.inl ⟨by first | (go_simp;done) | rfl,fun X _ => by go_simp⟩) hHeld ?_
 try simp only [Act.put,zsA,zsB,zsC]
 refine' wpAnyH_take (i := 12) (oi := _) (v := .int .i64 c) rfl (by kernel_rfl) (by kernel_rfl) (by kernel_rfl) (fun _ _ _ h => h) (Or.inl ⟨by first | (go_simp;done) | rfl,fun X _ => by go_simp⟩) hHeld ?_
 try simp only [Act.put,zsA,zsB,zsC]
 refine wpAnyH_done (by kernel_rfl) ?_ _
 go_simp
 have h14 := hHeld
 have r1A : w4.heap.size ≤ w4.heap.size := Nat.le_refl _
 have bA4 := Bel.to (Bel.to bd hbw3) hbw4
 have rA4 := Row.keep rA bA4
 have rD4 := Row.keep rD bA4
 have hrD4 : w4.drew.rangeAt (w.heap.size + 1) 1 [.slice ma r.main.length mc,.slice ba r.bonus.length bc,.slice xa r.extra.length xc,.int .i64 r.factor,.string r.serial] := h14.1.2
 have xD4 : w4.drew.cell? ⟨w.heap.size + 1,0,none⟩ = some (.int .i64 nn) := h14.2
 have B4 := Bel.to bA bA4
 have bd4 : Below w4.heap.size w4 w4.drew := Below.drewSelf w4
 have bA4d := Bel.to bA4 bd4
 have B4d := Bel.to B4 bd4
 clear hHeld
 go_wp2
 go_upto_region 3 with (fail)
 refine wp_region_held_drew (S := fun X => (Rng X [(w.heap.size,gameCells g1 (.slice aa1 ms1.length ac1) (.slice ta1 g1.tiers.length tc1))] ∧ X.rangeAt (w.heap.size + 1) 1 [.slice ma r.main.length mc,.slice ba r.bonus.length bc,.slice xa r.extra.length xc,.int .i64 r.factor,.string r.serial]) ∧ X.cell? ⟨w.heap.size + 1,0,none⟩ = some (.int .i64 nn)) (by kernel_rfl) (⟨⟨Rng.drew (Rng.cons rA4 (Rng.nil _)),hrD4⟩,xD4⟩) (fun hHeld => ?_)
 refine' wpAnyH_take (i := 0) (oi := _) (v := _) rfl (by kernel_rfl) (by kernel_rfl) (by kernel_rfl) (fun _ _ _ h => h) (yieldsIf_load_mid (by first | (go_simp;done) | rfl) 25 (.tmp 3) rfl (w.heap.size) (0) rfl (gameCells g1 (.slice aa1 ms1.length ac1) (.slice ta1 g1.tiers.length tc1)) _ (fun X h => Rng.at0 h.1.1) Tryz.underlying25 rfl (by kernel_rfl)) hHeld ?_
 try simp only [Act.put,zsA,zsB,zsC]
 refine' wpAnyH_take (i := 1) (oi := _) (v := .slice ka1 tn1 kc1) rfl (by kernel_rfl) (by kernel_rfl) (by kernel_rfl) (fun _ _ _ h => h) (Or.inl ⟨by first | (go_simp;done) | rfl,fun X _ => by go_simp⟩) hHeld ?_
 try simp only [Act.put,zsA,zsB,zsC]
 refine' wpAnyH_take (i := 2) (oi := _) (v := .pointer (some ⟨w.heap.size + 1,0,none⟩)) rfl (by kernel_rfl) (by kernel_rfl) (by kernel_rfl) (fun _ _ _ h => h) (Or.inl ⟨by first | (go_simp;done) | rfl,fun X _ => by go_simp⟩) hHeld ?_
 try simp only [Act.put,zsA,zsB,zsC]
 refine' wpAnyH_take (i := 3) (oi := _) (v := .int .i64 nn) rfl (by kernel_rfl) (by kernel_rfl) (by kernel_rfl) (fun _ _ _ h => h) (Or.inl ⟨by first | (go_simp;done) | rfl,fun X hX => by have cX := hX.2;go_simp⟩) hHeld ?_
 try simp only [Act.put,zsA,zsB,zsC]
 refine' wpAnyH_take (i := 4) (oi := _) (v := .pointer (some ⟨w.heap.size + 1,1,none⟩)) rfl (by kernel_rfl) (by kernel_rfl) (by kernel_rfl) (fun _ _ _ h => h) (Or.inl ⟨by first | (go_simp;done) | rfl,fun X _ => by go_simp⟩) hHeld ?_
 try simp only [Act.put,zsA,zsB,zsC]
 refine' wpAnyH_take (i := 5) (oi := _) (v := .agg #[.slice ma r.main.length mc,.slice ba r.bonus.length bc,.slice xa r.extra.length xc,.int .i64 r.factor,.string r.serial]) rfl (by kernel_rfl) (by kernel_rfl) (by kernel_rfl) (fun _ _ _ h => h) (by refine (yieldsIf_load_mid ?_ 29 (.tmp 31) rfl (w.heap.size + 1) (1) ?_ ([.slice ma r.main.length mc,.slice ba r.bonus.length bc,.slice xa r.extra.length xc,.int .i64 r.factor,.string r.serial]) _ (fun X h => h.1.2) Tryz.underlying29 rfl (by kernel_rfl)) <;> go_simp) hHeld ?_
 try simp only [Act.put,zsA,zsB,zsC]
 refine wpAnyH_ready (rs := [6]) (by kernel_rfl) (by simp) ?_
 refine AllReadyH.cons (o := _) rfl (fun K hK => ?_) AllReadyH.nil
 go_simp
 refine (cR.out _ (B4d)).mono ?_
 rintro e w5 ⟨mv2,bv2,xv2,rfl,K5,hs2,hbw5⟩
 obtain ⟨ma2,mc2,rfl,-,-,-⟩ := (K5 w5 (Bel.to (B4d) hbw5)).1.form
 obtain ⟨ba2,bc2,rfl,-,-,-⟩ := (K5 w5 (Bel.to (B4d) hbw5)).2.1.form
 obtain ⟨xa2,xc2,rfl,-,-,-⟩ := (K5 w5 (Bel.to (B4d) hbw5)).2.2.form
 go_wp2_with fail
 refine hK.out _ _ (⟨⟨Rng.keep hHeld.1.1 hbw5,fun j u hu => Bel.cellOf hbw5 (hHeld.1.2 j u hu)⟩,Bel.cellOf hbw5 hHeld.2⟩) (fun hHeld => ?_)
 clear hK K
 try simp only [Act.put,zsA,zsB,zsC]
 have cW2 := rwins_any g1 _ _ _ _ _ _ ms1 tm1 nn (cutR r) w5 (HG.out w5 (Bel.to bA4d hbw5)) (HT.out w5 (Bel.to bA4d hbw5)) (K5 w5 (Bel.to (B4d) hbw5)) (by omega) hin (by have := htm;omega)
 rw [← hts.out,← hP.out] at cW2
 simp only [] at cW2
 unfold gameVal resVal at cW2
 replace cW2 := hide cW2
 refine wpAnyH_ready (rs := [7]) (by kernel_rfl) (by simp) ?_
 refine AllReadyH.cons (o := _) rfl (fun K hK => ?_) AllReadyH.nil
 go_simp
 refine (cW2.out).mono ?_
 rintro e w6 ⟨v2,rfl,ho2,hbw6⟩
 obtain ⟨ea2,ec2,rfl⟩ := OwnS.shape ho2
 go_wp2_with fail
 refine hK.out _ _ (⟨⟨Rng.keep hHeld.1.1 hbw6,fun j u hu => Bel.cellOf hbw6 (hHeld.1.2 j u hu)⟩,Bel.cellOf hbw6 hHeld.2⟩) (fun hHeld => ?_)
 clear hK K
 try simp only [Act.put,zsA,zsB,zsC]
 refine' wpAnyH_take (i := 8) (oi := _) (v := .tuple #[.slice ea2 E0.length ec2,.int .i64 c]) rfl (by kernel_rfl) (by kernel_rfl) (by kernel_rfl) (fun _ _ _ h => h) (Or.inl ⟨by first | (go_simp;done) | rfl,fun X _ => by go_simp⟩) hHeld ?_
 try simp only [Act.put,zsA,zsB,zsC]
 refine' wpAnyH_take (i := 9) (oi := _) (v := .slice ea2 E0.length ec2) rfl (by kernel_rfl) (by kernel_rfl) (by kernel_rfl) (fun _ _ _ h => h) (Or.inl ⟨by first | (go_simp;done) | rfl,fun X _ => by go_simp⟩) hHeld ?_
 try simp only [Act.put,zsA,zsB,zsC]
 refine' wpAnyH_take (i := 10) (oi := _) (v := .int .i64 c) rfl (by kernel_rfl) (by kernel_rfl) (by kernel_rfl) (fun _ _ _ h => h) (Or.inl ⟨by first | (go_simp;done) | rfl,fun X _ => by go_simp⟩) hHeld ?_
 try simp only [Act.put,zsA,zsB,zsC]
 refine' wpAnyH_take (i := 11) (oi := _) (v := .slice ea2 E0.length ec2) rfl (by kernel_rfl) (by kernel_rfl) (by kernel_rfl) (fun _ _ _ h => h) (Or.inl ⟨by first | (go_simp;done) | rfl,fun X _ => by go_simp⟩) hHeld ?_
 try simp only [Act.put,zsA,zsB,zsC]
 refine' wpAnyH_take (i := 12) (oi := _) (v := .int .i64 c) rfl (by kernel_rfl) (by kernel_rfl) (by kernel_rfl) (fun _ _ _ h => h) (Or.inl ⟨by first | (go_simp;done) | rfl,fun X _ => by go_simp⟩) hHeld ?_
 try simp only [Act.put,zsA,zsB,zsC]
 refine wpAnyH_done (by kernel_rfl) ?_ _
 go_simp
 clear hHeld
 have b46 := Bel.to (Bel.to bd4 hbw5) hbw6
 have B6 := Bel.to B4 b46
 have cS := samewins_any _ _ _ _ w6 (RdS.below (OwnWin.rd ho1) b46) (OwnWin.rd ho2)
 rw [show decide (E0 = E0) = true from decide_eq_true rfl] at cS
 have hcc : (c == c) = true := by simp
 replace cS := hide cS
 clear ho1 ho2 h14
 go_wp2_with fail
 refine cS.out.mono ?_
 rintro e w98 ⟨rfl,hb98⟩
 go_wp2_with fail
 refine (works34_any _).mono ?_
 rintro e w99 ⟨rfl,hb99⟩
 go_wp2
 go_ret
 exact ⟨rfl,Bel.to (Bel.to B6 hb98) hb99⟩
end Go.Proofs.YtfggjlekcdpmmaaGreat
end
section
namespace Go.Proofs.YtfggjlekcdpmmaaGreat.winnerWins
open Go.ChangeShapes Go.WideShapes Go.ChangeAt Go.RowKit
set_option linter.unusedVariables false
theorem own : ownKnob Tryz.prog.godebug = none := by kernel_rfl
theorem laidOut : laidOutB Tryz.prog = true := by kernel_rfl
set_option maxRecDepth 100000 in
theorem lifted (os : Os) (started : os.Started) (H : Type) (enc : TypeId × Value → H) :
  ReturnsInHanded {} Tryz.checked os 3 .any (Rows.winnerWinsSpec.pre6 enc Tryz.prog Tryz.f3 Rows.winnerWinsRow.domain false) (Rows.winnerWinsSpec.post enc Tryz.prog Tryz.f3 false true false false) := by
 refine returnsInHanded_of_change (C := Tryz.checked) own started (by kernel_rfl) Tryz.func3
  (ChangeSpec.witness6 (enc := enc) (C := Tryz.checked) false ⟨#[],#[.agg #[.string ⟨#[]⟩,.int .i64 0,.int .i64 0,.int .i64 0,.int .i64 0,.int .i64 0,.int .i64 0,.int .i64 0,.int .i64 0,.int .i64 0,.int .i64 0,.int .i64 0,.int .i64 0,.int .i64 0,.int .i64 0,.int .i64 0,.int .i64 0,.int .i64 0,.int .i64 0,.int .i64 0,.slice none 0 0,.slice none 0 0],.slice none 0 0,.agg #[.int .i64 0,.slice none 0 0,.slice none 0 0,.slice none 0 0,.int .i64 0,.string ⟨#[]⟩]],[]⟩ 8 (by kernel_rfl) (by kernel_rfl) (by kernel_rfl) (by kernel_rfl)) ?_
 intro W base args ds gs before hval0 hW hcnd _
 have hval : ∀ (j : Nat) t v,Tryz.f3.params[j]? = some t → args[j]? = some v → Value.okWide Tryz.prog W .any base t v := hval0
 have hW' := hW
 obtain ⟨p,q,hA0,hV,rfl,hfz,hnd⟩ := hW
 have hA : DataW.TrodAll enc Tryz.prog W 0 (fun _ => true) true Tryz.f3.params.toList args.toList ds p := hA0
 rw [Tryz.params3] at hA hval
 obtain ⟨v0,vs0,d0,ds0,p0,q0,hargs,rfl,rfl,h0,r0⟩ := trodAll_cons hA
 obtain ⟨v1,vs1,d1,ds1,p1,q1,rfl,rfl,rfl,h1,r1⟩ := trodAll_cons r0
 obtain ⟨v2,vs2,d2,ds2,p2,q2,rfl,rfl,rfl,h2,r2⟩ := trodAll_cons r1
 obtain ⟨rfl,rfl,rfl⟩ := trodAll_nil r2
 obtain rfl : args = #[v0,v1,v2] := by cases args;simp_all
 obtain ⟨rfl,rfl⟩ := trodVars_none hV
 obtain ⟨cs0,rfl,hsz0⟩ := okWide_struct Tryz.underlying25 (hval 0 25 v0 rfl rfl)
 have k0 := h0
 have lt0 : ∀ x ∈ p0,x.block < W.heap.size := by obtain ⟨m,hm⟩ := k0;exact DataW.trod_lt m _ _ _ hm
 obtain ⟨g0,av0,tv0,ms0,eg0,rg0⟩ := game_trod h0
 rw [eg0] at k0 hW' ⊢
 obtain ⟨a1,len1,cap1,rfl⟩ := okWide_slice Tryz.underlying26 (hval 1 26 v1 rfl rfl)
 have k1 := h1
 have lt1 : ∀ x ∈ p1,x.block < W.heap.size := by obtain ⟨m,hm⟩ := k1;exact DataW.trod_lt m _ _ _ hm
 obtain ⟨ms1,rg1⟩ := tickets_open h1
 obtain ⟨cs2,rfl,hsz2⟩ := okWide_struct Tryz.underlying31 (hval 2 31 v2 rfl rfl)
 have k2 := h2
 have lt2 : ∀ x ∈ p2,x.block < W.heap.size := by obtain ⟨m,hm⟩ := k2;exact DataW.trod_lt m _ _ _ hm
 obtain ⟨nn2,dm2,db2,dx2,dr2,eg2,rg2,in2⟩ := draw_open h2
 rw [eg2] at k2 hW' ⊢
 clear hA0 hval0
 refine (wins34_walk g0 av0 tv0 ms0 _ ms1 nn2 dm2 db2 dx2 dr2 W rg0 rg1 rg2 in2).mono fun e W' ⟨he,bel⟩ => ?_
 subst he
 exact ⟨_,rfl,_,_,_,[],_,[],hW',trodAll_mk1 (shut_bool Tryz.underlying4 _),(trodAll_cons_mk (Below.trod laidOut (by kernel_rfl) (of_decide_eq_true (by kernel_rfl)) k0 bel lt0) (trodAll_cons_mk (Below.trod laidOut (by kernel_rfl) (of_decide_eq_true (by kernel_rfl)) k1 bel lt1) (trodAll_cons_mk (Below.trod laidOut (by kernel_rfl) (of_decide_eq_true (by kernel_rfl)) k2 bel lt2) trodAll_mk0))),rfl,bel.frame _,fun h => by cases h⟩
theorem over : Rows.winnerWinsRow.holds Tryz.pinned (OpenSpec.ofChange Rows.winnerWinsSpec) :=
 OpenClaim.holds_of_wide 3 Tryz.f3 rfl rfl rfl rfl rfl rfl rfl ⟨rfl,rfl,rfl,rfl,rfl⟩ rfl rfl rfl rfl rfl (by kernel_rfl) Tryz.func3 (by kernel_rfl)
  (of_decide_eq_true (by kernel_rfl)) (by unfold Func.isWrapper;first | (rw [if_pos (by decide +kernel)];kernel_rfl) | (rw [if_neg (by decide +kernel)];exact ⟨rfl,rfl⟩))
  (fun os started H enc _ => lifted os started H enc)
theorem proved : Rows.WinnerWinsSaid := over
#print axioms proved
end Go.Proofs.YtfggjlekcdpmmaaGreat.winnerWins
end

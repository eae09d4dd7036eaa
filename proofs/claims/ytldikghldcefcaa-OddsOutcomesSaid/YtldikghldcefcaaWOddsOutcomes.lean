/- OddsOutcomes: for every input the Go function lotterylaw35.OddsOutcomes returns true, and each argument reads afterwards as before. Conditions: none. -/
import Derived.Test.YtldikghldcefcaaRows
import Derived.WalkKit
import Derived.ProofKit
import Derived.OpenShut
import Derived.ChangeOld
import Derived.Below
import Derived.Test.YtldikghldcefcaaHI
import Derived.Test.YtldikghldcefcaaHJ
import Derived.Test.YtldikghldcefcaaHK
section
open Go.RowKit
set_option linter.unusedVariables false
set_option linter.unusedSimpArgs false
namespace Go.Proofs.Ytldikghldcefcaa
set_option maxHeartbeats 8000000 in
set_option maxRecDepth 100000 in
theorem outcomes35_any (g : GameD) (av tv : Value) (ms : List AddonM) (w : World) (rg : GameR w av tv ms g) :
  Calls Try.prog 3 #[gameVal g av tv] w (BoolB true w) := by
 have cA := hide (fun X => awake35_any X)
 have cF := hide (fun X (hX : Below w.heap.size w X) => few35_any g av tv ms X (rg.below hX))
 have cO := hide (fun X (hX : Below w.heap.size w X) => oOut_any g av tv ms X (rg.below hX))
 have cR := hide (fun X (hX : Below w.heap.size w X) => rOut_any g av tv ms X (rg.below hX))
 obtain ⟨N,hN⟩ : ∃ N,N = (outV g).1 := ⟨_,rfl⟩
 obtain ⟨C,hC⟩ : ∃ C,C = (outV g).2 := ⟨_,rfl⟩
 rw [← hN,← hC] at cO cR
 obtain ⟨aa,ac,rfl,hal,ham⟩ := rg.1.1.shape
 obtain ⟨ta,tc,rfl,htl,htm⟩ := rg.2.2.shape
 obtain ⟨an,han⟩ : ∃ an,an = ms.length := ⟨_,rfl⟩
 obtain ⟨tn,htn⟩ : ∃ tn,tn = g.tiers.length := ⟨_,rfl⟩
 rw [← han,← htn] at cF cO cR ⊢
 clear rg hal ham htl htm han htn hN hC
 unfold gameVal at cF cO cR ⊢
 go_enter Try.func3,Try.ntmps3
 go_upto_region 1 with (fail)
 obtain ⟨W,hW⟩ : ∃ W,W = (w.alloc (Obj.cells #[.string g.name,.int .i64 g.kind,.int .i64 g.price,.int .i64 g.main,.int .i64 g.of,.int .i64 g.bonus,.int .i64 g.bonusOf,.int .i64 g.extra,.int .i64 g.draws,.int .i64 g.system,.int .i64 g.days,.int .i64 g.at_,.int .i64 g.close,.int .i64 g.cancel,.int .i64 g.expiry,.int .i64 g.pool,.int .i64 g.reserve,.int .i64 g.round,.int .i64 g.cap,.int .i64 g.rolls,(.slice aa an ac),(.slice ta tn tc)] 25)) := ⟨_,rfl⟩
 have bel : Below w.heap.size w W := by rw [hW];exact Bel.al (Below.refl _ _) _
 have r0 : GameAt W w.heap.size g (.slice aa an ac) (.slice ta tn tc) := by rw [hW];exact Row.new _ _ _
 rw [← hW]
 clear hW
 have cF2 := hide (cF.out W bel)
 clear cF
 go_wp2_with (first | (refine wpList_load_row rfl 25 _ rfl _ rfl _ _ _ _ r0 Try.underlying25 rfl (by kernel_rfl) ?_) | fail)
 refine cF2.out.mono ?_
 rintro e w1 ⟨bb,rfl,-,hb⟩
 replace bel := Bel.to bel hb
 replace r0 := r0.keep hb
 clear cF2 hb
 cases bb
 ·go_wp2_with fail
  refine (cA.out _).mono ?_
  rintro e wz ⟨rfl,hz⟩
  go_wp2
  go_ret
  exact ⟨rfl,Bel.to bel hz⟩
 ·have cO2 := hide (cO.out w1 bel)
  clear cO
  go_wp2_with (first | (refine wpList_load_row rfl 25 _ rfl _ rfl _ _ _ _ r0 Try.underlying25 rfl (by kernel_rfl) ?_) | fail)
  refine cO2.out.mono ?_
  rintro e w2 ⟨u,rfl,hu,hb⟩
  obtain ⟨ua,ul,uc,rfl⟩ := Rd.shape hu
  replace bel := Bel.to bel hb
  replace r0 := r0.keep hb
  clear cO2 hb
  go_upto_region 4 with (fail)
  obtain ⟨w3,hw3⟩ : ∃ X,X = w2.alloc (.cells #[.slice ua ul uc] 30) := ⟨_,rfl⟩
  have bw3 : Below w2.heap.size w2 w3 := by rw [hw3];exact Bel.al (Below.refl _ _) _
  have r3 : Row w3 w2.heap.size 30 [.slice ua ul uc] := by rw [hw3];exact Row.newOf _ rfl
  rw [← hw3]
  clear hw3
  replace bel := Bel.to bel bw3
  replace r0 := r0.keep bw3
  replace hu := Rd.below hu bw3
  obtain ⟨b3,hb3⟩ : ∃ b,b = w2.heap.size := ⟨_,rfl⟩
  rw [← hb3] at r3 ⊢
  clear bw3 hb3
  have cR2 := hide (cR.out w3 bel)
  clear cR
  go_wp2_with (first | (refine wpList_load_row rfl 25 _ rfl _ rfl _ _ _ _ r0 Try.underlying25 rfl (by kernel_rfl) ?_) | fail)
  refine cR2.out.mono ?_
  rintro e w4 ⟨v,rfl,hv,hb⟩
  obtain ⟨va,vl,vc,rfl⟩ := Rd.shape hv
  replace bel := Bel.to bel hb
  replace hu := Rd.below hu hb
  replace r3 := Row.keep r3 hb
  clear cR2 hb r0
  go_upto_region 5 with (fail)
  obtain ⟨w5,hw5⟩ : ∃ X,X = w4.alloc (.cells #[.slice va vl vc] 30) := ⟨_,rfl⟩
  have bw5 : Below w4.heap.size w4 w5 := by rw [hw5];exact Bel.al (Below.refl _ _) _
  have r5 : Row w5 w4.heap.size 30 [.slice va vl vc] := by rw [hw5];exact Row.newOf _ rfl
  rw [← hw5]
  clear hw5
  replace bel := Bel.to bel bw5
  replace r3 := Row.keep r3 bw5
  replace hu := Rd.below hu bw5
  replace hv := Rd.below hv bw5
  obtain ⟨b5,hb5⟩ : ∃ b,b = w4.heap.size := ⟨_,rfl⟩
  rw [← hb5] at r5 ⊢
  clear bw5 hb5
  have cS := hide (same_nats _ _ N N w5 hu hv)
  have hNN : (N = N) = True := by simp
  rw [decide_eq_true rfl] at cS
  clear hNN hu hv
  go_wp2_with (first | (refine wpList_load_row_if (by first | (go_simp;done) | rfl) 30 _ rfl _ rfl _ _ _ r3 Try.underlying30 rfl (by kernel_rfl) ?_) | (refine wpList_load_row_if (by first | (go_simp;done) | rfl) 30 _ rfl _ rfl _ _ _ r5 Try.underlying30 rfl (by kernel_rfl) ?_) | fail)
  refine cS.out.mono ?_
  rintro e w6 ⟨rfl,hb⟩
  replace bel := Bel.to bel hb
  clear hb cS r3 r5
  go_wp2_with fail
  refine (cA.out _).mono ?_
  rintro e wz ⟨rfl,hz⟩
  go_wp2
  go_ret
  exact ⟨rfl,Bel.to bel hz⟩
end Go.Proofs.Ytldikghldcefcaa
end
section
namespace Go.Proofs.Ytldikghldcefcaa.oddsOutcomes
open Go.ChangeShapes Go.WideShapes Go.ChangeAt Go.RowKit
set_option linter.unusedVariables false
theorem own : ownKnob Try.prog.godebug = none := by kernel_rfl
theorem laidOut : laidOutB Try.prog = true := by kernel_rfl
set_option maxRecDepth 100000 in
theorem lifted (os : Os) (started : os.Started) (H : Type) (enc : TypeId × Value → H) :
  ReturnsInHanded {} Try.checked os 3 .any (Rows.oddsOutcomesSpec.pre6 enc Try.prog Try.f3 Rows.oddsOutcomesRow.domain false) (Rows.oddsOutcomesSpec.post enc Try.prog Try.f3 false true false false) := by
 refine returnsInHanded_of_change (C := Try.checked) own started (by kernel_rfl) Try.func3
  (ChangeSpec.witness6 (enc := enc) (C := Try.checked) false ⟨#[],#[.agg #[.string ⟨#[]⟩,.int .i64 0,.int .i64 0,.int .i64 0,.int .i64 0,.int .i64 0,.int .i64 0,.int .i64 0,.int .i64 0,.int .i64 0,.int .i64 0,.int .i64 0,.int .i64 0,.int .i64 0,.int .i64 0,.int .i64 0,.int .i64 0,.int .i64 0,.int .i64 0,.int .i64 0,.slice none 0 0,.slice none 0 0]],[]⟩ 8 (by kernel_rfl) (by kernel_rfl) (by kernel_rfl) (by kernel_rfl)) ?_
 intro W base args ds gs before hval0 hW hcnd _
 have hval : ∀ (j : Nat) t v,Try.f3.params[j]? = some t → args[j]? = some v → Value.okWide Try.prog W .any base t v := hval0
 have hW' := hW
 obtain ⟨p,q,hA0,hV,rfl,hfz,hnd⟩ := hW
 have hA : DataW.TrodAll enc Try.prog W 0 (fun _ => true) true Try.f3.params.toList args.toList ds p := hA0
 rw [Try.params3] at hA hval
 obtain ⟨v0,vs0,d0,ds0,p0,q0,hargs,rfl,rfl,h0,r0⟩ := trodAll_cons hA
 obtain ⟨rfl,rfl,rfl⟩ := trodAll_nil r0
 obtain rfl : args = #[v0] := by cases args;simp_all
 obtain ⟨rfl,rfl⟩ := trodVars_none hV
 obtain ⟨cs0,rfl,hsz0⟩ := okWide_struct Try.underlying25 (hval 0 25 v0 rfl rfl)
 have k0 := h0
 have lt0 : ∀ x ∈ p0,x.block < W.heap.size := by obtain ⟨m,hm⟩ := k0;exact DataW.trod_lt m _ _ _ hm
 obtain ⟨g0,av0,tv0,ms0,eg0,rg0⟩ := game_trod h0
 rw [eg0] at k0 hW' ⊢
 clear hA0 hval0
 refine (outcomes35_any g0 av0 tv0 ms0 W rg0).mono fun e W' ⟨he,bel⟩ => ?_
 subst he
 exact ⟨_,rfl,_,_,_,[],_,[],hW',trodAll_mk1 (shut_bool Try.underlying4 _),(trodAll_cons_mk (Below.trod laidOut (by kernel_rfl) (of_decide_eq_true (by kernel_rfl)) k0 bel lt0) trodAll_mk0),rfl,bel.frame _,fun h => by cases h⟩
theorem over : Rows.oddsOutcomesRow.holds Try.pinned (OpenSpec.ofChange Rows.oddsOutcomesSpec) :=
 OpenClaim.holds_of_wide 3 Try.f3 rfl rfl rfl rfl rfl rfl rfl ⟨rfl,rfl,rfl,rfl,rfl⟩ rfl rfl rfl rfl rfl (by kernel_rfl) Try.func3 (by kernel_rfl)
  (of_decide_eq_true (by kernel_rfl)) (by unfold Func.isWrapper;first | (rw [if_pos (by decide +kernel)];kernel_rfl) | (rw [if_neg (by decide +kernel)];exact ⟨rfl,rfl⟩))
  (fun os started H enc _ => lifted os started H enc)
theorem proved : Rows.OddsOutcomesSaid := over
#print axioms proved
end Go.Proofs.Ytldikghldcefcaa.oddsOutcomes
end

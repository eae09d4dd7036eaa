/- OddsTotals: for every input the Go function lotterylaw35.OddsTotals returns true, and each argument reads afterwards as before. Conditions: none. -/
import Derived.Test.YtldikghldcefcaaGreatRows
import Derived.WalkKit
import Derived.ProofKit
import Derived.OpenShut
import Derived.ChangeOld
import Derived.Below
import Derived.Test.YtldikghldcefcaaGreatHJ
import Derived.Test.YtldikghldcefcaaGreatHQt
import Derived.Test.YtldikghldcefcaaGreatHK
section
open Go.RowKit
set_option linter.unusedVariables false
set_option linter.unusedSimpArgs false
namespace Go.Proofs.YtldikghldcefcaaGreat
set_option maxHeartbeats 8000000 in
set_option maxRecDepth 100000 in
theorem totals35_any (g : GameD) (av tv : Value) (ms : List AddonM) (w : World) (rg : GameR w av tv ms g) :
  Calls Tryz.prog 4 #[gameVal g av tv] w (BoolB true w) := by
 have cA := hide (fun X => awake35_any X)
 have cF := hide (fun X (hX : Below w.heap.size w X) => few35_any g av tv ms X (rg.below hX))
 have d1 := hide (fun X (hX : Below w.heap.size w X) => oAny_val g av tv ms X (rg.below hX))
 have d2 := hide (fun X (hX : Below w.heap.size w X) => rAny_val g av tv ms X (rg.below hX))
 have d3 := hide (fun X (hX : Below w.heap.size w X) => oPay_val g av tv ms X (rg.below hX))
 have d4 := hide (fun X (hX : Below w.heap.size w X) => rPay_val g av tv ms X (rg.below hX))
 obtain ⟨P1,hP1⟩ : ∃ x,x = anyP g := ⟨_,rfl⟩
 obtain ⟨Q1,hQ1⟩ : ∃ x,x = anyQ g := ⟨_,rfl⟩
 obtain ⟨C1,hC1⟩ : ∃ x,x = gameE g := ⟨_,rfl⟩
 obtain ⟨P2,hP2⟩ : ∃ x,x = payP g := ⟨_,rfl⟩
 obtain ⟨Q2,hQ2⟩ : ∃ x,x = payQ g := ⟨_,rfl⟩
 obtain ⟨C2,hC2⟩ : ∃ x,x = gameE g := ⟨_,rfl⟩
 rw [← hP1,← hQ1,← hC1] at d1 d2
 rw [← hP2,← hQ2,← hC2] at d3 d4
 clear hP1 hQ1 hC1 hP2 hQ2 hC2
 obtain ⟨aa,ac,rfl,hal,ham⟩ := rg.1.1.shape
 obtain ⟨ta,tc,rfl,htl,htm⟩ := rg.2.2.shape
 obtain ⟨an,han⟩ : ∃ an,an = ms.length := ⟨_,rfl⟩
 obtain ⟨tn,htn⟩ : ∃ tn,tn = g.tiers.length := ⟨_,rfl⟩
 rw [← han,← htn] at cF d1 d2 d3 d4 ⊢
 clear rg hal ham htl htm han htn
 unfold gameVal at cF d1 d2 d3 d4 ⊢
 go_enter Tryz.func4,Tryz.ntmps4
 go_upto_region 1 with (fail)
 obtain ⟨W,hW⟩ : ∃ W,W = (w.alloc (Obj.cells #[.string g.name,.int .i64 g.kind,.int .i64 g.price,.int .i64 g.main,.int .i64 g.of,.int .i64 g.bonus,.int .i64 g.bonusOf,.int .i64 g.extra,.int .i64 g.draws,.int .i64 g.system,.int .i64 g.days,.int .i64 g.at_,.int .i64 g.close,.int .i64 g.cancel,.int .i64 g.expiry,.int .i64 g.pool,.int .i64 g.reserve,.int .i64 g.round,.int .i64 g.cap,.int .i64 g.rolls,(.slice aa an ac),(.slice ta tn tc)] 25)) := ⟨_,rfl⟩
 have bel : Below w.heap.size w W := by rw [hW];exact Bel.al (Below.refl _ _) _
 have r0 : GameAt W w.heap.size g (.slice aa an ac) (.slice ta tn tc) := by rw [hW];exact Row.new _ _ _
 rw [← hW]
 clear hW
 have cF2 := hide (cF.out W bel)
 clear cF
 go_wp2_with (first | (refine wpList_load_row rfl 25 _ rfl _ rfl _ _ _ _ r0 Tryz.underlying25 rfl (by kernel_rfl) ?_) | fail)
 refine cF2.out.mono ?_
 rintro e w1 ⟨bb,rfl,-,hb⟩
 replace bel := Bel.to bel hb
 replace r0 := r0.keep hb
 clear cF2 hb
 cases bb
 ·go_wp2_with fail
  refine (cA.out _).mono ?_
  rintro e wz ⟨rfl,hz⟩
  go_wp2
  go_ret
  exact ⟨rfl,Bel.to bel hz⟩
 ·skip
  have c1 := hide (d1.out w1 bel)
  clear d1
  go_wp2_with (first | (refine wpList_load_row rfl 25 _ rfl _ rfl _ _ _ _ r0 Tryz.underlying25 rfl (by kernel_rfl) ?_) | fail)
  refine c1.out.mono ?_
  rintro e x1 ⟨u1,v1,rfl,hu1,hv1,hb⟩
  obtain ⟨u1a,u1l,u1c,rfl⟩ := Rd.shape hu1
  obtain ⟨v1a,v1l,v1c,rfl⟩ := Rd.shape hv1
  replace bel := Bel.to bel hb
  replace r0 := r0.keep hb
  clear hb c1
  go_upto_region 4 with (fail)
  obtain ⟨y1,hy1⟩ : ∃ X,X = x1.alloc (.cells #[.slice u1a u1l u1c,.slice v1a v1l v1c] 35) := ⟨_,rfl⟩
  have by1 : Below x1.heap.size x1 y1 := by rw [hy1];exact Bel.al (Below.refl _ _) _
  have r1 : Row y1 x1.heap.size 35 [.slice u1a u1l u1c,.slice v1a v1l v1c] := by rw [hy1];exact Row.newOf _ rfl
  rw [← hy1]
  clear hy1
  replace bel := Bel.to bel by1
  replace r0 := r0.keep by1
  replace hu1 := Rd.below hu1 by1
  replace hv1 := Rd.below hv1 by1
  obtain ⟨q1,hq1⟩ : ∃ b,b = x1.heap.size := ⟨_,rfl⟩
  rw [← hq1] at r1 ⊢
  clear by1 hq1
  have c2 := hide (d2.out y1 bel)
  clear d2
  go_wp2_with (first | (refine wpList_load_row rfl 25 _ rfl _ rfl _ _ _ _ r0 Tryz.underlying25 rfl (by kernel_rfl) ?_) | fail)
  refine c2.out.mono ?_
  rintro e x2 ⟨u2,v2,rfl,hu2,hv2,hb⟩
  obtain ⟨u2a,u2l,u2c,rfl⟩ := Rd.shape hu2
  obtain ⟨v2a,v2l,v2c,rfl⟩ := Rd.shape hv2
  replace bel := Bel.to bel hb
  replace r0 := r0.keep hb
  replace hu1 := Rd.below hu1 hb
  replace hv1 := Rd.below hv1 hb
  replace r1 := Row.keep r1 hb
  clear hb c2
  go_upto_region 5 with (fail)
  obtain ⟨y2,hy2⟩ : ∃ X,X = x2.alloc (.cells #[.slice u2a u2l u2c,.slice v2a v2l v2c] 35) := ⟨_,rfl⟩
  have by2 : Below x2.heap.size x2 y2 := by rw [hy2];exact Bel.al (Below.refl _ _) _
  have r2 : Row y2 x2.heap.size 35 [.slice u2a u2l u2c,.slice v2a v2l v2c] := by rw [hy2];exact Row.newOf _ rfl
  rw [← hy2]
  clear hy2
  replace bel := Bel.to bel by2
  replace r0 := r0.keep by2
  replace hu1 := Rd.below hu1 by2
  replace hv1 := Rd.below hv1 by2
  replace r1 := Row.keep r1 by2
  replace hu2 := Rd.below hu2 by2
  replace hv2 := Rd.below hv2 by2
  obtain ⟨q2,hq2⟩ : ∃ b,b = x2.heap.size := ⟨_,rfl⟩
  rw [← hq2] at r2 ⊢
  clear by2 hq2
  have c3 := hide (d3.out y2 bel)
  clear d3
  go_wp2_with (first | (refine wpList_load_row rfl 25 _ rfl _ rfl _ _ _ _ r0 Tryz.underlying25 rfl (by kernel_rfl) ?_) | fail)
  refine c3.out.mono ?_
  rintro e x3 ⟨u3,v3,rfl,hu3,hv3,hb⟩
  obtain ⟨u3a,u3l,u3c,rfl⟩ := Rd.shape hu3
  obtain ⟨v3a,v3l,v3c,rfl⟩ := Rd.shape hv3
  replace bel := Bel.to bel hb
  replace r0 := r0.keep hb
  replace hu1 := Rd.below hu1 hb
  replace hv1 := Rd.below hv1 hb
  replace r1 := Row.keep r1 hb
  replace hu2 := Rd.below hu2 hb
  replace hv2 := Rd.below hv2 hb
  replace r2 := Row.keep r2 hb
  clear hb c3
  go_upto_region 6 with (fail)
  obtain ⟨y3,hy3⟩ : ∃ X,X = x3.alloc (.cells #[.slice u3a u3l u3c,.slice v3a v3l v3c] 35) := ⟨_,rfl⟩
  have by3 : Below x3.heap.size x3 y3 := by rw [hy3];exact Bel.al (Below.refl _ _) _
  have r3 : Row y3 x3.heap.size 35 [.slice u3a u3l u3c,.slice v3a v3l v3c] := by rw [hy3];exact Row.newOf _ rfl
  rw [← hy3]
  clear hy3
  replace bel := Bel.to bel by3
  replace r0 := r0.keep by3
  replace hu1 := Rd.below hu1 by3
  replace hv1 := Rd.below hv1 by3
  replace r1 := Row.keep r1 by3
  replace hu2 := Rd.below hu2 by3
  replace hv2 := Rd.below hv2 by3
  replace r2 := Row.keep r2 by3
  replace hu3 := Rd.below hu3 by3
  replace hv3 := Rd.below hv3 by3
  obtain ⟨q3,hq3⟩ : ∃ b,b = x3.heap.size := ⟨_,rfl⟩
  rw [← hq3] at r3 ⊢
  clear by3 hq3
  have c4 := hide (d4.out y3 bel)
  clear d4
  go_wp2_with (first | (refine wpList_load_row rfl 25 _ rfl _ rfl _ _ _ _ r0 Tryz.underlying25 rfl (by kernel_rfl) ?_) | fail)
  refine c4.out.mono ?_
  rintro e x4 ⟨u4,v4,rfl,hu4,hv4,hb⟩
  obtain ⟨u4a,u4l,u4c,rfl⟩ := Rd.shape hu4
  obtain ⟨v4a,v4l,v4c,rfl⟩ := Rd.shape hv4
  replace bel := Bel.to bel hb
  replace r0 := r0.keep hb
  replace hu1 := Rd.below hu1 hb
  replace hv1 := Rd.below hv1 hb
  replace r1 := Row.keep r1 hb
  replace hu2 := Rd.below hu2 hb
  replace hv2 := Rd.below hv2 hb
  replace r2 := Row.keep r2 hb
  replace hu3 := Rd.below hu3 hb
  replace hv3 := Rd.below hv3 hb
  replace r3 := Row.keep r3 hb
  clear hb c4
  go_upto_region 7 with (fail)
  obtain ⟨y4,hy4⟩ : ∃ X,X = x4.alloc (.cells #[.slice u4a u4l u4c,.slice v4a v4l v4c] 35) := ⟨_,rfl⟩
  have by4 : Below x4.heap.size x4 y4 := by rw [hy4];exact Bel.al (Below.refl _ _) _
  have r4 : Row y4 x4.heap.size 35 [.slice u4a u4l u4c,.slice v4a v4l v4c] := by rw [hy4];exact Row.newOf _ rfl
  rw [← hy4]
  clear hy4
  replace bel := Bel.to bel by4
  replace r0 := r0.keep by4
  replace hu1 := Rd.below hu1 by4
  replace hv1 := Rd.below hv1 by4
  replace r1 := Row.keep r1 by4
  replace hu2 := Rd.below hu2 by4
  replace hv2 := Rd.below hv2 by4
  replace r2 := Row.keep r2 by4
  replace hu3 := Rd.below hu3 by4
  replace hv3 := Rd.below hv3 by4
  replace r3 := Row.keep r3 by4
  replace hu4 := Rd.below hu4 by4
  replace hv4 := Rd.below hv4 by4
  obtain ⟨q4,hq4⟩ : ∃ b,b = x4.heap.size := ⟨_,rfl⟩
  rw [← hq4] at r4 ⊢
  clear by4 hq4
  clear r0
  have e1 : (C1 == C1) = true := by simp
  have e2 : (C2 == C2) = true := by simp
  have cS := rfsame_any _ _ _ _ P1 Q1 P1 Q1 y4 hu1 hv1 hu2 hv2
  rw [decide_eq_true ⟨rfl,rfl⟩] at cS
  replace cS := hide cS
  clear hu1 hv1 hu2 hv2
  go_wp2_with (first | (refine wpList_load_row_if (by first | (go_simp;done) | rfl) 35 _ rfl _ rfl _ _ _ r1 Tryz.underlying35 rfl (by kernel_rfl) ?_) | (refine wpList_load_row_if (by first | (go_simp;done) | rfl) 35 _ rfl _ rfl _ _ _ r2 Tryz.underlying35 rfl (by kernel_rfl) ?_) | fail)
  refine cS.out.mono ?_
  rintro e w6 ⟨rfl,hb⟩
  replace bel := Bel.to bel hb
  replace hu3 := Rd.below hu3 hb
  replace hv3 := Rd.below hv3 hb
  replace hu4 := Rd.below hu4 hb
  replace hv4 := Rd.below hv4 hb
  replace r3 := Row.keep r3 hb
  replace r4 := Row.keep r4 hb
  clear hb cS r1 r2
  have cT := rfsame_any _ _ _ _ P2 Q2 P2 Q2 w6 hu3 hv3 hu4 hv4
  rw [decide_eq_true ⟨rfl,rfl⟩] at cT
  replace cT := hide cT
  clear hu3 hv3 hu4 hv4
  go_wp2_with (first | (refine wpList_load_row_if (by first | (go_simp;done) | rfl) 35 _ rfl _ rfl _ _ _ r3 Tryz.underlying35 rfl (by kernel_rfl) ?_) | (refine wpList_load_row_if (by first | (go_simp;done) | rfl) 35 _ rfl _ rfl _ _ _ r4 Tryz.underlying35 rfl (by kernel_rfl) ?_) | fail)
  refine cT.out.mono ?_
  rintro e w7 ⟨rfl,hb⟩
  replace bel := Bel.to bel hb
  clear hb cT r3 r4
  go_wp2_with fail
  refine (cA.out _).mono ?_
  rintro e wz ⟨rfl,hz⟩
  go_wp2
  go_ret
  exact ⟨rfl,Bel.to bel hz⟩
end Go.Proofs.YtldikghldcefcaaGreat
end
section
namespace Go.Proofs.YtldikghldcefcaaGreat.oddsTotals
open Go.ChangeShapes Go.WideShapes Go.ChangeAt Go.RowKit
set_option linter.unusedVariables false
theorem own : ownKnob Tryz.prog.godebug = none := by kernel_rfl
theorem laidOut : laidOutB Tryz.prog = true := by kernel_rfl
set_option maxRecDepth 100000 in
theorem lifted (os : Os) (started : os.Started) (H : Type) (enc : TypeId × Value → H) :
  ReturnsInHanded {} Tryz.checked os 4 .any (Rows.oddsTotalsSpec.pre6 enc Tryz.prog Tryz.f4 Rows.oddsTotalsRow.domain false) (Rows.oddsTotalsSpec.post enc Tryz.prog Tryz.f4 false true false false) := by
 refine returnsInHanded_of_change (C := Tryz.checked) own started (by kernel_rfl) Tryz.func4
  (ChangeSpec.witness6 (enc := enc) (C := Tryz.checked) false ⟨#[],#[.agg #[.string ⟨#[]⟩,.int .i64 0,.int .i64 0,.int .i64 0,.int .i64 0,.int .i64 0,.int .i64 0,.int .i64 0,.int .i64 0,.int .i64 0,.int .i64 0,.int .i64 0,.int .i64 0,.int .i64 0,.int .i64 0,.int .i64 0,.int .i64 0,.int .i64 0,.int .i64 0,.int .i64 0,.slice none 0 0,.slice none 0 0]],[]⟩ 8 (by kernel_rfl) (by kernel_rfl) (by kernel_rfl) (by kernel_rfl)) ?_
 intro W base args ds gs before hval0 hW hcnd _
 have hval : ∀ (j : Nat) t v,Tryz.f4.params[j]? = some t → args[j]? = some v → Value.okWide Tryz.prog W .any base t v := hval0
 have hW' := hW
 obtain ⟨p,q,hA0,hV,rfl,hfz,hnd⟩ := hW
 have hA : DataW.TrodAll enc Tryz.prog W 0 (fun _ => true) true Tryz.f4.params.toList args.toList ds p := hA0
 rw [Tryz.params4] at hA hval
 obtain ⟨v0,vs0,d0,ds0,p0,q0,hargs,rfl,rfl,h0,r0⟩ := trodAll_cons hA
 obtain ⟨rfl,rfl,rfl⟩ := trodAll_nil r0
 obtain rfl : args = #[v0] := by cases args;simp_all
 obtain ⟨rfl,rfl⟩ := trodVars_none hV
 obtain ⟨cs0,rfl,hsz0⟩ := okWide_struct Tryz.underlying25 (hval 0 25 v0 rfl rfl)
 have k0 := h0
 have lt0 : ∀ x ∈ p0,x.block < W.heap.size := by obtain ⟨m,hm⟩ := k0;exact DataW.trod_lt m _ _ _ hm
 obtain ⟨g0,av0,tv0,ms0,eg0,rg0⟩ := game_trod h0
 rw [eg0] at k0 hW' ⊢
 clear hA0 hval0
 refine (totals35_any g0 av0 tv0 ms0 W rg0).mono fun e W' ⟨he,bel⟩ => ?_
 subst he
 exact ⟨_,rfl,_,_,_,[],_,[],hW',trodAll_mk1 (shut_bool Tryz.underlying4 _),(trodAll_cons_mk (Below.trod laidOut (by kernel_rfl) (of_decide_eq_true (by kernel_rfl)) k0 bel lt0) trodAll_mk0),rfl,bel.frame _,fun h => by cases h⟩
theorem over : Rows.oddsTotalsRow.holds Tryz.pinned (OpenSpec.ofChange Rows.oddsTotalsSpec) :=
 OpenClaim.holds_of_wide 4 Tryz.f4 rfl rfl rfl rfl rfl rfl rfl ⟨rfl,rfl,rfl,rfl,rfl⟩ rfl rfl rfl rfl rfl (by kernel_rfl) Tryz.func4 (by kernel_rfl)
  (of_decide_eq_true (by kernel_rfl)) (by unfold Func.isWrapper;first | (rw [if_pos (by decide +kernel)];kernel_rfl) | (rw [if_neg (by decide +kernel)];exact ⟨rfl,rfl⟩))
  (fun os started H enc _ => lifted os started H enc)
theorem proved : Rows.OddsTotalsSaid := over
#print axioms proved
end Go.Proofs.YtldikghldcefcaaGreat.oddsTotals
end

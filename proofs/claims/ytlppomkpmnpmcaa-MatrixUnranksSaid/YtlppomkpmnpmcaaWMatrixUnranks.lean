/- MatrixUnranks: for every input the Go function lotterylaw13.MatrixUnranks returns true, and each argument reads afterwards as before. Conditions: none. -/
import Derived.Test.YtlppomkpmnpmcaaRows
import Derived.WalkKit
import Derived.ProofKit
import Derived.OpenShut
import Derived.ChangeOld
import Derived.Below
import Derived.Test.YtlppomkpmnpmcaaGMat
import Derived.Test.YtlppomkpmnpmcaaGTrod

section
/- The walk of the statement MatrixUnranks: it returns true, whatever the game and the rank. -/
open Go.RowKit
set_option linter.unusedVariables false
set_option linter.unusedSimpArgs false
namespace Go.Proofs.Ytlppomkpmnpmcaa

set_option maxHeartbeats 4000000 in
set_option maxRecDepth 100000 in
theorem unranks13_any (g : GameD) (av tv : Value) (ms : List AddonM) (r : Int) (w : World) (h : GameR w av tv ms g) :
    Calls Try.prog 9 #[gameVal g av tv, .int .i64 r] w (BoolB true w) := by
  have c1 := hide (fun X (hX : GameR X av tv ms g) => munrank_any g av tv ms r X hX)
  have c2 := hide (fun X (hX : GameR X av tv ms g) => runrank13_any g av tv ms r X hX)
  have hh := hide h
  obtain ⟨aa, ac, rfl, hal, ham⟩ := h.1.1.shape
  obtain ⟨ta, tc, rfl, htl, htm⟩ := h.2.2.shape
  clear h
  obtain ⟨⟨⟨x, y⟩, c⟩, hp⟩ : ∃ p, p = unrankP g r := ⟨_, rfl⟩
  rw [← hp] at c1 c2
  clear hp
  have q2 : (c == c) = true := by simp
  unfold gameVal
  go_enter Try.func9, Try.ntmps9
  go_upto_region 1 with (fail)
  obtain ⟨W, hW⟩ : ∃ W, W = (w.alloc (Obj.cells #[.string g.name, .int .i64 g.kind, .int .i64 g.price, .int .i64 g.main, .int .i64 g.of, .int .i64 g.bonus, .int .i64 g.bonusOf, .int .i64 g.extra, .int .i64 g.draws, .int .i64 g.system, .int .i64 g.days, .int .i64 g.at_, .int .i64 g.close, .int .i64 g.cancel, .int .i64 g.expiry, .int .i64 g.pool, .int .i64 g.reserve, .int .i64 g.round, .int .i64 g.cap, .int .i64 g.rolls, (.slice aa ms.length ac), (.slice ta g.tiers.length tc)] 25)) := ⟨_, rfl⟩
  have bW : Below w.heap.size w W := by rw [hW]; exact Bel.al (Below.refl _ _) _
  have r0 : GameAt W (w.heap.size) g ((.slice aa ms.length ac)) ((.slice ta g.tiers.length tc)) := by rw [hW]; exact Row.new _ _ _
  have sW : w.heap.size < W.heap.size := by rw [hW]; simp
  rw [← hW]
  clear hW
  go_wp2_with (first | (refine wpList_load_row rfl 25 _ rfl _ rfl _ _ _ _ r0 Try.underlying25 rfl (by kernel_rfl) ?_) | fail)
  refine (c1.out _ (hh.out.below bW)).mono ?_
  rintro e w1 ⟨u, v, rfl, ⟨hu, hv⟩, hb1⟩
  obtain ⟨u1, u2, u3, rfl⟩ := Rd.shape hu
  obtain ⟨v1, v2, v3, rfl⟩ := Rd.shape hv
  unfold lineVal
  have B1 := Bel.to bW hb1
  have r0 := r0.keep hb1
  clear hb1 bW
  go_upto_region 2 with (fail)
  obtain ⟨A, hA⟩ : ∃ A, A = (w1.alloc (Obj.cells #[(.slice u1 u2 u3), (.slice v1 v2 v3)] 35)) := ⟨_, rfl⟩
  have bA : Below w1.heap.size w1 A := by rw [hA]; exact Bel.al (Below.refl _ _) _
  have rA0 : LineAt A (w1.heap.size) ((.slice u1 u2 u3)) ((.slice v1 v2 v3)) := by rw [hA]; exact Row.new _ _ _
  have sA : w1.heap.size < A.heap.size := by rw [hA]; simp
  rw [← hA]
  clear hA
  have B1 := Bel.to B1 bA
  have r0 := r0.keep bA
  have hu := hu.below bA
  have hv := hv.below bA
  clear bA
  go_wp2_with (first | (refine wpList_load_row rfl 25 _ rfl _ rfl _ _ _ _ r0 Try.underlying25 rfl (by kernel_rfl) ?_) | fail)
  refine (c2.out _ (hh.out.below B1)).mono ?_
  rintro e w2 ⟨p, q, rfl, ⟨hp, hq⟩, hb2⟩
  obtain ⟨p1, p2, p3, rfl⟩ := Rd.shape hp
  obtain ⟨q1, q2, q3, rfl⟩ := Rd.shape hq
  unfold lineVal
  have B1 := Bel.to B1 hb2
  have rA0 := rA0.keep hb2
  have hu := hu.below hb2
  have hv := hv.below hb2
  clear hb2 r0
  go_upto_region 3 with (fail)
  obtain ⟨B, hB⟩ : ∃ B, B = (w2.alloc (Obj.cells #[(.slice p1 p2 p3), (.slice q1 q2 q3)] 35)) := ⟨_, rfl⟩
  have bB : Below w2.heap.size w2 B := by rw [hB]; exact Bel.al (Below.refl _ _) _
  have rB0 : LineAt B (w2.heap.size) ((.slice p1 p2 p3)) ((.slice q1 q2 q3)) := by rw [hB]; exact Row.new _ _ _
  have sB : w2.heap.size < B.heap.size := by rw [hB]; simp
  rw [← hB]
  clear hB
  have B1 := Bel.to B1 bB
  have rA0 := rA0.keep bB
  have cS := same13_self _ _ _ _ x y B ⟨hu.below bB, hv.below bB⟩ ⟨hp.below bB, hq.below bB⟩
  replace cS := hide cS
  clear bB hu hv hp hq
  go_wp2_with (first | (refine wpList_load_row rfl 35 _ rfl _ rfl _ _ _ _ rA0 Try.underlying35 rfl (by kernel_rfl) ?_) | (refine wpList_load_row rfl 35 _ rfl _ rfl _ _ _ _ rB0 Try.underlying35 rfl (by kernel_rfl) ?_) | fail)
  refine cS.out.mono ?_
  rintro e w3 ⟨rfl, hb3⟩
  have B1 := Bel.to B1 hb3
  clear hb3 cS
  go_wp2_with fail
  refine (awake13_any _).mono ?_
  rintro e w4 ⟨rfl, hb4⟩
  go_wp2
  go_ret
  exact ⟨rfl, Bel.to B1 hb4⟩
end Go.Proofs.Ytlppomkpmnpmcaa
end

section
/- MatrixUnranks: for every input the Go function lotterylaw13.MatrixUnranks returns true, and each argument reads afterwards as before. Conditions: none. -/
namespace Go.Proofs.Ytlppomkpmnpmcaa.matrixUnranks
open Go.ChangeShapes Go.WideShapes Go.ChangeAt Go.RowKit
set_option linter.unusedVariables false

theorem own : ownKnob Try.prog.godebug = none := by kernel_rfl
theorem laidOut : laidOutB Try.prog = true := by kernel_rfl

set_option maxRecDepth 100000 in
theorem lifted (os : Os) (started : os.Started) (H : Type) (enc : TypeId × Value → H) :
    ReturnsInHanded {} Try.checked os 9 .any (Rows.matrixUnranksSpec.pre6 enc Try.prog Try.f9 Rows.matrixUnranksRow.domain false) (Rows.matrixUnranksSpec.post enc Try.prog Try.f9 false true false false) := by
  refine returnsInHanded_of_change (C := Try.checked) own started (by kernel_rfl) Try.func9
    (ChangeSpec.witness6 (enc := enc) (C := Try.checked) false ⟨#[], #[.agg #[.string ⟨#[]⟩, .int .i64 0, .int .i64 0, .int .i64 0, .int .i64 0, .int .i64 0, .int .i64 0, .int .i64 0, .int .i64 0, .int .i64 0, .int .i64 0, .int .i64 0, .int .i64 0, .int .i64 0, .int .i64 0, .int .i64 0, .int .i64 0, .int .i64 0, .int .i64 0, .int .i64 0, .slice none 0 0, .slice none 0 0], .int .i64 0], []⟩ 8 (by kernel_rfl) (by kernel_rfl) (by kernel_rfl) (by kernel_rfl)) ?_
  intro W base args ds gs before hval0 hW hcnd _
  have hval : ∀ (j : Nat) t v, Try.f9.params[j]? = some t → args[j]? = some v → Value.okWide Try.prog W .any base t v := hval0
  have hW' := hW
  obtain ⟨p, q, hA0, hV, rfl, hfz, hnd⟩ := hW
  have hA : DataW.TrodAll enc Try.prog W 0 (fun _ => true) true Try.f9.params.toList args.toList ds p := hA0
  rw [Try.params9] at hA hval
  obtain ⟨v0, vs0, d0, ds0, p0, q0, hargs, rfl, rfl, h0, r0⟩ := trodAll_cons hA
  obtain ⟨v1, vs1, d1, ds1, p1, q1, rfl, rfl, rfl, h1, r1⟩ := trodAll_cons r0
  obtain ⟨rfl, rfl, rfl⟩ := trodAll_nil r1
  obtain rfl : args = #[v0, v1] := by cases args; simp_all
  obtain ⟨rfl, rfl⟩ := trodVars_none hV
  obtain ⟨cs0, rfl, hsz0⟩ := okWide_struct Try.underlying25 (hval 0 25 v0 rfl rfl)
  have k0 := h0
  have lt0 : ∀ x ∈ p0, x.block < W.heap.size := by obtain ⟨m, hm⟩ := k0; exact DataW.trod_lt m _ _ _ hm
  obtain ⟨g0, av0, tv0, ms0, eg0, rg0⟩ := game_trod h0
  rw [eg0] at k0 hW' ⊢
  obtain ⟨a1, rfl, rfl, rfl, w1⟩ := open_int Try.underlying3 (hval 1 3 v1 rfl rfl) h1
  have b1 := bounds_i64 w1
  clear hA0 hval0
  refine (unranks13_any g0 av0 tv0 ms0 a1 W rg0).mono fun e W' ⟨he, bel⟩ => ?_
  subst he
  exact ⟨_, rfl, _, _, _, [], _, [], hW', trodAll_mk1 (shut_bool Try.underlying4 _), (trodAll_cons_mk (Below.trod laidOut (by kernel_rfl) (of_decide_eq_true (by kernel_rfl)) k0 bel lt0) (trodAll_cons_mk (shut_int Try.underlying3 w1) trodAll_mk0)), rfl, bel.frame _, fun h => by cases h⟩

theorem over : Rows.matrixUnranksRow.holds Try.pinned (OpenSpec.ofChange Rows.matrixUnranksSpec) :=
  OpenClaim.holds_of_wide 9 Try.f9 rfl rfl rfl rfl rfl rfl rfl ⟨rfl, rfl, rfl, rfl, rfl⟩ rfl rfl rfl rfl rfl (by kernel_rfl) Try.func9 (by kernel_rfl)
    (of_decide_eq_true (by kernel_rfl)) (by unfold Func.isWrapper; first | (rw [if_pos (by decide +kernel)]; kernel_rfl) | (rw [if_neg (by decide +kernel)]; exact ⟨rfl, rfl⟩))
    (fun os started H enc _ => lifted os started H enc)

theorem proved : Rows.MatrixUnranksSaid := over
#print axioms proved
end Go.Proofs.Ytlppomkpmnpmcaa.matrixUnranks
end

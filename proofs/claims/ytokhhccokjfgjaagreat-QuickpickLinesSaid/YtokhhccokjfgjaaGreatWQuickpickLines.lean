/- QuickpickLines: for every input the Go function lotterylaw14.QuickpickLines returns true, and each argument reads afterwards as before. Conditions: none. -/
import Derived.Test.YtokhhccokjfgjaaGreatRows
import Derived.WalkKit
import Derived.ProofKit
import Derived.OpenShut
import Derived.ChangeOld
import Derived.Below
import Derived.Test.YtokhhccokjfgjaaGreatGPick
import Derived.Test.YtokhhccokjfgjaaGreatGTrod

section
/- The walk of the statement QuickpickLines: it returns true, whatever the game, the seed and the number. -/
open Go.RowKit
set_option linter.unusedVariables false
set_option linter.unusedSimpArgs false
namespace Go.Proofs.YtokhhccokjfgjaaGreat

set_option maxHeartbeats 4000000 in
set_option maxRecDepth 100000 in
theorem lines14_any (g : GameD) (av tv : Value) (ms : List AddonM) (x n : Int) (w : World) (h : GameR w av tv ms g) (h0 : 0 ≤ x) (hx : x ≤ 18446744073709551615) : Calls Tryz.prog 3 #[gameVal g av tv, .int .u64 x, .int .i64 n] w (BoolB true w) := by
  clear hx
  obtain ⟨x, rfl⟩ := Int.eq_ofNat_of_zero_le h0
  have cF := hide (fun X (hX : GameR X av tv ms g) => few14_any g av tv ms X hX)
  have cL := hide (fun X (hX : GameR X av tv ms g) => qlines_any g av tv ms x n X hX)
  have cR := hide (fun X (hX : GameR X av tv ms g) => rlines_any g av tv ms x n X hX)
  obtain ⟨R, hR⟩ : ∃ R, R = linesP g x n := ⟨_, rfl⟩
  rw [← hR] at cL cR
  clear hR
  obtain ⟨L, c⟩ := R
  simp only [] at cL cR
  have hh := hide h
  obtain ⟨aa, ac, rfl, hal, ham⟩ := h.1.1.shape
  obtain ⟨ta, tc, rfl, htl, htm⟩ := h.2.2.shape
  clear h h0
  unfold gameVal at cF cL cR
  unfold gameVal
  go_enter Tryz.func3, Tryz.ntmps3
  go_upto_region 1 with (fail)
  obtain ⟨W, hW⟩ : ∃ W, W = (w.alloc (Obj.cells #[.string g.name, .int .i64 g.kind, .int .i64 g.price, .int .i64 g.main, .int .i64 g.of, .int .i64 g.bonus, .int .i64 g.bonusOf, .int .i64 g.extra, .int .i64 g.draws, .int .i64 g.system, .int .i64 g.days, .int .i64 g.at_, .int .i64 g.close, .int .i64 g.cancel, .int .i64 g.expiry, .int .i64 g.pool, .int .i64 g.reserve, .int .i64 g.round, .int .i64 g.cap, .int .i64 g.rolls, (.slice aa ms.length ac), (.slice ta g.tiers.length tc)] 25)) := ⟨_, rfl⟩
  have bW : Below w.heap.size w W := by rw [hW]; exact Bel.al (Below.refl _ _) _
  have r0 : GameAt W (w.heap.size) g ((.slice aa ms.length ac)) ((.slice ta g.tiers.length tc)) := by rw [hW]; exact Row.new _ _ _
  have sW : w.heap.size < W.heap.size := by rw [hW]; simp
  rw [← hW]
  clear hW
  go_wp2_with (first | (refine wpList_load_row rfl 25 _ rfl _ rfl _ _ _ _ r0 Tryz.underlying25 rfl (by kernel_rfl) ?_) | fail)
  refine (cF.out _ (hh.out.below bW)).mono ?_
  rintro e w1 ⟨q, rfl, b1⟩
  have B1 := Bel.to bW b1
  replace r0 := r0.keep b1
  clear bW b1 cF sW
  cases q with
  | false =>
    go_wp2_with fail
    refine (awake14_any _).mono ?_
    rintro e w7 ⟨rfl, b7⟩
    go_wp2
    go_ret
    exact ⟨rfl, Bel.to B1 b7⟩
  | true =>
    go_wp2_with (first | (refine wpList_load_row rfl 25 _ rfl _ rfl _ _ _ _ r0 Tryz.underlying25 rfl (by kernel_rfl) ?_) | fail)
    refine (cL.out _ (hh.out.below B1)).mono ?_
    rintro e w2 ⟨va, rfl, hlA, b2⟩
    have B2 := Bel.to B1 b2
    replace r0 := r0.keep b2
    obtain ⟨a1, c1, rfl, -, -⟩ := hlA.shape
    clear B1 b2 cL
    go_wp2_with (first | (refine wpList_load_row rfl 25 _ rfl _ rfl _ _ _ _ r0 Tryz.underlying25 rfl (by kernel_rfl) ?_) | fail)
    refine (cR.out _ (hh.out.below B2)).mono ?_
    rintro e w3 ⟨vb, rfl, hlB, b3⟩
    have B3 := Bel.to B2 b3
    replace hlA := hlA.below b3
    obtain ⟨a2, c2, rfl, -, -⟩ := hlB.shape
    have cE := hide (same14_self _ _ L w3 hlA hlB)
    clear B2 b3 cR r0 hlA hlB
    go_wp2_with fail
    refine cE.out.mono ?_
    rintro e w5 ⟨rfl, b5⟩
    go_wp2_with fail
    refine (awake14_any _).mono ?_
    rintro e w7 ⟨rfl, b7⟩
    go_wp2
    go_ret
    exact ⟨rfl, Bel.to (Bel.to B3 b5) b7⟩
end Go.Proofs.YtokhhccokjfgjaaGreat
end

section
/- QuickpickLines: for every input the Go function lotterylaw14.QuickpickLines returns true, and each argument reads afterwards as before. Conditions: none. -/
namespace Go.Proofs.YtokhhccokjfgjaaGreat.quickpickLines
open Go.ChangeShapes Go.WideShapes Go.ChangeAt Go.RowKit
set_option linter.unusedVariables false

theorem own : ownKnob Tryz.prog.godebug = none := by kernel_rfl
theorem laidOut : laidOutB Tryz.prog = true := by kernel_rfl

set_option maxRecDepth 100000 in
theorem lifted (os : Os) (started : os.Started) (H : Type) (enc : TypeId × Value → H) :
    ReturnsInHanded {} Tryz.checked os 3 .any (Rows.quickpickLinesSpec.pre6 enc Tryz.prog Tryz.f3 Rows.quickpickLinesRow.domain false) (Rows.quickpickLinesSpec.post enc Tryz.prog Tryz.f3 false true false false) := by
  refine returnsInHanded_of_change (C := Tryz.checked) own started (by kernel_rfl) Tryz.func3
    (ChangeSpec.witness6 (enc := enc) (C := Tryz.checked) false ⟨#[], #[.agg #[.string ⟨#[]⟩, .int .i64 0, .int .i64 0, .int .i64 0, .int .i64 0, .int .i64 0, .int .i64 0, .int .i64 0, .int .i64 0, .int .i64 0, .int .i64 0, .int .i64 0, .int .i64 0, .int .i64 0, .int .i64 0, .int .i64 0, .int .i64 0, .int .i64 0, .int .i64 0, .int .i64 0, .slice none 0 0, .slice none 0 0], .int .u64 0, .int .i64 0], []⟩ 8 (by kernel_rfl) (by kernel_rfl) (by kernel_rfl) (by kernel_rfl)) ?_
  intro W base args ds gs before hval0 hW hcnd _
  have hval : ∀ (j : Nat) t v, Tryz.f3.params[j]? = some t → args[j]? = some v → Value.okWide Tryz.prog W .any base t v := hval0
  have hW' := hW
  obtain ⟨p, q, hA0, hV, rfl, hfz, hnd⟩ := hW
  have hA : DataW.TrodAll enc Tryz.prog W 0 (fun _ => true) true Tryz.f3.params.toList args.toList ds p := hA0
  rw [Tryz.params3] at hA hval
  obtain ⟨v0, vs0, d0, ds0, p0, q0, hargs, rfl, rfl, h0, r0⟩ := trodAll_cons hA
  obtain ⟨v1, vs1, d1, ds1, p1, q1, rfl, rfl, rfl, h1, r1⟩ := trodAll_cons r0
  obtain ⟨v2, vs2, d2, ds2, p2, q2, rfl, rfl, rfl, h2, r2⟩ := trodAll_cons r1
  obtain ⟨rfl, rfl, rfl⟩ := trodAll_nil r2
  obtain rfl : args = #[v0, v1, v2] := by cases args; simp_all
  obtain ⟨rfl, rfl⟩ := trodVars_none hV
  obtain ⟨cs0, rfl, hsz0⟩ := okWide_struct Tryz.underlying25 (hval 0 25 v0 rfl rfl)
  have k0 := h0
  have lt0 : ∀ x ∈ p0, x.block < W.heap.size := by obtain ⟨m, hm⟩ := k0; exact DataW.trod_lt m _ _ _ hm
  obtain ⟨g0, av0, tv0, ms0, eg0, rg0⟩ := game_trod h0
  rw [eg0] at k0 hW' ⊢
  obtain ⟨a1, rfl, rfl, rfl, w1⟩ := open_int Tryz.underlying26 (hval 1 26 v1 rfl rfl) h1
  have b1 := bounds_u64 w1
  obtain ⟨a2, rfl, rfl, rfl, w2⟩ := open_int Tryz.underlying3 (hval 2 3 v2 rfl rfl) h2
  have b2 := bounds_i64 w2
  clear hA0 hval0
  refine (lines14_any g0 av0 tv0 ms0 a1 a2 W rg0 (by omega) (by omega)).mono fun e W' ⟨he, bel⟩ => ?_
  subst he
  exact ⟨_, rfl, _, _, _, [], _, [], hW', trodAll_mk1 (shut_bool Tryz.underlying4 _), (trodAll_cons_mk (Below.trod laidOut (by kernel_rfl) (of_decide_eq_true (by kernel_rfl)) k0 bel lt0) (trodAll_cons_mk (shut_int Tryz.underlying26 w1) (trodAll_cons_mk (shut_int Tryz.underlying3 w2) trodAll_mk0))), rfl, bel.frame _, fun h => by cases h⟩

theorem over : Rows.quickpickLinesRow.holds Tryz.pinned (OpenSpec.ofChange Rows.quickpickLinesSpec) :=
  OpenClaim.holds_of_wide 3 Tryz.f3 rfl rfl rfl rfl rfl rfl rfl ⟨rfl, rfl, rfl, rfl, rfl⟩ rfl rfl rfl rfl rfl (by kernel_rfl) Tryz.func3 (by kernel_rfl)
    (of_decide_eq_true (by kernel_rfl)) (by unfold Func.isWrapper; first | (rw [if_pos (by decide +kernel)]; kernel_rfl) | (rw [if_neg (by decide +kernel)]; exact ⟨rfl, rfl⟩))
    (fun os started H enc _ => lifted os started H enc)

theorem proved : Rows.QuickpickLinesSaid := over
#print axioms proved
end Go.Proofs.YtokhhccokjfgjaaGreat.quickpickLines
end

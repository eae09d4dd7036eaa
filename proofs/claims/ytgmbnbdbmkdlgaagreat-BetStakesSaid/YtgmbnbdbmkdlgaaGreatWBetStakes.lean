/- BetStakes: for every input the Go function lotterylaw16.BetStakes returns true, and each argument reads afterwards as before. Conditions: none. -/
import Derived.Test.YtgmbnbdbmkdlgaaGreatRows
import Derived.WalkKit
import Derived.ProofKit
import Derived.OpenShut
import Derived.ChangeOld
import Derived.Below
import Derived.Test.YtgmbnbdbmkdlgaaGreatGBetB
import Derived.Test.YtgmbnbdbmkdlgaaGreatGBetR
import Derived.Test.YtgmbnbdbmkdlgaaGreatGTrod
import Derived.Test.YtgmbnbdbmkdlgaaGreatGTrodB

section
/- The walk of the statement BetStakes: it returns true, whatever the game and the bet. -/
open Go.RowKit
set_option linter.unusedVariables false
set_option linter.unusedSimpArgs false
namespace Go.Proofs.YtgmbnbdbmkdlgaaGreat

set_option maxHeartbeats 4000000 in
set_option maxRecDepth 100000 in
theorem stakes16_any (g : GameD) (av tv : Value) (ms : List AddonM) (lv : Value) (B : BetD) (w : World) (hg : GameR w av tv ms g) (hl : LinesR w lv B.lines) :
    Calls Tryz.prog 5 #[gameVal g av tv, betVal lv B] w (BoolB true w) := by
  have cF := hide (fun X (hX : Below w.heap.size w X) => few16_any lv B X (hl.below hX))
  have cA := hide (fun X (hX : Below w.heap.size w X) => bstake_any g av tv lv ms B X (hg.below hX) (hl.below hX))
  have cB := hide (fun X (hX : Below w.heap.size w X) => r16stake_any g av tv lv ms B X (hg.below hX) (hl.below hX))
  have cP := hide (fun X (hX : Below w.heap.size w X) => bprice_any g av tv lv ms B X (hg.below hX) (hl.below hX))
  have cQ := hide (fun X (hX : Below w.heap.size w X) => r16price_any g av tv lv ms B X (hg.below hX) (hl.below hX))
  obtain ⟨x, hx⟩ : ∃ x, x = (stakeP g B).1 := ⟨_, rfl⟩
  obtain ⟨y, hy⟩ : ∃ y, y = (stakeP g B).2.1 := ⟨_, rfl⟩
  obtain ⟨c, hc⟩ : ∃ c, c = (betP g B).2 := ⟨_, rfl⟩
  obtain ⟨p, hp⟩ : ∃ p, p = (priceP g B).1 := ⟨_, rfl⟩
  obtain ⟨d, hd⟩ : ∃ d, d = (priceP g B).2 := ⟨_, rfl⟩
  rw [← hx, ← hy, ← hc] at cA cB
  rw [← hp, ← hd] at cP cQ
  clear hx hy hc hp hd
  have e1 : (x == x) = true := by simp
  have e2 : (y == y) = true := by simp
  have e3 : (c == c) = true := by simp
  have e4 : (p == p) = true := by simp
  have e5 : (d == d) = true := by simp
  obtain ⟨aa, ac, rfl, hal, ham⟩ := hg.1.1.shape
  obtain ⟨ta, tc, rfl, htl, htm⟩ := hg.2.2.shape
  obtain ⟨la, lc, rfl, hlc, hlm⟩ := hl.shape
  clear hg hl
  unfold gameVal betVal at cA cB cP cQ
  unfold betVal at cF
  unfold gameVal betVal
  go_enter Tryz.func5, Tryz.ntmps5
  go_upto_region 1 with (fail)
  obtain ⟨W, hW⟩ : ∃ W, W = ((w.alloc (Obj.cells #[.string g.name, .int .i64 g.kind, .int .i64 g.price, .int .i64 g.main, .int .i64 g.of, .int .i64 g.bonus, .int .i64 g.bonusOf, .int .i64 g.extra, .int .i64 g.draws, .int .i64 g.system, .int .i64 g.days, .int .i64 g.at_, .int .i64 g.close, .int .i64 g.cancel, .int .i64 g.expiry, .int .i64 g.pool, .int .i64 g.reserve, .int .i64 g.round, .int .i64 g.cap, .int .i64 g.rolls, (.slice aa ms.length ac), (.slice ta g.tiers.length tc)] 25)).alloc (Obj.cells #[(.slice la B.lines.length lc), .bool B.sys, .int .i64 B.draws, .int .i64 B.addons] 28)) := ⟨_, rfl⟩
  have bW : Below w.heap.size w W := by rw [hW]; exact Bel.al (Bel.al (Below.refl _ _) _) _
  have r0 : GameAt W (w.heap.size) g ((.slice aa ms.length ac)) ((.slice ta g.tiers.length tc)) := by rw [hW]; exact Row.alloc (Row.new _ _ _) _
  have r1 : Row W ((w.heap.size + 1)) 28 [(.slice la B.lines.length lc), .bool B.sys, .int .i64 B.draws, .int .i64 B.addons] := by rw [hW]; exact Row.at2 _ _ _ _
  have sW : w.heap.size + 1 < W.heap.size := by rw [hW]; simp
  rw [← hW]
  clear hW
  go_wp2_with (first | (refine wpList_load_row rfl 28 _ rfl _ rfl _ _ _ _ r1 Tryz.underlying28 rfl (by kernel_rfl) ?_) | fail)
  refine (cF.out _ bW).mono ?_
  rintro e w1 ⟨q, rfl, hb1⟩
  have B1 := Bel.to bW hb1
  have r0 := r0.keep hb1
  have r1 := Row.keep r1 hb1
  clear hb1 bW
  cases q with
  | false =>
    go_wp2_with fail
    refine (awake16_any _).mono ?_
    rintro e w9 ⟨rfl, hb9⟩
    go_wp2
    go_ret
    exact ⟨rfl, Bel.to B1 hb9⟩
  | true =>
    go_wp2_with (first | (refine wpList_load_row rfl 25 _ rfl _ rfl _ _ _ _ r0 Tryz.underlying25 rfl (by kernel_rfl) ?_) | (refine wpList_load_row rfl 28 _ rfl _ rfl _ _ _ _ r1 Tryz.underlying28 rfl (by kernel_rfl) ?_) | fail)
    refine (cA.out _ B1).mono ?_
    rintro e w2 ⟨rfl, hb⟩
    replace B1 := Bel.to B1 hb
    replace r0 := r0.keep hb
    replace r1 := Row.keep r1 hb
    clear hb
    go_wp2_with (first | (refine wpList_load_row rfl 25 _ rfl _ rfl _ _ _ _ r0 Tryz.underlying25 rfl (by kernel_rfl) ?_) | (refine wpList_load_row rfl 28 _ rfl _ rfl _ _ _ _ r1 Tryz.underlying28 rfl (by kernel_rfl) ?_) | fail)
    refine (cB.out _ B1).mono ?_
    rintro e w3 ⟨rfl, hb⟩
    replace B1 := Bel.to B1 hb
    replace r0 := r0.keep hb
    replace r1 := Row.keep r1 hb
    clear hb
    go_wp2_with (first | (refine wpList_load_row rfl 25 _ rfl _ rfl _ _ _ _ r0 Tryz.underlying25 rfl (by kernel_rfl) ?_) | (refine wpList_load_row rfl 28 _ rfl _ rfl _ _ _ _ r1 Tryz.underlying28 rfl (by kernel_rfl) ?_) | fail)
    refine (cP.out _ B1).mono ?_
    rintro e w4 ⟨rfl, hb⟩
    replace B1 := Bel.to B1 hb
    replace r0 := r0.keep hb
    replace r1 := Row.keep r1 hb
    clear hb
    go_wp2_with (first | (refine wpList_load_row rfl 25 _ rfl _ rfl _ _ _ _ r0 Tryz.underlying25 rfl (by kernel_rfl) ?_) | (refine wpList_load_row rfl 28 _ rfl _ rfl _ _ _ _ r1 Tryz.underlying28 rfl (by kernel_rfl) ?_) | fail)
    refine (cQ.out _ B1).mono ?_
    rintro e w5 ⟨rfl, hb⟩
    replace B1 := Bel.to B1 hb
    replace r0 := r0.keep hb
    replace r1 := Row.keep r1 hb
    clear hb
    go_wp2_with fail
    refine (awake16_any _).mono ?_
    rintro e w9 ⟨rfl, hb9⟩
    go_wp2
    go_ret
    exact ⟨rfl, Bel.to B1 hb9⟩
end Go.Proofs.YtgmbnbdbmkdlgaaGreat
end

section
/- BetStakes: for every input the Go function lotterylaw16.BetStakes returns true, and each argument reads afterwards as before. Conditions: none. -/
namespace Go.Proofs.YtgmbnbdbmkdlgaaGreat.betStakes
open Go.ChangeShapes Go.WideShapes Go.ChangeAt Go.RowKit
set_option linter.unusedVariables false

theorem own : ownKnob Tryz.prog.godebug = none := by kernel_rfl
theorem laidOut : laidOutB Tryz.prog = true := by kernel_rfl

set_option maxRecDepth 100000 in
theorem lifted (os : Os) (started : os.Started) (H : Type) (enc : TypeId × Value → H) :
    ReturnsInHanded {} Tryz.checked os 5 .any (Rows.betStakesSpec.pre6 enc Tryz.prog Tryz.f5 Rows.betStakesRow.domain false) (Rows.betStakesSpec.post enc Tryz.prog Tryz.f5 false true false false) := by
  refine returnsInHanded_of_change (C := Tryz.checked) own started (by kernel_rfl) Tryz.func5
    (ChangeSpec.witness6 (enc := enc) (C := Tryz.checked) false ⟨#[], #[.agg #[.string ⟨#[]⟩, .int .i64 0, .int .i64 0, .int .i64 0, .int .i64 0, .int .i64 0, .int .i64 0, .int .i64 0, .int .i64 0, .int .i64 0, .int .i64 0, .int .i64 0, .int .i64 0, .int .i64 0, .int .i64 0, .int .i64 0, .int .i64 0, .int .i64 0, .int .i64 0, .int .i64 0, .slice none 0 0, .slice none 0 0], .agg #[.slice none 0 0, .bool false, .int .i64 0, .int .i64 0]], []⟩ 8 (by kernel_rfl) (by kernel_rfl) (by kernel_rfl) (by kernel_rfl)) ?_
  intro W base args ds gs before hval0 hW hcnd _
  have hval : ∀ (j : Nat) t v, Tryz.f5.params[j]? = some t → args[j]? = some v → Value.okWide Tryz.prog W .any base t v := hval0
  have hW' := hW
  obtain ⟨p, q, hA0, hV, rfl, hfz, hnd⟩ := hW
  have hA : DataW.TrodAll enc Tryz.prog W 0 (fun _ => true) true Tryz.f5.params.toList args.toList ds p := hA0
  rw [Tryz.params5] at hA hval
  obtain ⟨v0, vs0, d0, ds0, p0, q0, hargs, rfl, rfl, h0, r0⟩ := trodAll_cons hA
  obtain ⟨v1, vs1, d1, ds1, p1, q1, rfl, rfl, rfl, h1, r1⟩ := trodAll_cons r0
  obtain ⟨rfl, rfl, rfl⟩ := trodAll_nil r1
  obtain rfl : args = #[v0, v1] := by cases args; simp_all
  obtain ⟨rfl, rfl⟩ := trodVars_none hV
  obtain ⟨cs0, rfl, hsz0⟩ := okWide_struct Tryz.underlying25 (hval 0 25 v0 rfl rfl)
  have k0 := h0
  have lt0 : ∀ x ∈ p0, x.block < W.heap.size := by obtain ⟨m, hm⟩ := k0; exact DataW.trod_lt m _ _ _ hm
  obtain ⟨g0, av0, tv0, ms0, eg0, rg0⟩ := game_trod h0
  rw [eg0] at k0 hW' ⊢
  obtain ⟨cs1, rfl, hsz1⟩ := okWide_struct Tryz.underlying28 (hval 1 28 v1 rfl rfl)
  have k1 := h1
  have lt1 : ∀ x ∈ p1, x.block < W.heap.size := by obtain ⟨m, hm⟩ := k1; exact DataW.trod_lt m _ _ _ hm
  obtain ⟨lv1, B1, eg1, rg1⟩ := bet_trod h1
  rw [eg1] at k1 hW' ⊢
  clear hA0 hval0
  refine (stakes16_any g0 av0 tv0 ms0 lv1 B1 W rg0 rg1).mono fun e W' ⟨he, bel⟩ => ?_
  subst he
  exact ⟨_, rfl, _, _, _, [], _, [], hW', trodAll_mk1 (shut_bool Tryz.underlying4 _), (trodAll_cons_mk (Below.trod laidOut (by kernel_rfl) (of_decide_eq_true (by kernel_rfl)) k0 bel lt0) (trodAll_cons_mk (Below.trod laidOut (by kernel_rfl) (of_decide_eq_true (by kernel_rfl)) k1 bel lt1) trodAll_mk0)), rfl, bel.frame _, fun h => by cases h⟩

theorem over : Rows.betStakesRow.holds Tryz.pinned (OpenSpec.ofChange Rows.betStakesSpec) :=
  OpenClaim.holds_of_wide 5 Tryz.f5 rfl rfl rfl rfl rfl rfl rfl ⟨rfl, rfl, rfl, rfl, rfl⟩ rfl rfl rfl rfl rfl (by kernel_rfl) Tryz.func5 (by kernel_rfl)
    (of_decide_eq_true (by kernel_rfl)) (by unfold Func.isWrapper; first | (rw [if_pos (by decide +kernel)]; kernel_rfl) | (rw [if_neg (by decide +kernel)]; exact ⟨rfl, rfl⟩))
    (fun os started H enc _ => lifted os started H enc)

theorem proved : Rows.BetStakesSaid := over
#print axioms proved
end Go.Proofs.YtgmbnbdbmkdlgaaGreat.betStakes
end

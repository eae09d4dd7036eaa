/- MatrixRanked: for every input the Go function lotterylaw13.MatrixRanked returns true, and each argument reads afterwards as before. Conditions: none. -/
import Derived.Test.YtlppomkpmnpmcaaGreatRows
import Derived.WalkKit
import Derived.ProofKit
import Derived.OpenShut
import Derived.ChangeOld
import Derived.Below
import Derived.Test.YtlppomkpmnpmcaaGreatMC
import Derived.Test.YtlppomkpmnpmcaaGreatMD
import Derived.Test.YtlppomkpmnpmcaaGreatMT

section
/- lotterylaw13.awake: the examples of the chapter are right. No condition. -/
open Go.RowKit
set_option linter.unusedVariables false
set_option linter.unusedSimpArgs false
namespace Go.Proofs.YtlppomkpmnpmcaaGreat

set_option maxHeartbeats 4000000 in
set_option maxRecDepth 100000 in
theorem awake13_any (w : World) : Calls Tryz.prog 5 #[] w (BoolB true w) := by
  go_enter Tryz.func5, Tryz.ntmps5
  go_wp2_with fail
  refine (small13_any 2 5 0 0 _).mono ?_
  rintro e w1 ⟨av1, tv1, ms1, rfl, g1, b1⟩
  obtain ⟨aa1, ac1, rfl, hal1, ham1⟩ := g1.1.1.shape
  obtain ⟨ta1, tc1, rfl, htl1, htm1⟩ := g1.2.2.shape
  have e1 : (smallG 2 5 0 0).tiers.length = 1 := rfl
  rw [e1] at g1 ⊢
  clear e1 htl1 htm1 hal1 ham1
  go_upto_region 2 with (first | ((with_reducible refine wpList_store_game rfl _ _ rfl w1.heap.size _ _ _ rfl rfl ⟨_, _, _, rfl⟩ ⟨_, _, _, rfl⟩ _ (Row.new _ _ _) ?_ ?_); (rfl); intro A rA0 gA) | fail)
  have hbA : Below w1.heap.size w1 A := Below.grown (Bel.al (Below.refl _ _) _) gA (by simp) (fun k hk => by injection hk with hk; omega)
  clear gA
  replace g1 := g1.below hbA
  replace b1 := Bel.to b1 hbA
  clear hbA
  go_wp2_with fail
  refine (small13_any 2 4 1 3 _).mono ?_
  rintro e w2 ⟨av2, tv2, ms2, rfl, g2, b2⟩
  obtain ⟨aa2, ac2, rfl, hal2, ham2⟩ := g2.1.1.shape
  obtain ⟨ta2, tc2, rfl, htl2, htm2⟩ := g2.2.2.shape
  have e2 : (smallG 2 4 1 3).tiers.length = 1 := rfl
  rw [e2] at g2 ⊢
  clear e2 htl2 htm2 hal2 ham2
  go_upto_region 3 with (first | ((with_reducible refine wpList_store_game rfl _ _ rfl w2.heap.size _ _ _ rfl rfl ⟨_, _, _, rfl⟩ ⟨_, _, _, rfl⟩ _ (Row.new _ _ _) ?_ ?_); (rfl); intro B rB0 gB) | fail)
  have hbB : Below w2.heap.size w2 B := Below.grown (Bel.al (Below.refl _ _) _) gB (by simp) (fun k hk => by injection hk with hk; omega)
  clear gB
  replace b2 := Bel.to b2 hbB
  replace rA0 := rA0.keep b2
  replace g1 := g1.below b2
  replace g2 := g2.below hbB
  replace b1 := Bel.to b1 b2
  clear b2 hbB
  have cA := hide (mcount_any (smallG 2 5 0 0) (.slice aa1 ms1.length ac1) (.slice ta1 1 tc1) ms1 _ g1)
  rw [ex_countA] at cA
  go_wp2_with (first | (refine wpList_load_row rfl 25 _ rfl _ rfl _ _ _ _ rA0 Tryz.underlying25 rfl (by kernel_rfl) ?_) | fail)
  refine cA.out.mono ?_
  rintro e w3 ⟨rfl, hb3⟩
  clear cA
  replace rA0 := rA0.keep hb3
  replace rB0 := rB0.keep hb3
  replace g1 := g1.below hb3
  replace g2 := g2.below hb3
  replace b1 := Bel.to b1 hb3
  clear hb3
  have cA := hide (mcount_any (smallG 2 4 1 3) (.slice aa2 ms2.length ac2) (.slice ta2 1 tc2) ms2 _ g2)
  rw [ex_countB] at cA
  go_wp2_with (first | (refine wpList_load_row rfl 25 _ rfl _ rfl _ _ _ _ rB0 Tryz.underlying25 rfl (by kernel_rfl) ?_) | fail)
  refine cA.out.mono ?_
  rintro e w4 ⟨rfl, hb4⟩
  clear cA
  replace rA0 := rA0.keep hb4
  replace rB0 := rB0.keep hb4
  replace g1 := g1.below hb4
  replace g2 := g2.below hb4
  replace b1 := Bel.to b1 hb4
  clear hb4
  obtain ⟨X5, hX5⟩ : ∃ X, X = w4.alloc (.cells #[.int .i64 5, .int .i64 1] 3) := ⟨_, rfl⟩
  have hb5 : Below w4.heap.size w4 X5 := by rw [hX5]; exact Bel.al (Below.refl _ _) _
  have hl5 : LineR X5 (.slice (some ⟨w4.heap.size, 0, none⟩) 2 2) (.slice none 0 0) [5, 1] [] := by rw [hX5]; exact ⟨Rd.new [5, 1] rfl rfl (Nat.le_refl _) (by decide) rfl, Rd.nil⟩
  have cA := hide (mrank_any (smallG 2 5 0 0) (.slice aa1 ms1.length ac1) (.slice ta1 1 tc1) _ _ ms1 [5, 1] [] X5 (g1.below hb5) hl5)
  rw [ex_rankA] at cA
  go_wp2_with (first | (refine wpList_load_row rfl 25 _ rfl _ rfl _ _ _ _ rA0 Tryz.underlying25 rfl (by kernel_rfl) ?_) | fail)
  rw [← hX5]
  refine cA.out.mono ?_
  rintro e w6 ⟨rfl, hb6⟩
  replace hb6 := Bel.to hb5 hb6
  clear cA hl5 hb5 hX5
  replace rA0 := rA0.keep hb6
  replace rB0 := rB0.keep hb6
  replace g1 := g1.below hb6
  replace g2 := g2.below hb6
  replace b1 := Bel.to b1 hb6
  clear hb6
  obtain ⟨X7, hX7⟩ : ∃ X, X = (w6.alloc (.cells #[.int .i64 1, .int .i64 3] 3)).alloc (.cells #[.int .i64 2] 3) := ⟨_, rfl⟩
  have hb7 : Below w6.heap.size w6 X7 := by rw [hX7]; exact Bel.al (Bel.al (Below.refl _ _) _) _
  have hl7 : LineR X7 (.slice (some ⟨w6.heap.size, 0, none⟩) 2 2) (.slice (some ⟨w6.heap.size + 1, 0, none⟩) 1 1) [1, 3] [2] := by rw [hX7]; exact ⟨Rd.alloc (Rd.new [1, 3] rfl rfl (Nat.le_refl _) (by decide) rfl) _, Rd.new [2] (by simp) rfl (Nat.le_refl _) (by decide) rfl⟩
  have cA := hide (mrank_any (smallG 2 4 1 3) (.slice aa2 ms2.length ac2) (.slice ta2 1 tc2) _ _ ms2 [1, 3] [2] X7 (g2.below hb7) hl7)
  rw [ex_rankB] at cA
  go_wp2_with (first | (refine wpList_load_row rfl 25 _ rfl _ rfl _ _ _ _ rB0 Tryz.underlying25 rfl (by kernel_rfl) ?_) | fail)
  rw [← hX7]
  refine cA.out.mono ?_
  rintro e w8 ⟨rfl, hb8⟩
  replace hb8 := Bel.to hb7 hb8
  clear cA hl7 hb7 hX7
  replace rA0 := rA0.keep hb8
  replace rB0 := rB0.keep hb8
  replace g1 := g1.below hb8
  replace g2 := g2.below hb8
  replace b1 := Bel.to b1 hb8
  clear hb8
  have cA := hide (munrank_any (smallG 2 4 1 3) (.slice aa2 ms2.length ac2) (.slice ta2 1 tc2) ms2 17 _ g2)
  rw [ex_unrankB] at cA
  go_wp2_with (first | (refine wpList_load_row rfl 25 _ rfl _ rfl _ _ _ _ rB0 Tryz.underlying25 rfl (by kernel_rfl) ?_) | fail)
  refine cA.out.mono ?_
  rintro e w9 ⟨u, v, rfl, ⟨hu, hv⟩, hb9⟩
  obtain ⟨u1, u2, u3, rfl⟩ := Rd.shape hu
  obtain ⟨v1, v2, v3, rfl⟩ := Rd.shape hv
  clear cA
  replace rA0 := rA0.keep hb9
  replace rB0 := rB0.keep hb9
  replace g1 := g1.below hb9
  replace g2 := g2.below hb9
  replace b1 := Bel.to b1 hb9
  clear hb9
  unfold lineVal
  go_upto_region 8 with (fail)
  obtain ⟨C, hC⟩ : ∃ C, C = (w9.alloc (Obj.cells #[(.slice u1 u2 u3), (.slice v1 v2 v3)] 28)) := ⟨_, rfl⟩
  have bC : Below w9.heap.size w9 C := by rw [hC]; exact Bel.al (Below.refl _ _) _
  have rC0 : LineAt C (w9.heap.size) ((.slice u1 u2 u3)) ((.slice v1 v2 v3)) := by rw [hC]; exact Row.new _ _ _
  have sC : w9.heap.size < C.heap.size := by rw [hC]; simp
  rw [← hC]
  clear hC
  have hb10 := bC
  replace rA0 := rA0.keep hb10
  replace rB0 := rB0.keep hb10
  replace g1 := g1.below hb10
  replace g2 := g2.below hb10
  replace b1 := Bel.to b1 hb10
  clear hb10
  replace hu := hu.below bC
  replace hv := hv.below bC
  clear bC
  obtain ⟨Y, hY⟩ : ∃ X, X = (C.alloc (.cells #[.int .i64 3, .int .i64 4] 3)).alloc (.cells #[.int .i64 3] 3) := ⟨_, rfl⟩
  have hb11 : Below C.heap.size C Y := by rw [hY]; exact Bel.al (Bel.al (Below.refl _ _) _) _
  have hl11 : LineR Y (.slice (some ⟨C.heap.size, 0, none⟩) 2 2) (.slice (some ⟨C.heap.size + 1, 0, none⟩) 1 1) [3, 4] [3] := by rw [hY]; exact ⟨Rd.alloc (Rd.new [3, 4] rfl rfl (Nat.le_refl _) (by decide) rfl) _, Rd.new [3] (by simp) rfl (Nat.le_refl _) (by decide) rfl⟩
  have dt : decide (([3, 4] : List Int) = [3, 4] ∧ ([3] : List Int) = [3]) = true := by decide
  have cA := same13_any _ _ _ _ [3, 4] [3] [3, 4] [3] Y ⟨hu.below hb11, hv.below hb11⟩ hl11
  rw [dt] at cA
  replace cA := hide cA
  go_upto_region 10 with (fail)
  go_wp2_with (first | (refine wpList_load_row rfl 28 _ rfl _ rfl _ _ _ _ rC0 Tryz.underlying28 rfl (by kernel_rfl) ?_) | fail)
  rw [← hY]
  refine cA.out.mono ?_
  rintro e w12 ⟨rfl, hb12⟩
  replace hb12 := Bel.to hb11 hb12
  clear cA hl11 hb11 hY hu hv rC0 dt
  replace rA0 := rA0.keep hb12
  replace rB0 := rB0.keep hb12
  replace g1 := g1.below hb12
  replace g2 := g2.below hb12
  replace b1 := Bel.to b1 hb12
  clear hb12
  obtain ⟨Y, hY⟩ : ∃ X, X = w12.alloc (.cells #[.int .i64 1] 3) := ⟨_, rfl⟩
  have hb13 : Below w12.heap.size w12 Y := by rw [hY]; exact Bel.al (Below.refl _ _) _
  have hl13 : LineR Y (.slice (some ⟨w12.heap.size, 0, none⟩) 1 1) (.slice none 0 0) [1] [] := by rw [hY]; exact ⟨Rd.new [1] rfl rfl (Nat.le_refl _) (by decide) rfl, Rd.nil⟩
  have cA := hide (mlcheck_any (smallG 2 5 0 0) (.slice aa1 ms1.length ac1) (.slice ta1 1 tc1) _ _ ms1 [1] [] Y (g1.below hb13) hl13)
  rw [ex_line1] at cA
  go_wp2_with (first | ((refine wpList_load_row_if ?_ 25 _ rfl _ ?_ _ _ _ rA0 Tryz.underlying25 rfl (by kernel_rfl) ?_); (rfl); (rfl)) | fail)
  rw [← hY]
  refine cA.out.mono ?_
  rintro e w14 ⟨rfl, hb14⟩
  replace hb14 := Bel.to hb13 hb14
  clear cA hl13 hb13 hY
  replace rA0 := rA0.keep hb14
  replace rB0 := rB0.keep hb14
  replace g1 := g1.below hb14
  replace g2 := g2.below hb14
  replace b1 := Bel.to b1 hb14
  clear hb14
  obtain ⟨Y, hY⟩ : ∃ X, X = w14.alloc (.cells #[.int .i64 6, .int .i64 6] 3) := ⟨_, rfl⟩
  have hb15 : Below w14.heap.size w14 Y := by rw [hY]; exact Bel.al (Below.refl _ _) _
  have hl15 : LineR Y (.slice (some ⟨w14.heap.size, 0, none⟩) 2 2) (.slice none 0 0) [6, 6] [] := by rw [hY]; exact ⟨Rd.new [6, 6] rfl rfl (Nat.le_refl _) (by decide) rfl, Rd.nil⟩
  have cA := hide (mlcheck_any (smallG 2 5 0 0) (.slice aa1 ms1.length ac1) (.slice ta1 1 tc1) _ _ ms1 [6, 6] [] Y (g1.below hb15) hl15)
  rw [ex_line2] at cA
  go_wp2_with (first | ((refine wpList_load_row_if ?_ 25 _ rfl _ ?_ _ _ _ rA0 Tryz.underlying25 rfl (by kernel_rfl) ?_); (rfl); (rfl)) | fail)
  rw [← hY]
  refine cA.out.mono ?_
  rintro e w16 ⟨rfl, hb16⟩
  replace hb16 := Bel.to hb15 hb16
  clear cA hl15 hb15 hY
  replace rA0 := rA0.keep hb16
  replace rB0 := rB0.keep hb16
  replace g1 := g1.below hb16
  replace g2 := g2.below hb16
  replace b1 := Bel.to b1 hb16
  clear hb16
  obtain ⟨Y, hY⟩ : ∃ X, X = w16.alloc (.cells #[.int .i64 3, .int .i64 3] 3) := ⟨_, rfl⟩
  have hb17 : Below w16.heap.size w16 Y := by rw [hY]; exact Bel.al (Below.refl _ _) _
  have hl17 : LineR Y (.slice (some ⟨w16.heap.size, 0, none⟩) 2 2) (.slice none 0 0) [3, 3] [] := by rw [hY]; exact ⟨Rd.new [3, 3] rfl rfl (Nat.le_refl _) (by decide) rfl, Rd.nil⟩
  have cA := hide (mlcheck_any (smallG 2 5 0 0) (.slice aa1 ms1.length ac1) (.slice ta1 1 tc1) _ _ ms1 [3, 3] [] Y (g1.below hb17) hl17)
  rw [ex_line3] at cA
  go_wp2_with (first | ((refine wpList_load_row_if ?_ 25 _ rfl _ ?_ _ _ _ rA0 Tryz.underlying25 rfl (by kernel_rfl) ?_); (rfl); (rfl)) | fail)
  rw [← hY]
  refine cA.out.mono ?_
  rintro e w18 ⟨rfl, hb18⟩
  replace hb18 := Bel.to hb17 hb18
  clear cA hl17 hb17 hY
  replace rA0 := rA0.keep hb18
  replace rB0 := rB0.keep hb18
  replace g1 := g1.below hb18
  replace g2 := g2.below hb18
  replace b1 := Bel.to b1 hb18
  clear hb18
  go_wp2
  go_ret
  exact ⟨rfl, b1⟩
end Go.Proofs.YtlppomkpmnpmcaaGreat
end

section
/- The walk of the statement MatrixRanked: it returns true, whatever the game and the line. -/
open Go.RowKit
set_option linter.unusedVariables false
set_option linter.unusedSimpArgs false
namespace Go.Proofs.YtlppomkpmnpmcaaGreat

set_option maxHeartbeats 4000000 in
set_option maxRecDepth 100000 in
theorem ranked13_any (g : GameD) (av tv : Value) (ms : List AddonM) (mv bv : Value) (a b : List Int) (w : World) (h : GameR w av tv ms g) (hl : LineR w mv bv a b) :
    Calls Tryz.prog 3 #[gameVal g av tv, lineVal mv bv] w (BoolB true w) := by
  have c1 := hide (fun X (hX : GameR X av tv ms g) (hY : LineR X mv bv a b) => mrank_any g av tv mv bv ms a b X hX hY)
  have c2 := hide (fun X (hX : GameR X av tv ms g) (hY : LineR X mv bv a b) => rrank13_any g av tv mv bv ms a b X hX hY)
  have c0 := hide (fun X (hY : LineR X mv bv a b) => few13_any mv bv a b X hY)
  have hh := hide h
  have hl' := hide hl
  obtain ⟨aa, ac, rfl, hal, ham⟩ := h.1.1.shape
  obtain ⟨ta, tc, rfl, htl, htm⟩ := h.2.2.shape
  obtain ⟨ma, mc, rfl, hma, hmc, -⟩ := hl.1.form
  obtain ⟨ba, bc, rfl, hba, hbc, -⟩ := hl.2.form
  clear h hl
  obtain ⟨⟨n, c⟩, hnc⟩ : ∃ p, p = rankP g a b := ⟨_, rfl⟩
  rw [← hnc] at c1 c2
  clear hnc
  have q1 : (n == n) = true := by simp
  have q2 : (c == c) = true := by simp
  obtain ⟨f, hf⟩ : ∃ f, f = fewB a b := ⟨_, rfl⟩
  rw [← hf] at c0
  clear hf
  unfold gameVal lineVal
  go_enter Tryz.func3, Tryz.ntmps3
  go_upto_region 1 with (fail)
  obtain ⟨W, hW⟩ : ∃ W, W = ((w.alloc (Obj.cells #[.string g.name, .int .i64 g.kind, .int .i64 g.price, .int .i64 g.main, .int .i64 g.of, .int .i64 g.bonus, .int .i64 g.bonusOf, .int .i64 g.extra, .int .i64 g.draws, .int .i64 g.system, .int .i64 g.days, .int .i64 g.at_, .int .i64 g.close, .int .i64 g.cancel, .int .i64 g.expiry, .int .i64 g.pool, .int .i64 g.reserve, .int .i64 g.round, .int .i64 g.cap, .int .i64 g.rolls, (.slice aa ms.length ac), (.slice ta g.tiers.length tc)] 25)).alloc (Obj.cells #[(.slice ma a.length mc), (.slice ba b.length bc)] 28)) := ⟨_, rfl⟩
  have bW : Below w.heap.size w W := by rw [hW]; exact Bel.al (Bel.al (Below.refl _ _) _) _
  have r0 : GameAt W (w.heap.size) g ((.slice aa ms.length ac)) ((.slice ta g.tiers.length tc)) := by rw [hW]; exact Row.alloc (Row.new _ _ _) _
  have r1 : LineAt W (w.heap.size + 1) ((.slice ma a.length mc)) ((.slice ba b.length bc)) := by rw [hW]; exact Row.at2 _ _ _ _
  have sW : w.heap.size + 1 < W.heap.size := by rw [hW]; simp
  rw [← hW]
  clear hW
  go_wp2_with (first | (refine wpList_load_row rfl 28 _ rfl _ rfl _ _ _ _ r1 Tryz.underlying28 rfl (by kernel_rfl) ?_) | fail)
  refine (c0.out _ (hl'.out.below bW)).mono ?_
  rintro e w1 ⟨rfl, hb1⟩
  have B0 := Bel.to bW hb1
  have r0 := r0.keep hb1
  have r1 := r1.keep hb1
  clear hb1 bW
  cases f
  · go_wp2_with fail
    refine (awake13_any _).mono ?_
    rintro e w2 ⟨rfl, hb2⟩
    go_wp2
    go_ret
    exact ⟨rfl, Bel.to B0 hb2⟩
  · go_wp2_with (first | (refine wpList_load_row rfl 25 _ rfl _ rfl _ _ _ _ r0 Tryz.underlying25 rfl (by kernel_rfl) ?_) | (refine wpList_load_row rfl 28 _ rfl _ rfl _ _ _ _ r1 Tryz.underlying28 rfl (by kernel_rfl) ?_) | fail)
    refine (c1.out _ (hh.out.below B0) (hl'.out.below B0)).mono ?_
    rintro e w2 ⟨rfl, hb2⟩
    have B2 := Bel.to B0 hb2
    have r0 := r0.keep hb2
    have r1 := r1.keep hb2
    clear hb2 B0
    go_wp2_with (first | (refine wpList_load_row rfl 25 _ rfl _ rfl _ _ _ _ r0 Tryz.underlying25 rfl (by kernel_rfl) ?_) | (refine wpList_load_row rfl 28 _ rfl _ rfl _ _ _ _ r1 Tryz.underlying28 rfl (by kernel_rfl) ?_) | fail)
    refine (c2.out _ (hh.out.below B2) (hl'.out.below B2)).mono ?_
    rintro e w3 ⟨rfl, hb3⟩
    have B3 := Bel.to B2 hb3
    clear hb3 B2
    go_wp2_with fail
    refine (awake13_any _).mono ?_
    rintro e w4 ⟨rfl, hb4⟩
    go_wp2
    go_ret
    exact ⟨rfl, Bel.to B3 hb4⟩
end Go.Proofs.YtlppomkpmnpmcaaGreat
end

section
/- MatrixRanked: for every input the Go function lotterylaw13.MatrixRanked returns true, and each argument reads afterwards as before. Conditions: none. -/
namespace Go.Proofs.YtlppomkpmnpmcaaGreat.matrixRanked
open Go.ChangeShapes Go.WideShapes Go.ChangeAt Go.RowKit
set_option linter.unusedVariables false

theorem own : ownKnob Tryz.prog.godebug = none := by kernel_rfl
theorem laidOut : laidOutB Tryz.prog = true := by kernel_rfl

set_option maxRecDepth 100000 in
theorem lifted (os : Os) (started : os.Started) (H : Type) (enc : TypeId × Value → H) :
    ReturnsInHanded {} Tryz.checked os 3 .any (Rows.matrixRankedSpec.pre6 enc Tryz.prog Tryz.f3 Rows.matrixRankedRow.domain false) (Rows.matrixRankedSpec.post enc Tryz.prog Tryz.f3 false true false false) := by
  refine returnsInHanded_of_change (C := Tryz.checked) own started (by kernel_rfl) Tryz.func3
    (ChangeSpec.witness6 (enc := enc) (C := Tryz.checked) false ⟨#[], #[.agg #[.string ⟨#[]⟩, .int .i64 0, .int .i64 0, .int .i64 0, .int .i64 0, .int .i64 0, .int .i64 0, .int .i64 0, .int .i64 0, .int .i64 0, .int .i64 0, .int .i64 0, .int .i64 0, .int .i64 0, .int .i64 0, .int .i64 0, .int .i64 0, .int .i64 0, .int .i64 0, .int .i64 0, .slice none 0 0, .slice none 0 0], .agg #[.slice none 0 0, .slice none 0 0]], []⟩ 8 (by kernel_rfl) (by kernel_rfl) (by kernel_rfl) (by kernel_rfl)) ?_
  intro W base args ds gs before hval0 hW hcnd _
  have hval : ∀ (j : Nat) t v, Tryz.f3.params[j]? = some t → args[j]? = some v → Value.okWide Tryz.prog W .any base t v := hval0
  have hW' := hW
  obtain ⟨p, q, hA0, hV, rfl, hfz, hnd⟩ := hW
  have hA : DataW.TrodAll enc Tryz.prog W 0 (fun _ => true) true Tryz.f3.params.toList args.toList ds p := hA0
  rw [Tryz.params3] at hA hval
  obtain ⟨v0, vs0, d0, ds0, p0, q0, hargs, rfl, rfl, h0, r0⟩ := trodAll_cons hA
  obtain ⟨v1, vs1, d1, ds1, p1, q1, rfl, rfl, rfl, h1, r1⟩ := trodAll_cons r0
  obtain ⟨rfl, rfl, rfl⟩ := trodAll_nil r1
  obtain rfl : args = #[v0, v1] := by cases args; simp_all
  obtain ⟨rfl, rfl⟩ := trodVars_none hV
  obtain ⟨cs0, rfl, hsz0⟩ := okWide_struct Tryz.underlying25 (hval 0 25 v0 rfl rfl)
  have k0 := h0
  have lt0 : ∀ x ∈ p0, x.block < W.heap.size := by obtain ⟨m, hm⟩ := k0; exact DataW.trod_lt m _ _ _ hm
  obtain ⟨g0, av0, tv0, ms0, eg0, rg0⟩ := game_trod h0
  rw [eg0] at k0 hW' ⊢
  obtain ⟨cs1, rfl, hsz1⟩ := okWide_struct Tryz.underlying28 (hval 1 28 v1 rfl rfl)
  have k1 := h1
  have lt1 : ∀ x ∈ p1, x.block < W.heap.size := by obtain ⟨m, hm⟩ := k1; exact DataW.trod_lt m _ _ _ hm
  obtain ⟨mv1, bv1, la1, lb1, eg1, rg1⟩ := line_trod h1
  rw [eg1] at k1 hW' ⊢
  clear hA0 hval0
  refine (ranked13_any g0 av0 tv0 ms0 mv1 bv1 la1 lb1 W rg0 rg1).mono fun e W' ⟨he, bel⟩ => ?_
  subst he
  exact ⟨_, rfl, _, _, _, [], _, [], hW', trodAll_mk1 (shut_bool Tryz.underlying4 _), (trodAll_cons_mk (Below.trod laidOut (by kernel_rfl) (of_decide_eq_true (by kernel_rfl)) k0 bel lt0) (trodAll_cons_mk (Below.trod laidOut (by kernel_rfl) (of_decide_eq_true (by kernel_rfl)) k1 bel lt1) trodAll_mk0)), rfl, bel.frame _, fun h => by cases h⟩

theorem over : Rows.matrixRankedRow.holds Tryz.pinned (OpenSpec.ofChange Rows.matrixRankedSpec) :=
  OpenClaim.holds_of_wide 3 Tryz.f3 rfl rfl rfl rfl rfl rfl rfl ⟨rfl, rfl, rfl, rfl, rfl⟩ rfl rfl rfl rfl rfl (by kernel_rfl) Tryz.func3 (by kernel_rfl)
    (of_decide_eq_true (by kernel_rfl)) (by unfold Func.isWrapper; first | (rw [if_pos (by decide +kernel)]; kernel_rfl) | (rw [if_neg (by decide +kernel)]; exact ⟨rfl, rfl⟩))
    (fun os started H enc _ => lifted os started H enc)

theorem proved : Rows.MatrixRankedSaid := over
#print axioms proved
end Go.Proofs.YtlppomkpmnpmcaaGreat.matrixRanked
end

/- BetPrices: for every input the Go function lotterylaw16.BetPrices returns true, and each argument reads afterwards as before. Conditions: none. -/
import Derived.Test.YtgmbnbdbmkdlgaaRows
import Derived.WalkKit
import Derived.ProofKit
import Derived.OpenShut
import Derived.ChangeOld
import Derived.Below
import Derived.Test.YtgmbnbdbmkdlgaaGBetB
import Derived.Test.YtgmbnbdbmkdlgaaGTrod
import Derived.Test.YtgmbnbdbmkdlgaaGTrodB

section
/- The walk of the statement BetPrices: it returns true, whatever the game and the bet. -/
open Go.RowKit
set_option linter.unusedVariables false
set_option linter.unusedSimpArgs false
namespace Go.Proofs.Ytgmbnbdbmkdlgaa

theorem lineB_pos {g : GameD} {sys : Bool} {l : LineD} (h : (sizeB g sys l).2 = 0) : 1 ≤ (lineB g sys l).length := by
  cases sys with
  | false => exact Nat.le_refl 1
  | true =>
    have h2 := exp_ne (size_sys h)
    have h3 : lineB g true l = expL (sortI l.1) (sortI l.2) g.main.toNat := rfl
    rw [h3]
    exact List.length_pos_iff.2 h2
theorem flat_ge {g : GameD} {sys : Bool} {ls : List LineD} (h : ∀ l ∈ ls, (sizeB g sys l).2 = 0) : ls.length ≤ (ls.flatMap (lineB g sys)).length := by
  induction ls with
  | nil => simp
  | cons l r ih =>
    have h1 := lineB_pos (h l List.mem_cons_self)
    have h2 := ih (fun x hx => h x (List.mem_cons_of_mem l hx))
    rw [List.flatMap_cons, List.length_append, List.length_cons]
    omega

/-- One more draw. -/
def moreB (B : BetD) : BetD := ⟨B.lines, B.sys, B.draws + 1, B.addons⟩
theorem betP_more {g : GameD} {B : BetD} (h : (betP g B).2 = 0) (hd : B.draws < g.draws) : betP g (moreB B) = betP g B := by
  obtain ⟨p1, p2, p3, p4, p5, p6, p7, p8, p9, p10⟩ := betP_ok h
  rw [betP_tail p1 p2 p3] at h ⊢
  rw [betP_tail (B := moreB B) p1 p2 p3]
  show tailB g (moreB B) (scanB g B.sys B.lines [] 0) = _
  obtain ⟨R, hR⟩ : ∃ R, R = scanB g B.sys B.lines [] 0 := ⟨_, rfl⟩
  rw [← hR] at h ⊢
  have n1 : ¬ R.2 ≠ 0 := by
    intro h1
    unfold tailB at h
    rw [if_pos h1] at h
    exact h1 h
  have n2 : ¬ 1024 < R.1 := by
    intro h2
    unfold tailB at h
    rw [if_neg n1, if_pos h2] at h
    exact absurd h (by simp)
  have e1 : ¬ ((moreB B).draws < 1 ∨ g.draws < (moreB B).draws) := by show ¬ (B.draws + 1 < 1 ∨ g.draws < B.draws + 1); omega
  have e2 : ¬ (B.draws < 1 ∨ g.draws < B.draws) := by omega
  have a1 : tailB g (moreB B) R = if (moreB B).addons < 0 ∨ 2 ^ g.addons.length ≤ (moreB B).addons then (0, 2) else (R.1, 0) := by
    unfold tailB; rw [if_neg n1, if_neg n2, if_neg e1]
  have a2 : tailB g B R = if B.addons < 0 ∨ 2 ^ g.addons.length ≤ B.addons then (0, 2) else (R.1, 0) := by
    unfold tailB; rw [if_neg n1, if_neg n2, if_neg e2]
  rw [a1, a2]
  rfl
theorem stakeP_more {g : GameD} {B : BetD} (h : (betP g B).2 = 0) (hd : B.draws < g.draws) : stakeP g (moreB B) = stakeP g B := by
  unfold stakeP
  rw [betP_more h hd]
  rfl

set_option maxHeartbeats 4000000 in
set_option maxRecDepth 100000 in
theorem prices16_bad (g : GameD) (av tv : Value) (ms : List AddonM) (lv : Value) (B : BetD) (w : World) (hg : GameR w av tv ms g) (hl : LinesR w lv B.lines) (he : (betP g B).2 ≠ 0) :
    Calls Try.prog 6 #[gameVal g av tv, betVal lv B] w (BoolB true w) := by
  have cF := hide (fun X (hX : Below w.heap.size w X) => few16_any lv B X (hl.below hX))
  have cC := hide (fun X (hX : Below w.heap.size w X) => bCheck_any g av tv lv ms B X (hg.below hX) (hl.below hX))
  have cL := hide (fun X (hX : Below w.heap.size w X) => blines_own g av tv lv ms B X (hg.below hX) (hl.below hX))
  have cS := hide (fun X (hX : Below w.heap.size w X) => bstake_any g av tv lv ms B X (hg.below hX) (hl.below hX))
  have cP := hide (fun X (hX : Below w.heap.size w X) => bprice_any g av tv lv ms B X (hg.below hX) (hl.below hX))
  have e1 : linesP16 g B = ([], (betP g B).2) := by unfold linesP16; rw [if_neg he]
  have e2 : stakeP g B = (0, 0, (betP g B).2) := by unfold stakeP; rw [if_neg he]
  have e3 : priceP g B = (0, (betP g B).2) := by unfold priceP; rw [if_neg he]
  rw [e1] at cL
  rw [e2] at cS
  rw [e3] at cP
  obtain ⟨c, hc⟩ : ∃ c, c = (betP g B).2 := ⟨_, rfl⟩
  simp only [← hc] at cC cL cS cP
  rw [← hc] at he
  have hcb : (c != 0) = true := by simpa using he
  have hcc : (c != c) = false := by simp
  obtain ⟨aa, ac, rfl, hal, ham⟩ := hg.1.1.shape
  obtain ⟨ta, tc, rfl, htl, htm⟩ := hg.2.2.shape
  obtain ⟨la, lc, rfl, hlc, hlm⟩ := hl.shape
  clear hg hl e1 e2 e3 hc
  replace he := hide he
  unfold gameVal betVal at cC cL cS cP
  unfold betVal at cF
  unfold gameVal betVal
  go_enter Try.func6, Try.ntmps6
  go_upto_region 1 with (fail)
  obtain ⟨W, hW⟩ : ∃ W, W = ((w.alloc (Obj.cells #[.string g.name, .int .i64 g.kind, .int .i64 g.price, .int .i64 g.main, .int .i64 g.of, .int .i64 g.bonus, .int .i64 g.bonusOf, .int .i64 g.extra, .int .i64 g.draws, .int .i64 g.system, .int .i64 g.days, .int .i64 g.at_, .int .i64 g.close, .int .i64 g.cancel, .int .i64 g.expiry, .int .i64 g.pool, .int .i64 g.reserve, .int .i64 g.round, .int .i64 g.cap, .int .i64 g.rolls, (.slice aa ms.length ac), (.slice ta g.tiers.length tc)] 25)).alloc (Obj.cells #[(.slice la B.lines.length lc), .bool B.sys, .int .i64 B.draws, .int .i64 B.addons] 44)) := ⟨_, rfl⟩
  have bW : Below w.heap.size w W := by rw [hW]; exact Bel.al (Bel.al (Below.refl _ _) _) _
  have r0 : GameAt W (w.heap.size) g ((.slice aa ms.length ac)) ((.slice ta g.tiers.length tc)) := by rw [hW]; exact Row.alloc (Row.new _ _ _) _
  have r1 : Row W ((w.heap.size + 1)) 44 [(.slice la B.lines.length lc), .bool B.sys, .int .i64 B.draws, .int .i64 B.addons] := by rw [hW]; exact Row.at2 _ _ _ _
  have sW : w.heap.size + 1 < W.heap.size := by rw [hW]; simp
  rw [← hW]
  clear hW
  go_wp2_with (first | (refine wpList_load_row rfl 44 _ rfl _ rfl _ _ _ _ r1 Try.underlying44 rfl (by kernel_rfl) ?_) | fail)
  refine (cF.out _ bW).mono ?_
  rintro e w1 ⟨q, rfl, hb1⟩
  have B1 := Bel.to bW hb1
  have r0 := r0.keep hb1
  have r1 := Row.keep r1 hb1
  clear hb1 bW
  cases q with
  | false =>
    go_wp2_with fail
    refine (awake16_any _).mono ?_
    rintro e w9 ⟨rfl, hb9⟩
    go_wp2
    go_ret
    exact ⟨rfl, Bel.to B1 hb9⟩
  | true =>
    go_wp2_with (first | (refine wpList_load_row rfl 25 _ rfl _ rfl _ _ _ _ r0 Try.underlying25 rfl (by kernel_rfl) ?_) | (refine wpList_load_row rfl 44 _ rfl _ rfl _ _ _ _ r1 Try.underlying44 rfl (by kernel_rfl) ?_) | fail)
    refine (cC.out _ B1).mono ?_
    rintro e w2 ⟨rfl, hb⟩
    replace B1 := Bel.to B1 hb
    replace r0 := r0.keep hb
    replace r1 := Row.keep r1 hb
    clear hb
    go_wp2_with (first | (refine wpList_load_row rfl 25 _ rfl _ rfl _ _ _ _ r0 Try.underlying25 rfl (by kernel_rfl) ?_) | (refine wpList_load_row rfl 44 _ rfl _ rfl _ _ _ _ r1 Try.underlying44 rfl (by kernel_rfl) ?_) | fail)
    refine (cL.out _ B1).mono ?_
    rintro e w3 ⟨u, rfl, hu, hb⟩
    obtain ⟨ua, uc, rfl⟩ := hu.shape
    replace B1 := Bel.to B1 hb
    replace r0 := r0.keep hb
    replace r1 := Row.keep r1 hb
    rw [List.length_nil]
    clear hb hu
    go_wp2_with (first | (refine wpList_load_row rfl 25 _ rfl _ rfl _ _ _ _ r0 Try.underlying25 rfl (by kernel_rfl) ?_) | (refine wpList_load_row rfl 44 _ rfl _ rfl _ _ _ _ r1 Try.underlying44 rfl (by kernel_rfl) ?_) | fail)
    refine (cS.out _ B1).mono ?_
    rintro e w4 ⟨rfl, hb⟩
    replace B1 := Bel.to B1 hb
    replace r0 := r0.keep hb
    replace r1 := Row.keep r1 hb
    clear hb
    go_wp2_with (first | (refine wpList_load_row rfl 25 _ rfl _ rfl _ _ _ _ r0 Try.underlying25 rfl (by kernel_rfl) ?_) | (refine wpList_load_row rfl 44 _ rfl _ rfl _ _ _ _ r1 Try.underlying44 rfl (by kernel_rfl) ?_) | fail)
    refine (cP.out _ B1).mono ?_
    rintro e w5 ⟨rfl, hb⟩
    replace B1 := Bel.to B1 hb
    clear hb r0 r1
    go_wp2_with fail
    refine (awake16_any _).mono ?_
    rintro e w9 ⟨rfl, hb9⟩
    go_wp2
    go_ret
    exact ⟨rfl, Bel.to B1 hb9⟩

set_option maxHeartbeats 4000000 in
set_option maxRecDepth 100000 in
theorem prices16_ok (g : GameD) (av tv : Value) (ms : List AddonM) (lv : Value) (B : BetD) (w : World) (hg : GameR w av tv ms g) (hl : LinesR w lv B.lines) (he : (betP g B).2 = 0) :
    Calls Try.prog 6 #[gameVal g av tv, betVal lv B] w (BoolB true w) := by
  have cF := hide (fun X (hX : Below w.heap.size w X) => few16_any lv B X (hl.below hX))
  have cC := hide (fun X (hX : Below w.heap.size w X) => bCheck_any g av tv lv ms B X (hg.below hX) (hl.below hX))
  have cL := hide (fun X (hX : Below w.heap.size w X) => blines_ok g av tv lv ms B X (hg.below hX) (hl.below hX) he)
  have cS := hide (fun X (hX : Below w.heap.size w X) => bstake_any g av tv lv ms B X (hg.below hX) (hl.below hX))
  have cP := hide (fun X (hX : Below w.heap.size w X) => bprice_any g av tv lv ms B X (hg.below hX) (hl.below hX))
  have cM := hide (fun X (hX : Below w.heap.size w X) => bprice_any g av tv lv ms (moreB B) X (hg.below hX) (hl.below hX))
  obtain ⟨p1, p2, p3, p4, p5, p6, p7, p8, p9, p10⟩ := betP_ok he
  obtain ⟨t1, t2, t3, t4⟩ := game_price p1
  obtain ⟨x0, x1, y0, y1, -, -⟩ := price_bd he
  have hge := flat_ge p10
  have hx : (stakeP g B).1 = g.price * ((linesB g B).length : Int) := by unfold stakeP; rw [if_pos he, p4]
  have hp : priceP g B = (((stakeP g B).1 + (stakeP g B).2.1) * B.draws, 0) := by unfold priceP; rw [if_pos he]
  have hm : B.draws < g.draws → priceP g (moreB B) = (((stakeP g B).1 + (stakeP g B).2.1) * B.draws + (stakeP g B).1 + (stakeP g B).2.1, 0) := by
    intro hd
    unfold priceP
    rw [betP_more he hd, if_pos he, stakeP_more he hd]
    show (((stakeP g B).1 + (stakeP g B).2.1) * (B.draws + 1), (0 : Int)) = _
    rw [Int.mul_add, Int.mul_one]
    congr 1
    omega
  rw [hp] at cP
  rw [he] at cC cS
  obtain ⟨N, hN⟩ : ∃ N, N = (linesB g B).length := ⟨_, rfl⟩
  obtain ⟨X, hX⟩ : ∃ X, X = (stakeP g B).1 := ⟨_, rfl⟩
  obtain ⟨Y, hY⟩ : ∃ Y, Y = (stakeP g B).2.1 := ⟨_, rfl⟩
  have hge2 : B.lines.length ≤ N := by rw [hN]; exact hge
  rw [← hN] at hx p5
  rw [← hX] at hx x0 x1 hm cS cP
  rw [← hY] at y0 y1 hm cS cP
  have hpb0 : 0 ≤ (X + Y) * B.draws := Int.mul_nonneg (by omega) (by omega)
  have hpb1 : (X + Y) * B.draws ≤ 5120000000 * 32 := Int.mul_le_mul (by omega) (by omega) (by omega) (by omega)
  obtain ⟨Pv, hPv⟩ : ∃ Pv, Pv = (X + Y) * B.draws := ⟨_, rfl⟩
  rw [← hPv] at hm cP hpb0 hpb1
  have k1 : IntKind.i64.wrap (g.price * (N : Int)) = X := by rw [← hx, IntWalk.i64_in _ (by omega)]
  have k2 : IntKind.i64.wrap ((X + Y) * B.draws) = Pv := by rw [← hPv, IntWalk.i64_in _ (by omega)]
  have k3 : (X != X) = false := by simp
  have k4 : (Pv != Pv) = false := by simp
  have k5 : ¬ (N : Int) < (B.lines.length : Int) := by omega
  have k5d : decide ((N : Int) < (B.lines.length : Int)) = false := decide_eq_false k5
  have k5e : ¬ N < B.lines.length := by omega
  have n2 : (B.lines.length : Int) ≤ 16 := by omega
  obtain ⟨T, hT⟩ : ∃ T, T = linesB g B := ⟨_, rfl⟩
  rw [← hT] at cL hN
  have hNh := hide hN.symm
  have hd1 : 1 ≤ B.draws := p6
  have hd2 : B.draws ≤ 32 := by omega
  have hm := hide hm
  obtain ⟨aa, ac, rfl, hal, ham⟩ := hg.1.1.shape
  obtain ⟨ta, tc, rfl, htl, htm⟩ := hg.2.2.shape
  obtain ⟨la, lc, rfl, hlc, hlm⟩ := hl.shape
  replace hPv := hide hPv
  replace hx := hide hx
  clear hg hl p1 p2 p3 p4 p6 p7 p8 p9 p10 hp hX hY hT hN he hge hge2
  unfold gameVal betVal at cC cL cS cP cM
  unfold betVal at cF
  unfold gameVal betVal
  go_enter Try.func6, Try.ntmps6
  go_upto_region 1 with (fail)
  obtain ⟨W, hW⟩ : ∃ W, W = ((w.alloc (Obj.cells #[.string g.name, .int .i64 g.kind, .int .i64 g.price, .int .i64 g.main, .int .i64 g.of, .int .i64 g.bonus, .int .i64 g.bonusOf, .int .i64 g.extra, .int .i64 g.draws, .int .i64 g.system, .int .i64 g.days, .int .i64 g.at_, .int .i64 g.close, .int .i64 g.cancel, .int .i64 g.expiry, .int .i64 g.pool, .int .i64 g.reserve, .int .i64 g.round, .int .i64 g.cap, .int .i64 g.rolls, (.slice aa ms.length ac), (.slice ta g.tiers.length tc)] 25)).alloc (Obj.cells #[(.slice la B.lines.length lc), .bool B.sys, .int .i64 B.draws, .int .i64 B.addons] 44)) := ⟨_, rfl⟩
  have bW : Below w.heap.size w W := by rw [hW]; exact Bel.al (Bel.al (Below.refl _ _) _) _
  have r0 : GameAt W (w.heap.size) g ((.slice aa ms.length ac)) ((.slice ta g.tiers.length tc)) := by rw [hW]; exact Row.alloc (Row.new _ _ _) _
  have r1 : Row W ((w.heap.size + 1)) 44 [(.slice la B.lines.length lc), .bool B.sys, .int .i64 B.draws, .int .i64 B.addons] := by rw [hW]; exact Row.at2 _ _ _ _
  have sW : w.heap.size + 1 < W.heap.size := by rw [hW]; simp
  rw [← hW]
  clear hW
  go_wp2_with (first | (refine wpList_load_row rfl 44 _ rfl _ rfl _ _ _ _ r1 Try.underlying44 rfl (by kernel_rfl) ?_) | fail)
  refine (cF.out _ bW).mono ?_
  rintro e w1 ⟨q, rfl, hb1⟩
  have B1 := Bel.to bW hb1
  have r0 := r0.keep hb1
  have r1 := Row.keep r1 hb1
  clear hb1 bW
  cases q with
  | false =>
    go_wp2_with fail
    refine (awake16_any _).mono ?_
    rintro e w9 ⟨rfl, hb9⟩
    go_wp2
    go_ret
    exact ⟨rfl, Bel.to B1 hb9⟩
  | true =>
    go_wp2_with (first | (refine wpList_load_row rfl 25 _ rfl _ rfl _ _ _ _ r0 Try.underlying25 rfl (by kernel_rfl) ?_) | (refine wpList_load_row rfl 44 _ rfl _ rfl _ _ _ _ r1 Try.underlying44 rfl (by kernel_rfl) ?_) | fail)
    refine (cC.out _ B1).mono ?_
    rintro e w2 ⟨rfl, hb⟩
    replace B1 := Bel.to B1 hb
    replace r0 := r0.keep hb
    replace r1 := Row.keep r1 hb
    clear hb
    go_wp2_with (first | (refine wpList_load_row rfl 25 _ rfl _ rfl _ _ _ _ r0 Try.underlying25 rfl (by kernel_rfl) ?_) | (refine wpList_load_row rfl 44 _ rfl _ rfl _ _ _ _ r1 Try.underlying44 rfl (by kernel_rfl) ?_) | fail)
    refine (cL.out _ B1).mono ?_
    rintro e w3 ⟨u, rfl, hu, hb⟩
    obtain ⟨ua, uc, rfl⟩ := hu.shape
    replace B1 := Bel.to B1 hb
    replace r0 := r0.keep hb
    replace r1 := Row.keep r1 hb
    rw [hNh.out]
    clear hb hu
    go_wp2_with (first | (refine wpList_load_row rfl 25 _ rfl _ rfl _ _ _ _ r0 Try.underlying25 rfl (by kernel_rfl) ?_) | (refine wpList_load_row rfl 44 _ rfl _ rfl _ _ _ _ r1 Try.underlying44 rfl (by kernel_rfl) ?_) | fail)
    refine (cS.out _ B1).mono ?_
    rintro e w4 ⟨rfl, hb⟩
    replace B1 := Bel.to B1 hb
    replace r0 := r0.keep hb
    replace r1 := Row.keep r1 hb
    clear hb
    go_wp2_with (first | (refine wpList_load_row rfl 25 _ rfl _ rfl _ _ _ _ r0 Try.underlying25 rfl (by kernel_rfl) ?_) | (refine wpList_load_row rfl 44 _ rfl _ rfl _ _ _ _ r1 Try.underlying44 rfl (by kernel_rfl) ?_) | fail)
    refine (cP.out _ B1).mono ?_
    rintro e w5 ⟨rfl, hb⟩
    replace B1 := Bel.to B1 hb
    replace r0 := r0.keep hb
    replace r1 := Row.keep r1 hb
    clear hb
    have d2 := r0.price
    have d8 := r0.draws
    have c0 : w5.cell? ⟨w.heap.size + 1, 0, none⟩ = some (.slice la B.lines.length lc) := (r1.cell? 0).trans rfl
    have c2 : w5.cell? ⟨w.heap.size + 1, 2, none⟩ = some (.int .i64 B.draws) := (r1.cell? 2).trans rfl
    by_cases hdd : B.draws < g.draws
    · have hddd : decide (B.draws < g.draws) = true := decide_eq_true hdd
      have hmm := hm.out hdd
      rw [hmm] at cM
      go_upto_region 14 with (fail)
      go_upto_region 15 with (first | (refine wpList_load_row rfl 44 _ rfl _ rfl _ _ _ _ r1 Try.underlying44 rfl (by kernel_rfl) ?_) | fail)
      obtain ⟨W6, hW6⟩ : ∃ W6, W6 = w5.alloc (.cells #[.slice la B.lines.length lc, .bool B.sys, .int .i64 B.draws, .int .i64 B.addons] 44) := ⟨_, rfl⟩
      have b6 : Below w5.heap.size w5 W6 := by rw [hW6]; exact Bel.al (Below.refl _ _) _
      have r2 : Row W6 w5.heap.size 44 [.slice la B.lines.length lc, .bool B.sys, .int .i64 B.draws, .int .i64 B.addons] := by rw [hW6]; exact Row.newOf _ rfl
      rw [← hW6]
      clear hW6
      have c2 := Bel.cellOf b6 c2
      have m2 : W6.cell? ⟨w5.heap.size, 2, none⟩ = some (.int .i64 B.draws) := (r2.cell? 2).trans rfl
      have m3 := r2.frozen 2
      have r0 := r0.keep b6
      have B6 := Bel.to B1 b6
      have B7 : Below w.heap.size w (W6.setCell ⟨w5.heap.size, 2, none⟩ (.int .i64 (B.draws + 1))) := B6.setCell (p := ⟨w5.heap.size, 2, none⟩) B1.size _
      have r3 : Row (W6.setCell ⟨w5.heap.size, 2, none⟩ (.int .i64 (B.draws + 1))) w5.heap.size 44 [.slice la B.lines.length lc, .bool B.sys, .int .i64 (B.draws + 1), .int .i64 B.addons] := Row.set r2 2 (.int .i64 (B.draws + 1))
      have r0 : GameAt (W6.setCell ⟨w5.heap.size, 2, none⟩ (.int .i64 (B.draws + 1))) w.heap.size g (.slice aa ms.length ac) (.slice ta g.tiers.length tc) := Row.far r0 (p := ⟨w5.heap.size, 2, none⟩) (by have := Row.lt r1; simp only []; omega) _
      go_upto_region 16 with (fail)
      obtain ⟨W7, hW7⟩ : ∃ W7, W7 = W6.setCell ⟨w5.heap.size, 2, none⟩ (.int .i64 (B.draws + 1)) := ⟨_, rfl⟩
      rw [← hW7] at B7 r3 r0 ⊢
      clear hW7 m2 m3 r2 B6 b6 c2 c0
      go_wp2_with (first | (refine wpList_load_row rfl 25 _ rfl _ rfl _ _ _ _ r0 Try.underlying25 rfl (by kernel_rfl) ?_) | (refine wpList_load_row rfl 44 _ rfl _ rfl _ _ _ _ r3 Try.underlying44 rfl (by kernel_rfl) ?_) | fail)
      refine (cM.out _ B7).mono ?_
      rintro e w8 ⟨rfl, hb8⟩
      have B8 := Bel.to B7 hb8
      have q1 : ((Pv + X + Y) != (Pv + X + Y)) = false := by simp
      clear r0 r3 hb8
      go_wp2_with fail
      refine (awake16_any _).mono ?_
      rintro e w9 ⟨rfl, hb9⟩
      go_wp2
      go_ret
      exact ⟨rfl, Bel.to B8 hb9⟩
    · have hddd : decide (B.draws < g.draws) = false := decide_eq_false hdd
      go_wp2_with fail
      refine (awake16_any _).mono ?_
      rintro e w9 ⟨rfl, hb9⟩
      go_wp2
      go_ret
      exact ⟨rfl, Bel.to B1 hb9⟩

theorem prices16_any (g : GameD) (av tv : Value) (ms : List AddonM) (lv : Value) (B : BetD) (w : World) (hg : GameR w av tv ms g) (hl : LinesR w lv B.lines) :
    Calls Try.prog 6 #[gameVal g av tv, betVal lv B] w (BoolB true w) := by
  by_cases he : (betP g B).2 = 0
  · exact prices16_ok g av tv ms lv B w hg hl he
  · exact prices16_bad g av tv ms lv B w hg hl he
end Go.Proofs.Ytgmbnbdbmkdlgaa
end

section
/- BetPrices: for every input the Go function lotterylaw16.BetPrices returns true, and each argument reads afterwards as before. Conditions: none. -/
namespace Go.Proofs.Ytgmbnbdbmkdlgaa.betPrices
open Go.ChangeShapes Go.WideShapes Go.ChangeAt Go.RowKit
set_option linter.unusedVariables false

theorem own : ownKnob Try.prog.godebug = none := by kernel_rfl
theorem laidOut : laidOutB Try.prog = true := by kernel_rfl

set_option maxRecDepth 100000 in
theorem lifted (os : Os) (started : os.Started) (H : Type) (enc : TypeId × Value → H) :
    ReturnsInHanded {} Try.checked os 6 .any (Rows.betPricesSpec.pre6 enc Try.prog Try.f6 Rows.betPricesRow.domain false) (Rows.betPricesSpec.post enc Try.prog Try.f6 false true false false) := by
  refine returnsInHanded_of_change (C := Try.checked) own started (by kernel_rfl) Try.func6
    (ChangeSpec.witness6 (enc := enc) (C := Try.checked) false ⟨#[], #[.agg #[.string ⟨#[]⟩, .int .i64 0, .int .i64 0, .int .i64 0, .int .i64 0, .int .i64 0, .int .i64 0, .int .i64 0, .int .i64 0, .int .i64 0, .int .i64 0, .int .i64 0, .int .i64 0, .int .i64 0, .int .i64 0, .int .i64 0, .int .i64 0, .int .i64 0, .int .i64 0, .int .i64 0, .slice none 0 0, .slice none 0 0], .agg #[.slice none 0 0, .bool false, .int .i64 0, .int .i64 0]], []⟩ 8 (by kernel_rfl) (by kernel_rfl) (by kernel_rfl) (by kernel_rfl)) ?_
  intro W base args ds gs before hval0 hW hcnd _
  have hval : ∀ (j : Nat) t v, Try.f6.params[j]? = some t → args[j]? = some v → Value.okWide Try.prog W .any base t v := hval0
  have hW' := hW
  obtain ⟨p, q, hA0, hV, rfl, hfz, hnd⟩ := hW
  have hA : DataW.TrodAll enc Try.prog W 0 (fun _ => true) true Try.f6.params.toList args.toList ds p := hA0
  rw [Try.params6] at hA hval
  obtain ⟨v0, vs0, d0, ds0, p0, q0, hargs, rfl, rfl, h0, r0⟩ := trodAll_cons hA
  obtain ⟨v1, vs1, d1, ds1, p1, q1, rfl, rfl, rfl, h1, r1⟩ := trodAll_cons r0
  obtain ⟨rfl, rfl, rfl⟩ := trodAll_nil r1
  obtain rfl : args = #[v0, v1] := by cases args; simp_all
  obtain ⟨rfl, rfl⟩ := trodVars_none hV
  obtain ⟨cs0, rfl, hsz0⟩ := okWide_struct Try.underlying25 (hval 0 25 v0 rfl rfl)
  have k0 := h0
  have lt0 : ∀ x ∈ p0, x.block < W.heap.size := by obtain ⟨m, hm⟩ := k0; exact DataW.trod_lt m _ _ _ hm
  obtain ⟨g0, av0, tv0, ms0, eg0, rg0⟩ := game_trod h0
  rw [eg0] at k0 hW' ⊢
  obtain ⟨cs1, rfl, hsz1⟩ := okWide_struct Try.underlying44 (hval 1 44 v1 rfl rfl)
  have k1 := h1
  have lt1 : ∀ x ∈ p1, x.block < W.heap.size := by obtain ⟨m, hm⟩ := k1; exact DataW.trod_lt m _ _ _ hm
  obtain ⟨lv1, B1, eg1, rg1⟩ := bet_trod h1
  rw [eg1] at k1 hW' ⊢
  clear hA0 hval0
  refine (prices16_any g0 av0 tv0 ms0 lv1 B1 W rg0 rg1).mono fun e W' ⟨he, bel⟩ => ?_
  subst he
  exact ⟨_, rfl, _, _, _, [], _, [], hW', trodAll_mk1 (shut_bool Try.underlying4 _), (trodAll_cons_mk (Below.trod laidOut (by kernel_rfl) (of_decide_eq_true (by kernel_rfl)) k0 bel lt0) (trodAll_cons_mk (Below.trod laidOut (by kernel_rfl) (of_decide_eq_true (by kernel_rfl)) k1 bel lt1) trodAll_mk0)), rfl, bel.frame _, fun h => by cases h⟩

theorem over : Rows.betPricesRow.holds Try.pinned (OpenSpec.ofChange Rows.betPricesSpec) :=
  OpenClaim.holds_of_wide 6 Try.f6 rfl rfl rfl rfl rfl rfl rfl ⟨rfl, rfl, rfl, rfl, rfl⟩ rfl rfl rfl rfl rfl (by kernel_rfl) Try.func6 (by kernel_rfl)
    (of_decide_eq_true (by kernel_rfl)) (by unfold Func.isWrapper; first | (rw [if_pos (by decide +kernel)]; kernel_rfl) | (rw [if_neg (by decide +kernel)]; exact ⟨rfl, rfl⟩))
    (fun os started H enc _ => lifted os started H enc)

theorem proved : Rows.BetPricesSaid := over
#print axioms proved
end Go.Proofs.Ytgmbnbdbmkdlgaa.betPrices
end

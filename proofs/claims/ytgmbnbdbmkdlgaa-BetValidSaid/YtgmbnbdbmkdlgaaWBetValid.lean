/- BetValid: for every input the Go function lotterylaw16.BetValid returns true, and each argument reads afterwards as before. Conditions: none. -/
import Derived.BigQuiet
import Derived.Test.YtgmbnbdbmkdlgaaRows
import Derived.WalkKit
import Derived.ProofKit
import Derived.OpenShut
import Derived.ChangeOld
import Derived.Below
import Derived.Test.YtgmbnbdbmkdlgaaGBetB
import Derived.Test.YtgmbnbdbmkdlgaaGLine
import Derived.Test.YtgmbnbdbmkdlgaaGSysB
import Derived.Test.YtgmbnbdbmkdlgaaGTrod
import Derived.Test.YtgmbnbdbmkdlgaaGTrodB

section
/- The walk of the statement BetPrices: it returns true, whatever the game and the bet. -/
open Go.RowKit
set_option linter.unusedVariables false
set_option linter.unusedSimpArgs false
namespace Go.Proofs.Ytgmbnbdbmkdlgaa

theorem lineB_pos {g : GameD} {sys : Bool} {l : LineD} (h : (sizeB g sys l).2 = 0) : 1 ≤ (lineB g sys l).length := by
  cases sys with
  | false => exact Nat.le_refl 1
  | true =>
    have h2 := exp_ne (size_sys h)
    have h3 : lineB g true l = expL (sortI l.1) (sortI l.2) g.main.toNat := rfl
    rw [h3]
    exact List.length_pos_iff.2 h2
theorem flat_ge {g : GameD} {sys : Bool} {ls : List LineD} (h : ∀ l ∈ ls, (sizeB g sys l).2 = 0) : ls.length ≤ (ls.flatMap (lineB g sys)).length := by
  induction ls with
  | nil => simp
  | cons l r ih =>
    have h1 := lineB_pos (h l List.mem_cons_self)
    have h2 := ih (fun x hx => h x (List.mem_cons_of_mem l hx))
    rw [List.flatMap_cons, List.length_append, List.length_cons]
    omega

/-- One more draw. -/
def moreB (B : BetD) : BetD := ⟨B.lines, B.sys, B.draws + 1, B.addons⟩
theorem betP_more {g : GameD} {B : BetD} (h : (betP g B).2 = 0) (hd : B.draws < g.draws) : betP g (moreB B) = betP g B := by
  obtain ⟨p1, p2, p3, p4, p5, p6, p7, p8, p9, p10⟩ := betP_ok h
  rw [betP_tail p1 p2 p3] at h ⊢
  rw [betP_tail (B := moreB B) p1 p2 p3]
  show tailB g (moreB B) (scanB g B.sys B.lines [] 0) = _
  obtain ⟨R, hR⟩ : ∃ R, R = scanB g B.sys B.lines [] 0 := ⟨_, rfl⟩
  rw [← hR] at h ⊢
  have n1 : ¬ R.2 ≠ 0 := by
    intro h1
    unfold tailB at h
    rw [if_pos h1] at h
    exact h1 h
  have n2 : ¬ 1024 < R.1 := by
    intro h2
    unfold tailB at h
    rw [if_neg n1, if_pos h2] at h
    exact absurd h (by simp)
  have e1 : ¬ ((moreB B).draws < 1 ∨ g.draws < (moreB B).draws) := by show ¬ (B.draws + 1 < 1 ∨ g.draws < B.draws + 1); omega
  have e2 : ¬ (B.draws < 1 ∨ g.draws < B.draws) := by omega
  have a1 : tailB g (moreB B) R = if (moreB B).addons < 0 ∨ 2 ^ g.addons.length ≤ (moreB B).addons then (0, 2) else (R.1, 0) := by
    unfold tailB; rw [if_neg n1, if_neg n2, if_neg e1]
  have a2 : tailB g B R = if B.addons < 0 ∨ 2 ^ g.addons.length ≤ B.addons then (0, 2) else (R.1, 0) := by
    unfold tailB; rw [if_neg n1, if_neg n2, if_neg e2]
  rw [a1, a2]
  rfl
theorem stakeP_more {g : GameD} {B : BetD} (h : (betP g B).2 = 0) (hd : B.draws < g.draws) : stakeP g (moreB B) = stakeP g B := by
  unfold stakeP
  rw [betP_more h hd]
  rfl

set_option maxHeartbeats 4000000 in
set_option maxRecDepth 100000 in
theorem prices16_bad (g : GameD) (av tv : Value) (ms : List AddonM) (lv : Value) (B : BetD) (w : World) (hg : GameR w av tv ms g) (hl : LinesR w lv B.lines) (he : (betP g B).2 ≠ 0) :
    Calls Try.prog 6 #[gameVal g av tv, betVal lv B] w (BoolB true w) := by
  have cF := hide (fun X (hX : Below w.heap.size w X) => few16_any lv B X (hl.below hX))
  have cC := hide (fun X (hX : Below w.heap.size w X) => bCheck_any g av tv lv ms B X (hg.below hX) (hl.below hX))
  have cL := hide (fun X (hX : Below w.heap.size w X) => blines_own g av tv lv ms B X (hg.below hX) (hl.below hX))
  have cS := hide (fun X (hX : Below w.heap.size w X) => bstake_any g av tv lv ms B X (hg.below hX) (hl.below hX))
  have cP := hide (fun X (hX : Below w.heap.size w X) => bprice_any g av tv lv ms B X (hg.below hX) (hl.below hX))
  have e1 : linesP16 g B = ([], (betP g B).2) := by unfold linesP16; rw [if_neg he]
  have e2 : stakeP g B = (0, 0, (betP g B).2) := by unfold stakeP; rw [if_neg he]
  have e3 : priceP g B = (0, (betP g B).2) := by unfold priceP; rw [if_neg he]
  rw [e1] at cL
  rw [e2] at cS
  rw [e3] at cP
  obtain ⟨c, hc⟩ : ∃ c, c = (betP g B).2 := ⟨_, rfl⟩
  simp only [← hc] at cC cL cS cP
  rw [← hc] at he
  have hcb : (c != 0) = true := by simpa using he
  have hcc : (c != c) = false := by simp
  obtain ⟨aa, ac, rfl, hal, ham⟩ := hg.1.1.shape
  obtain ⟨ta, tc, rfl, htl, htm⟩ := hg.2.2.shape
  obtain ⟨la, lc, rfl, hlc, hlm⟩ := hl.shape
  clear hg hl e1 e2 e3 hc
  replace he := hide he
  unfold gameVal betVal at cC cL cS cP
  unfold betVal at cF
  unfold gameVal betVal
  go_enter Try.func6, Try.ntmps6
  go_upto_region 1 with (fail)
  obtain ⟨W, hW⟩ : ∃ W, W = ((w.alloc (Obj.cells #[.string g.name, .int .i64 g.kind, .int .i64 g.price, .int .i64 g.main, .int .i64 g.of, .int .i64 g.bonus, .int .i64 g.bonusOf, .int .i64 g.extra, .int .i64 g.draws, .int .i64 g.system, .int .i64 g.days, .int .i64 g.at_, .int .i64 g.close, .int .i64 g.cancel, .int .i64 g.expiry, .int .i64 g.pool, .int .i64 g.reserve, .int .i64 g.round, .int .i64 g.cap, .int .i64 g.rolls, (.slice aa ms.length ac), (.slice ta g.tiers.length tc)] 25)).alloc (Obj.cells #[(.slice la B.lines.length lc), .bool B.sys, .int .i64 B.draws, .int .i64 B.addons] 44)) := ⟨_, rfl⟩
  have bW : Below w.heap.size w W := by rw [hW]; exact Bel.al (Bel.al (Below.refl _ _) _) _
  have r0 : GameAt W (w.heap.size) g ((.slice aa ms.length ac)) ((.slice ta g.tiers.length tc)) := by rw [hW]; exact Row.alloc (Row.new _ _ _) _
  have r1 : Row W ((w.heap.size + 1)) 44 [(.slice la B.lines.length lc), .bool B.sys, .int .i64 B.draws, .int .i64 B.addons] := by rw [hW]; exact Row.at2 _ _ _ _
  have sW : w.heap.size + 1 < W.heap.size := by rw [hW]; simp
  rw [← hW]
  clear hW
  go_wp2_with (first | (refine wpList_load_row rfl 44 _ rfl _ rfl _ _ _ _ r1 Try.underlying44 rfl (by kernel_rfl) ?_) | fail)
  refine (cF.out _ bW).mono ?_
  rintro e w1 ⟨q, rfl, hb1⟩
  have B1 := Bel.to bW hb1
  have r0 := r0.keep hb1
  have r1 := Row.keep r1 hb1
  clear hb1 bW
  cases q with
  | false =>
    go_wp2_with fail
    refine (awake16_any _).mono ?_
    rintro e w9 ⟨rfl, hb9⟩
    go_wp2
    go_ret
    exact ⟨rfl, Bel.to B1 hb9⟩
  | true =>
    go_wp2_with (first | (refine wpList_load_row rfl 25 _ rfl _ rfl _ _ _ _ r0 Try.underlying25 rfl (by kernel_rfl) ?_) | (refine wpList_load_row rfl 44 _ rfl _ rfl _ _ _ _ r1 Try.underlying44 rfl (by kernel_rfl) ?_) | fail)
    refine (cC.out _ B1).mono ?_
    rintro e w2 ⟨rfl, hb⟩
    replace B1 := Bel.to B1 hb
    replace r0 := r0.keep hb
    replace r1 := Row.keep r1 hb
    clear hb
    go_wp2_with (first | (refine wpList_load_row rfl 25 _ rfl _ rfl _ _ _ _ r0 Try.underlying25 rfl (by kernel_rfl) ?_) | (refine wpList_load_row rfl 44 _ rfl _ rfl _ _ _ _ r1 Try.underlying44 rfl (by kernel_rfl) ?_) | fail)
    refine (cL.out _ B1).mono ?_
    rintro e w3 ⟨u, rfl, hu, hb⟩
    obtain ⟨ua, uc, rfl⟩ := hu.shape
    replace B1 := Bel.to B1 hb
    replace r0 := r0.keep hb
    replace r1 := Row.keep r1 hb
    rw [List.length_nil]
    clear hb hu
    go_wp2_with (first | (refine wpList_load_row rfl 25 _ rfl _ rfl _ _ _ _ r0 Try.underlying25 rfl (by kernel_rfl) ?_) | (refine wpList_load_row rfl 44 _ rfl _ rfl _ _ _ _ r1 Try.underlying44 rfl (by kernel_rfl) ?_) | fail)
    refine (cS.out _ B1).mono ?_
    rintro e w4 ⟨rfl, hb⟩
    replace B1 := Bel.to B1 hb
    replace r0 := r0.keep hb
    replace r1 := Row.keep r1 hb
    clear hb
    go_wp2_with (first | (refine wpList_load_row rfl 25 _ rfl _ rfl _ _ _ _ r0 Try.underlying25 rfl (by kernel_rfl) ?_) | (refine wpList_load_row rfl 44 _ rfl _ rfl _ _ _ _ r1 Try.underlying44 rfl (by kernel_rfl) ?_) | fail)
    refine (cP.out _ B1).mono ?_
    rintro e w5 ⟨rfl, hb⟩
    replace B1 := Bel.to B1 hb
    clear hb r0 r1
    go_wp2_with fail
    refine (awake16_any _).mono ?_
    rintro e w9 ⟨rfl, hb9⟩
    go_wp2
    go_ret
    exact ⟨rfl, Bel.to B1 hb9⟩

set_option maxHeartbeats 4000000 in
set_option maxRecDepth 100000 in
theorem prices16_ok (g : GameD) (av tv : Value) (ms : List AddonM) (lv : Value) (B : BetD) (w : World) (hg : GameR w av tv ms g) (hl : LinesR w lv B.lines) (he : (betP g B).2 = 0) :
    Calls Try.prog 6 #[gameVal g av tv, betVal lv B] w (BoolB true w) := by
  have cF := hide (fun X (hX : Below w.heap.size w X) => few16_any lv B X (hl.below hX))
  have cC := hide (fun X (hX : Below w.heap.size w X) => bCheck_any g av tv lv ms B X (hg.below hX) (hl.below hX))
  have cL := hide (fun X (hX : Below w.heap.size w X) => blines_ok g av tv lv ms B X (hg.below hX) (hl.below hX) he)
  have cS := hide (fun X (hX : Below w.heap.size w X) => bstake_any g av tv lv ms B X (hg.below hX) (hl.below hX))
  have cP := hide (fun X (hX : Below w.heap.size w X) => bprice_any g av tv lv ms B X (hg.below hX) (hl.below hX))
  have cM := hide (fun X (hX : Below w.heap.size w X) => bprice_any g av tv lv ms (moreB B) X (hg.below hX) (hl.below hX))
  obtain ⟨p1, p2, p3, p4, p5, p6, p7, p8, p9, p10⟩ := betP_ok he
  obtain ⟨t1, t2, t3, t4⟩ := game_price p1
  obtain ⟨x0, x1, y0, y1, -, -⟩ := price_bd he
  have hge := flat_ge p10
  have hx : (stakeP g B).1 = g.price * ((linesB g B).length : Int) := by unfold stakeP; rw [if_pos he, p4]
  have hp : priceP g B = (((stakeP g B).1 + (stakeP g B).2.1) * B.draws, 0) := by unfold priceP; rw [if_pos he]
  have hm : B.draws < g.draws → priceP g (moreB B) = (((stakeP g B).1 + (stakeP g B).2.1) * B.draws + (stakeP g B).1 + (stakeP g B).2.1, 0) := by
    intro hd
    unfold priceP
    rw [betP_more he hd, if_pos he, stakeP_more he hd]
    show (((stakeP g B).1 + (stakeP g B).2.1) * (B.draws + 1), (0 : Int)) = _
    rw [Int.mul_add, Int.mul_one]
    congr 1
    omega
  rw [hp] at cP
  rw [he] at cC cS
  obtain ⟨N, hN⟩ : ∃ N, N = (linesB g B).length := ⟨_, rfl⟩
  obtain ⟨X, hX⟩ : ∃ X, X = (stakeP g B).1 := ⟨_, rfl⟩
  obtain ⟨Y, hY⟩ : ∃ Y, Y = (stakeP g B).2.1 := ⟨_, rfl⟩
  have hge2 : B.lines.length ≤ N := by rw [hN]; exact hge
  rw [← hN] at hx p5
  rw [← hX] at hx x0 x1 hm cS cP
  rw [← hY] at y0 y1 hm cS cP
  have hpb0 : 0 ≤ (X + Y) * B.draws := Int.mul_nonneg (by omega) (by omega)
  have hpb1 : (X + Y) * B.draws ≤ 5120000000 * 32 := Int.mul_le_mul (by omega) (by omega) (by omega) (by omega)
  obtain ⟨Pv, hPv⟩ : ∃ Pv, Pv = (X + Y) * B.draws := ⟨_, rfl⟩
  rw [← hPv] at hm cP hpb0 hpb1
  have k1 : IntKind.i64.wrap (g.price * (N : Int)) = X := by rw [← hx, IntWalk.i64_in _ (by omega)]
  have k2 : IntKind.i64.wrap ((X + Y) * B.draws) = Pv := by rw [← hPv, IntWalk.i64_in _ (by omega)]
  have k3 : (X != X) = false := by simp
  have k4 : (Pv != Pv) = false := by simp
  have k5 : ¬ (N : Int) < (B.lines.length : Int) := by omega
  have k5d : decide ((N : Int) < (B.lines.length : Int)) = false := decide_eq_false k5
  have k5e : ¬ N < B.lines.length := by omega
  have n2 : (B.lines.length : Int) ≤ 16 := by omega
  obtain ⟨T, hT⟩ : ∃ T, T = linesB g B := ⟨_, rfl⟩
  rw [← hT] at cL hN
  have hNh := hide hN.symm
  have hd1 : 1 ≤ B.draws := p6
  have hd2 : B.draws ≤ 32 := by omega
  have hm := hide hm
  obtain ⟨aa, ac, rfl, hal, ham⟩ := hg.1.1.shape
  obtain ⟨ta, tc, rfl, htl, htm⟩ := hg.2.2.shape
  obtain ⟨la, lc, rfl, hlc, hlm⟩ := hl.shape
  replace hPv := hide hPv
  replace hx := hide hx
  clear hg hl p1 p2 p3 p4 p6 p7 p8 p9 p10 hp hX hY hT hN he hge hge2
  unfold gameVal betVal at cC cL cS cP cM
  unfold betVal at cF
  unfold gameVal betVal
  go_enter Try.func6, Try.ntmps6
  go_upto_region 1 with (fail)
  obtain ⟨W, hW⟩ : ∃ W, W = ((w.alloc (Obj.cells #[.string g.name, .int .i64 g.kind, .int .i64 g.price, .int .i64 g.main, .int .i64 g.of, .int .i64 g.bonus, .int .i64 g.bonusOf, .int .i64 g.extra, .int .i64 g.draws, .int .i64 g.system, .int .i64 g.days, .int .i64 g.at_, .int .i64 g.close, .int .i64 g.cancel, .int .i64 g.expiry, .int .i64 g.pool, .int .i64 g.reserve, .int .i64 g.round, .int .i64 g.cap, .int .i64 g.rolls, (.slice aa ms.length ac), (.slice ta g.tiers.length tc)] 25)).alloc (Obj.cells #[(.slice la B.lines.length lc), .bool B.sys, .int .i64 B.draws, .int .i64 B.addons] 44)) := ⟨_, rfl⟩
  have bW : Below w.heap.size w W := by rw [hW]; exact Bel.al (Bel.al (Below.refl _ _) _) _
  have r0 : GameAt W (w.heap.size) g ((.slice aa ms.length ac)) ((.slice ta g.tiers.length tc)) := by rw [hW]; exact Row.alloc (Row.new _ _ _) _
  have r1 : Row W ((w.heap.size + 1)) 44 [(.slice la B.lines.length lc), .bool B.sys, .int .i64 B.draws, .int .i64 B.addons] := by rw [hW]; exact Row.at2 _ _ _ _
  have sW : w.heap.size + 1 < W.heap.size := by rw [hW]; simp
  rw [← hW]
  clear hW
  go_wp2_with (first | (refine wpList_load_row rfl 44 _ rfl _ rfl _ _ _ _ r1 Try.underlying44 rfl (by kernel_rfl) ?_) | fail)
  refine (cF.out _ bW).mono ?_
  rintro e w1 ⟨q, rfl, hb1⟩
  have B1 := Bel.to bW hb1
  have r0 := r0.keep hb1
  have r1 := Row.keep r1 hb1
  clear hb1 bW
  cases q with
  | false =>
    go_wp2_with fail
    refine (awake16_any _).mono ?_
    rintro e w9 ⟨rfl, hb9⟩
    go_wp2
    go_ret
    exact ⟨rfl, Bel.to B1 hb9⟩
  | true =>
    go_wp2_with (first | (refine wpList_load_row rfl 25 _ rfl _ rfl _ _ _ _ r0 Try.underlying25 rfl (by kernel_rfl) ?_) | (refine wpList_load_row rfl 44 _ rfl _ rfl _ _ _ _ r1 Try.underlying44 rfl (by kernel_rfl) ?_) | fail)
    refine (cC.out _ B1).mono ?_
    rintro e w2 ⟨rfl, hb⟩
    replace B1 := Bel.to B1 hb
    replace r0 := r0.keep hb
    replace r1 := Row.keep r1 hb
    clear hb
    go_wp2_with (first | (refine wpList_load_row rfl 25 _ rfl _ rfl _ _ _ _ r0 Try.underlying25 rfl (by kernel_rfl) ?_) | (refine wpList_load_row rfl 44 _ rfl _ rfl _ _ _ _ r1 Try.underlying44 rfl (by kernel_rfl) ?_) | fail)
    refine (cL.out _ B1).mono ?_
    rintro e w3 ⟨u, rfl, hu, hb⟩
    obtain ⟨ua, uc, rfl⟩ := hu.shape
    replace B1 := Bel.to B1 hb
    replace r0 := r0.keep hb
    replace r1 := Row.keep r1 hb
    rw [hNh.out]
    clear hb hu
    go_wp2_with (first | (refine wpList_load_row rfl 25 _ rfl _ rfl _ _ _ _ r0 Try.underlying25 rfl (by kernel_rfl) ?_) | (refine wpList_load_row rfl 44 _ rfl _ rfl _ _ _ _ r1 Try.underlying44 rfl (by kernel_rfl) ?_) | fail)
    refine (cS.out _ B1).mono ?_
    rintro e w4 ⟨rfl, hb⟩
    replace B1 := Bel.to B1 hb
    replace r0 := r0.keep hb
    replace r1 := Row.keep r1 hb
    clear hb
    go_wp2_with (first | (refine wpList_load_row rfl 25 _ rfl _ rfl _ _ _ _ r0 Try.underlying25 rfl (by kernel_rfl) ?_) | (refine wpList_load_row rfl 44 _ rfl _ rfl _ _ _ _ r1 Try.underlying44 rfl (by kernel_rfl) ?_) | fail)
    refine (cP.out _ B1).mono ?_
    rintro e w5 ⟨rfl, hb⟩
    replace B1 := Bel.to B1 hb
    replace r0 := r0.keep hb
    replace r1 := Row.keep r1 hb
    clear hb
    have d2 := r0.price
    have d8 := r0.draws
    have c0 : w5.cell? ⟨w.heap.size + 1, 0, none⟩ = some (.slice la B.lines.length lc) := (r1.cell? 0).trans rfl
    have c2 : w5.cell? ⟨w.heap.size + 1, 2, none⟩ = some (.int .i64 B.draws) := (r1.cell? 2).trans rfl
    by_cases hdd : B.draws < g.draws
    · have hddd : decide (B.draws < g.draws) = true := decide_eq_true hdd
      have hmm := hm.out hdd
      rw [hmm] at cM
      go_upto_region 14 with (fail)
      go_upto_region 15 with (first | (refine wpList_load_row rfl 44 _ rfl _ rfl _ _ _ _ r1 Try.underlying44 rfl (by kernel_rfl) ?_) | fail)
      obtain ⟨W6, hW6⟩ : ∃ W6, W6 = w5.alloc (.cells #[.slice la B.lines.length lc, .bool B.sys, .int .i64 B.draws, .int .i64 B.addons] 44) := ⟨_, rfl⟩
      have b6 : Below w5.heap.size w5 W6 := by rw [hW6]; exact Bel.al (Below.refl _ _) _
      have r2 : Row W6 w5.heap.size 44 [.slice la B.lines.length lc, .bool B.sys, .int .i64 B.draws, .int .i64 B.addons] := by rw [hW6]; exact Row.newOf _ rfl
      rw [← hW6]
      clear hW6
      have c2 := Bel.cellOf b6 c2
      have m2 : W6.cell? ⟨w5.heap.size, 2, none⟩ = some (.int .i64 B.draws) := (r2.cell? 2).trans rfl
      have m3 := r2.frozen 2
      have r0 := r0.keep b6
      have B6 := Bel.to B1 b6
      have B7 : Below w.heap.size w (W6.setCell ⟨w5.heap.size, 2, none⟩ (.int .i64 (B.draws + 1))) := B6.setCell (p := ⟨w5.heap.size, 2, none⟩) B1.size _
      have r3 : Row (W6.setCell ⟨w5.heap.size, 2, none⟩ (.int .i64 (B.draws + 1))) w5.heap.size 44 [.slice la B.lines.length lc, .bool B.sys, .int .i64 (B.draws + 1), .int .i64 B.addons] := Row.set r2 2 (.int .i64 (B.draws + 1))
      have r0 : GameAt (W6.setCell ⟨w5.heap.size, 2, none⟩ (.int .i64 (B.draws + 1))) w.heap.size g (.slice aa ms.length ac) (.slice ta g.tiers.length tc) := Row.far r0 (p := ⟨w5.heap.size, 2, none⟩) (by have := Row.lt r1; simp only []; omega) _
      go_upto_region 16 with (fail)
      obtain ⟨W7, hW7⟩ : ∃ W7, W7 = W6.setCell ⟨w5.heap.size, 2, none⟩ (.int .i64 (B.draws + 1)) := ⟨_, rfl⟩
      rw [← hW7] at B7 r3 r0 ⊢
      clear hW7 m2 m3 r2 B6 b6 c2 c0
      go_wp2_with (first | (refine wpList_load_row rfl 25 _ rfl _ rfl _ _ _ _ r0 Try.underlying25 rfl (by kernel_rfl) ?_) | (refine wpList_load_row rfl 44 _ rfl _ rfl _ _ _ _ r3 Try.underlying44 rfl (by kernel_rfl) ?_) | fail)
      refine (cM.out _ B7).mono ?_
      rintro e w8 ⟨rfl, hb8⟩
      have B8 := Bel.to B7 hb8
      have q1 : ((Pv + X + Y) != (Pv + X + Y)) = false := by simp
      clear r0 r3 hb8
      go_wp2_with fail
      refine (awake16_any _).mono ?_
      rintro e w9 ⟨rfl, hb9⟩
      go_wp2
      go_ret
      exact ⟨rfl, Bel.to B8 hb9⟩
    · have hddd : decide (B.draws < g.draws) = false := decide_eq_false hdd
      go_wp2_with fail
      refine (awake16_any _).mono ?_
      rintro e w9 ⟨rfl, hb9⟩
      go_wp2
      go_ret
      exact ⟨rfl, Bel.to B1 hb9⟩

theorem prices16_any (g : GameD) (av tv : Value) (ms : List AddonM) (lv : Value) (B : BetD) (w : World) (hg : GameR w av tv ms g) (hl : LinesR w lv B.lines) :
    Calls Try.prog 6 #[gameVal g av tv, betVal lv B] w (BoolB true w) := by
  by_cases he : (betP g B).2 = 0
  · exact prices16_ok g av tv ms lv B w hg hl he
  · exact prices16_bad g av tv ms lv B w hg hl he
end Go.Proofs.Ytgmbnbdbmkdlgaa
end

section
/- lotterylaw15.count: how many numbers of a list are in another one (numbers twice count twice). Condition: at most 1000 elements each. -/
open Go.RowKit
set_option linter.unusedVariables false
set_option linter.unusedSimpArgs false
namespace Go.Proofs.Ytgmbnbdbmkdlgaa

/-- How often a number stands in a list. -/
def timesL (of : List Int) (x : Int) : Nat := (of.filter fun y => decide (y = x)).length
/-- lotterylaw15.count. -/
def cntL (l of : List Int) : Nat := (l.map (timesL of)).sum

theorem timesL_snoc (of : List Int) (y x : Int) : timesL (of ++ [y]) x = timesL of x + (if y = x then 1 else 0) := by
  unfold timesL
  rw [List.filter_append, List.length_append]
  by_cases h : y = x
  · simp [h]
  · simp [h]
theorem timesL_le (of : List Int) (x : Int) : timesL of x ≤ of.length := List.length_filter_le _ _
theorem cntL_snoc (l of : List Int) (x : Int) : cntL (l ++ [x]) of = cntL l of + timesL of x := by
  unfold cntL
  simp
theorem cntL_le (l of : List Int) : cntL l of ≤ l.length * of.length := by
  induction l with
  | nil => simp [cntL]
  | cons x t ih =>
    have h1 : cntL (x :: t) of = timesL of x + cntL t of := by simp [cntL]
    have := timesL_le of x
    rw [h1, List.length_cons, Nat.add_mul]
    omega

set_option maxHeartbeats 4000000 in
set_option maxRecDepth 100000 in
theorem cnt15_any (va vb : Value) (l of : List Int) (w : World) (ha : Rd I64 w va l) (hb : Rd I64 w vb of) (hl : l.length ≤ 1000) (ho : of.length ≤ 1000) :
    Calls Try.prog 14 #[va, vb] w (IntB (cntL l of : Int) w) := by
  obtain ⟨aa, ca, rfl, hla, hca, hra⟩ := Rd.form ha
  obtain ⟨ab, cb, rfl, hlb, hcb, hrb⟩ := Rd.form hb
  have hca' : ca ≤ 9223372036854775807 := by unfold maxLen at hca; omega
  have hcb' : cb ≤ 9223372036854775807 := by unfold maxLen at hcb; omega
  have hl2 := hide hl
  have ho2 := hide ho
  clear ha hb
  go_enter Try.func14, Try.ntmps14
  go_wp2
  go_loopg [5, 6] l.length (fun gh t u wr => ∃ (i m e : Nat), gh = l.length - i ∧ i ≤ l.length ∧ t = .int .i64 (m : Int) ∧ u = .int .i64 (i : Int) ∧ Hid (m = cntL (l.take i) of) ∧ m ≤ i * 1000 ∧ wr = w.drewN e)
  case atStart => exact ⟨0, 0, 0, rfl, Nat.zero_le _, rfl, rfl, rfl, Nat.zero_le _, rfl⟩
  case round =>
    obtain ⟨i, m, e, hgh, hi, rfl, rfl, hm, hm2, rfl⟩ := hrel
    replace hgh := hide hgh
    by_cases hlt : i < l.length
    · have hlt2 := hide hlt
      obtain ⟨ba, offa, rfl, hba, hcella⟩ := hra.at_ hlt
      obtain ⟨x, hx, c1⟩ : ∃ x, x = l[i] ∧ w.cell? ⟨ba, offa + i, none⟩ = some (.int .i64 x) := ⟨_, rfl, hcella _ hlt⟩
      replace hx := hide hx
      have i1 : (0 : Int) ≤ (i : Int) := by omega
      have i2 : (i : Int) < (l.length : Int) := by omega
      clear hcella
      go_wp2
      go_loopg [5, 7] of.length (fun gh t u wr => ∃ (j k e : Nat), gh = of.length - j ∧ j ≤ of.length ∧ t = .int .i64 (k : Int) ∧ u = .int .i64 (j : Int) ∧ Hid (k = m + timesL (of.take j) x) ∧ k ≤ m + j ∧ wr = w.drewN e)
      case atStart => exact ⟨0, m, e, rfl, Nat.zero_le _, rfl, rfl, rfl, Nat.le_refl _, rfl⟩
      case round =>
        obtain ⟨j, k, e2, hgj, hj, rfl, rfl, hk, hk2, rfl⟩ := hrel
        replace hgj := hide hgj
        have hkb : (k : Int) ≤ 2000000 := by omega
        have hk0 : (0 : Int) ≤ (k : Int) := by omega
        by_cases hjl : j < of.length
        · have hjl2 := hide hjl
          obtain ⟨bb, offb, rfl, hbb, hcellb⟩ := hrb.at_ hjl
          obtain ⟨y, hy, c2⟩ : ∃ y, y = of[j] ∧ w.cell? ⟨bb, offb + j, none⟩ = some (.int .i64 y) := ⟨_, rfl, hcellb _ hjl⟩
          have hts : timesL (of.take (j + 1)) x = timesL (of.take j) x + (if y = x then 1 else 0) := by rw [take_snoc3 of j hjl, timesL_snoc, hy]; rfl
          replace hy := hide hy
          have j1 : (0 : Int) ≤ (j : Int) := by omega
          have j2 : (j : Int) < (of.length : Int) := by omega
          clear hcellb
          by_cases hyx : y = x
          · have hd : (y == x) = true := by simpa using hyx
            rw [if_pos hyx] at hts
            replace hts := hide hts
            replace hyx := hide hyx
            go_wp2
            go_quiet (fail)
            go_wp2
            go_roundg (of.length - (j + 1))
            case measure => have := hgj.out; have := hjl2.out; omega
            case rel => exact ⟨j + 1, k + 1, _, rfl, by have := hjl2.out; omega, by go_num, by go_num, by have := hts.out; have := hk.out; show _ = _; omega, by omega, rfl⟩
          · have hd : (y == x) = false := by simpa using hyx
            rw [if_neg hyx] at hts
            replace hts := hide hts
            replace hyx := hide hyx
            go_wp2
            go_quiet (fail)
            go_wp2
            go_roundg (of.length - (j + 1))
            case measure => have := hgj.out; have := hjl2.out; omega
            case rel => exact ⟨j + 1, k, _, rfl, by have := hjl2.out; omega, by go_num, by go_num, by have := hts.out; have := hk.out; show _ = _; omega, by omega, rfl⟩
        · have hjn : j = of.length := by omega
          have hkk : Hid (k = cntL (l.take (i + 1)) of) := by
            show _ = _
            have h1 := hk.out
            rw [hjn, List.take_length] at h1
            rw [take_snoc3 l i hlt2.out, cntL_snoc, ← hm.out, h1, hx.out]
            rfl
          have hk3 : k ≤ (i + 1) * 1000 := by have := ho2.out; omega
          replace hjn := hide hjn
          have j2 : ¬ (j : Int) < (of.length : Int) := by have := hjn.out; omega
          go_wp2
          go_roundg (l.length - (i + 1))
          case measure => have := hgh.out; have := hlt2.out; omega
          case rel => exact ⟨i + 1, k, _, rfl, by have := hlt2.out; omega, by go_num, by go_num, hkk, hk3, rfl⟩
    · have hin : i = l.length := by omega
      have hmm : Hid (m = cntL l of) := by
        show _ = _
        have h1 := hm.out
        rw [hin, List.take_length] at h1
        exact h1
      replace hin := hide hin
      have j2 : ¬ (i : Int) < (l.length : Int) := by have := hin.out; omega
      go_wp2
      go_ret
      exact ⟨by rw [← hmm.out]; rfl, Bel.drN (Below.refl _ _) _⟩
end Go.Proofs.Ytgmbnbdbmkdlgaa
end

section
/- Plain: how many of a system line's lines have h of the drawn numbers. -/
set_option linter.unusedVariables false
set_option linter.unusedSimpArgs false
namespace Go.Proofs.Ytgmbnbdbmkdlgaa

def pickW (S : List Int) (w : Nat) (p : List Int) : List Int := p.map fun x => S.getD (x - (w : Int)).toNat 0
theorem pickW_one (S p : List Int) : pickW S 1 p = pickL S p := rfl

/-- All ways to take k of a list's elements, in the order of their places. -/
def combsR : List Int → Nat → List (List Int)
  | _, 0 => [[]]
  | [], _ + 1 => []
  | x :: S, k + 1 => (combsR S k).map (fun l => x :: l) ++ combsR S (k + 1)
theorem combsR_zero (S : List Int) : combsR S 0 = [[]] := by cases S <;> rfl

theorem unrankL_mem {n w r k : Nat} (hw : 1 ≤ w) (h : r < choose n k) : ∀ x ∈ unrankL n w r k, (w : Int) ≤ x := by
  intro x hx
  have h2 := check_unrankL (n := n + w - 1) (m := n) (w := w) (r := r) (j := k) (by omega) hw h ((w : Int) - 1) (by omega)
  have := (checkL_pair h2).2 x hx
  omega

theorem pickW_cons (S : List Int) (x : Int) (w : Nat) (p : List Int) (h : ∀ v ∈ p, ((w + 1 : Nat) : Int) ≤ v) : pickW (x :: S) w p = pickW S (w + 1) p := by
  unfold pickW
  apply List.map_congr_left
  intro v hv
  have := h v hv
  rw [show (v - (w : Int)).toNat = (v - ((w + 1 : Nat) : Int)).toNat + 1 by omega]
  rfl

theorem combs_list (S : List Int) (w k : Nat) (hw : 1 ≤ w) : (List.range (choose S.length k)).map (fun r => pickW S w (unrankL S.length w r k)) = combsR S k := by
  induction S generalizing w k with
  | nil =>
    cases k with
    | zero => rw [combsR_zero, choose_zero]; simp [unrankL_zero, pickW, List.range_succ]
    | succ k => rfl
  | cons x S ih =>
    cases k with
    | zero => rw [combsR_zero, choose_zero]; simp [unrankL_zero, pickW, List.range_succ]
    | succ k =>
      rw [List.length_cons, choose_succ, List.range_add, List.map_append, combsR]
      congr 1
      · rw [← ih (w + 1) k (by omega), List.map_map]
        apply List.map_congr_left
        intro r hr
        have hr := List.mem_range.1 hr
        show _ = x :: _
        rw [unrankL_succ, if_pos hr]
        have h1 := pickW_cons S x w (unrankL S.length (w + 1) r k) (unrankL_mem (by omega) hr)
        unfold pickW at h1 ⊢
        rw [List.map_cons, h1, Int.sub_self]
        rfl
      · rw [← ih (w + 1) (k + 1) (by omega), List.map_map]
        apply List.map_congr_left
        intro r hr
        have hr := List.mem_range.1 hr
        show pickW (x :: S) w (unrankL (S.length + 1) w (choose S.length k + r) (k + 1)) = _
        rw [unrankL_succ, if_neg (by omega), Nat.add_sub_cancel_left]
        exact pickW_cons S x w _ (unrankL_mem (by omega) hr)

/-- How many lines have h hits. -/
def hitN (D : List Int) (h : Nat) (ls : List (List Int)) : Nat := (ls.filter fun l => decide (cntL l D = h)).length

theorem hitN_append (D : List Int) (h : Nat) (a b : List (List Int)) : hitN D h (a ++ b) = hitN D h a + hitN D h b := by
  unfold hitN; rw [List.filter_append, List.length_append]
theorem cntL_cons (x : Int) (l D : List Int) : cntL (x :: l) D = timesL D x + cntL l D := by simp [cntL]
theorem cntL_le1 {D : List Int} (hD : ∀ x, timesL D x ≤ 1) (l : List Int) : cntL l D ≤ l.length := by
  induction l with
  | nil => simp [cntL]
  | cons x t ih => have := hD x; rw [cntL_cons, List.length_cons]; omega

theorem hitN_map0 {D : List Int} {x : Int} (hx : timesL D x = 0) (h : Nat) (ls : List (List Int)) : hitN D h (ls.map fun l => x :: l) = hitN D h ls := by
  unfold hitN
  rw [List.filter_map, List.length_map]
  congr 2
  funext l
  show decide (cntL (x :: l) D = h) = _
  rw [cntL_cons, hx, Nat.zero_add]
theorem hitN_map1 {D : List Int} {x : Int} (hx : timesL D x = 1) (h : Nat) (ls : List (List Int)) : hitN D (h + 1) (ls.map fun l => x :: l) = hitN D h ls := by
  unfold hitN
  rw [List.filter_map, List.length_map]
  congr 2
  funext l
  show decide (cntL (x :: l) D = h + 1) = _
  rw [cntL_cons, hx]
  exact decide_eq_decide.2 (by omega)
theorem hitN_map2 {D : List Int} {x : Int} (hx : timesL D x = 1) (ls : List (List Int)) : hitN D 0 (ls.map fun l => x :: l) = 0 := by
  unfold hitN
  rw [List.filter_map, List.length_map]
  rw [List.length_eq_zero_iff, List.filter_eq_nil_iff]
  intro l _
  show ¬ decide (cntL (x :: l) D = 0) = true
  rw [cntL_cons, hx]
  simp

theorem cover_law {D : List Int} (hD : ∀ x, timesL D x ≤ 1) (S : List Int) (k h : Nat) :
    hitN D h (combsR S k) = choose (cntL S D) h * (if h ≤ k then choose (S.length - cntL S D) (k - h) else 0) := by
  induction S generalizing k h with
  | nil =>
    cases k with
    | zero =>
      cases h with
      | zero => rfl
      | succ h => simp [combsR, hitN, cntL]
    | succ k =>
      rw [combsR]
      cases h with
      | zero => simp [hitN, cntL, choose]
      | succ h => simp [hitN, cntL, choose]
  | cons x S ih =>
    have hle := cntL_le1 hD S
    cases k with
    | zero =>
      rw [combsR_zero]
      cases h with
      | zero => simp [hitN, cntL, choose_zero]
      | succ h => simp [hitN, cntL]
    | succ k =>
      rw [combsR, hitN_append]
      by_cases hx : timesL D x = 0
      · rw [hitN_map0 hx, ih k h, ih (k + 1) h, cntL_cons, hx, Nat.zero_add, List.length_cons]
        by_cases h1 : h ≤ k
        · rw [if_pos h1, if_pos (by omega), if_pos (by omega), show S.length + 1 - cntL S D = (S.length - cntL S D) + 1 by omega, show k + 1 - h = (k - h) + 1 by omega, choose_succ, Nat.mul_add]
        · rw [if_neg h1, Nat.mul_zero, Nat.zero_add]
          by_cases h2 : h ≤ k + 1
          · rw [if_pos h2, if_pos h2, show k + 1 - h = 0 by omega, choose_zero, choose_zero]
          · rw [if_neg h2, if_neg h2]
      · have hx1 : timesL D x = 1 := by have := hD x; omega
        rw [cntL_cons, hx1, List.length_cons]
        cases h with
        | zero =>
          rw [hitN_map2 hx1, ih (k + 1) 0, choose_zero, choose_zero, if_pos (by omega), if_pos (by omega), Nat.zero_add, show S.length + 1 - (1 + cntL S D) = S.length - cntL S D by omega]
        | succ h =>
          rw [hitN_map1 hx1, ih k h, ih (k + 1) (h + 1), Nat.add_comm 1 (cntL S D), choose_succ, show S.length + 1 - (cntL S D + 1) = S.length - cntL S D by omega, show k + 1 - (h + 1) = k - h by omega]
          by_cases h1 : h ≤ k
          · rw [if_pos h1, if_pos (by omega), Nat.add_mul]
          · rw [if_neg h1, if_neg (by omega)]; simp

/-- The hits of the first r lines. -/
def fndL (S D : List Int) (k r : Nat) : List Int := (List.range (k + 1)).map fun h => ((hitN D h ((List.range r).map fun r => combS S k r) : Nat) : Int)
theorem fndL_len (S D : List Int) (k r : Nat) : (fndL S D k r).length = k + 1 := by unfold fndL; simp
theorem fndL_zero (S D : List Int) (k : Nat) : fndL S D k 0 = List.replicate (k + 1) 0 := by
  unfold fndL
  apply List.ext_getElem
  · simp
  · intro i h1 h2
    simp [hitN]
theorem hitN_snoc (D : List Int) (h : Nat) (ls : List (List Int)) (l : List Int) : hitN D h (ls ++ [l]) = hitN D h ls + (if cntL l D = h then 1 else 0) := by
  rw [hitN_append]
  congr 1
  unfold hitN
  by_cases hc : cntL l D = h
  · simp [hc]
  · simp [hc]
theorem fndL_at (S D : List Int) (k r h : Nat) (hh : h < (fndL S D k r).length) : (fndL S D k r)[h] = ((hitN D h ((List.range r).map fun r => combS S k r) : Nat) : Int) := by
  have h1 := fndL_len S D k r
  have h2 : (fndL S D k r)[h]? = some ((hitN D h ((List.range r).map fun r => combS S k r) : Nat) : Int) := by
    unfold fndL
    rw [List.getElem?_map, List.getElem?_range (by omega)]
    rfl
  rw [List.getElem?_eq_getElem hh] at h2
  injection h2
theorem fndL_step (S D : List Int) (k r h : Nat) (hh : h < (fndL S D k r).length) (hc : cntL (combS S k r) D = h) : (fndL S D k r).set h ((fndL S D k r)[h] + 1) = fndL S D k (r + 1) := by
  apply List.ext_getElem
  · simp [fndL_len]
  · intro i h1 h2
    have h3 := fndL_at S D k r h hh
    have h4 := fndL_at S D k r i (by rw [List.length_set] at h1; exact h1)
    have h5 := fndL_at S D k (r + 1) i h2
    rw [List.range_succ, List.map_append, List.map_singleton, hitN_snoc, hc] at h5
    rw [List.getElem_set, h5]
    by_cases e : h = i
    · subst e; rw [if_pos rfl, if_pos rfl, h3]; omega
    · rw [if_neg e, if_neg e, h4]; omega
theorem hitN_le (D : List Int) (h : Nat) (ls : List (List Int)) : hitN D h ls ≤ ls.length := List.length_filter_le _ _
theorem fndL_le (S D : List Int) (k r h : Nat) (hh : h < (fndL S D k r).length) : 0 ≤ (fndL S D k r)[h] ∧ (fndL S D k r)[h] ≤ r := by
  rw [fndL_at]
  have := hitN_le D h ((List.range r).map fun r => combS S k r)
  rw [List.length_map, List.length_range] at this
  omega
/-- All lines' hits. -/
theorem fndL_all {D : List Int} (hD : ∀ x, timesL D x ≤ 1) (S : List Int) (k : Nat) (hc : cntL S D = D.length) :
    fndL S D k (choose S.length k) = (List.range (k + 1)).map fun h => ((choose D.length h * choose (S.length - D.length) (k - h) : Nat) : Int) := by
  unfold fndL
  apply List.map_congr_left
  intro h hh
  have hh := List.mem_range.1 hh
  have h1 := combs_list S 1 k (Nat.le_refl 1)
  have h2 : ((List.range (choose S.length k)).map fun r => combS S k r) = combsR S k := h1
  rw [h2, cover_law hD, if_pos (by omega), hc]

theorem timesL_cons (a : List Int) (x y : Int) : timesL (x :: a) y = (if x = y then 1 else 0) + timesL a y := by
  unfold timesL
  rw [List.filter_cons]
  by_cases h : x = y
  · simp [h]; omega
  · simp [h]
theorem cntL_snoc2 (l D : List Int) (y : Int) : cntL l (D ++ [y]) = cntL l D + timesL l y := by
  induction l with
  | nil => simp [cntL, timesL]
  | cons x t ih =>
    rw [cntL_cons, cntL_cons, ih, timesL_snoc, timesL_cons]
    by_cases h : x = y
    · rw [if_pos h, if_pos h.symm]; omega
    · rw [if_neg h, if_neg (fun e => h e.symm)]; omega
theorem times_not {a : List Int} {y : Int} (h : y ∉ a) : timesL a y = 0 := by
  unfold timesL
  rw [List.length_eq_zero_iff, List.filter_eq_nil_iff]
  intro x hx hd
  have : x = y := by simpa using hd
  exact h (this ▸ hx)
theorem times_one {a : List Int} {y : Int} (hn : a.Nodup) (h : y ∈ a) : timesL a y = 1 := by
  induction a with
  | nil => cases h
  | cons x t ih =>
    rw [timesL_cons]
    obtain ⟨h1, h2⟩ := List.nodup_cons.1 hn
    by_cases e : x = y
    · rw [if_pos e, times_not (e ▸ h1)]
    · rw [if_neg e, ih h2 ((List.mem_cons.1 h).resolve_left (fun h => e h.symm))]
theorem times_perm {a b : List Int} (h : a.Perm b) (y : Int) : timesL a y = timesL b y := (h.filter _).length_eq
theorem cntL_perm {a b : List Int} (h : a.Perm b) (D : List Int) : cntL a D = cntL b D := by
  induction h with
  | nil => rfl
  | cons x _ ih => rw [cntL_cons, cntL_cons, ih]
  | swap x y l => rw [cntL_cons, cntL_cons, cntL_cons, cntL_cons]; omega
  | trans _ _ h1 h2 => exact h1.trans h2
theorem cntL_full {l a : List Int} (hn : a.Nodup) (h : ∀ x ∈ l, x ∈ a) : cntL l a = l.length := by
  induction l with
  | nil => rfl
  | cons x t ih =>
    rw [cntL_cons, times_one hn (h x List.mem_cons_self), ih (fun y hy => h y (List.mem_cons_of_mem x hy)), List.length_cons]
    omega
end Go.Proofs.Ytgmbnbdbmkdlgaa
end

section
/- Plain: the lines of a system line are valid lines, of its numbers, in the order of their ranks. -/
set_option linter.unusedVariables false
set_option linter.unusedSimpArgs false
namespace Go.Proofs.Ytgmbnbdbmkdlgaa

theorem getD_mem {S : List Int} {x : Int} (h1 : 1 ≤ x) (h2 : x ≤ S.length) : S.getD (x - 1).toNat 0 ∈ S := by
  rw [List.getD_eq_getElem?_getD, List.getElem?_eq_getElem (show (x - 1).toNat < S.length by omega)]
  exact List.getElem_mem _
theorem getD_lt {S : List Int} (hS : S.Pairwise (· < ·)) {x y : Int} (h1 : 1 ≤ x) (h2 : x < y) (h3 : y ≤ S.length) : S.getD (x - 1).toNat 0 < S.getD (y - 1).toNat 0 := by
  rw [List.getD_eq_getElem?_getD, List.getElem?_eq_getElem (show (x - 1).toNat < S.length by omega), List.getD_eq_getElem?_getD, List.getElem?_eq_getElem (show (y - 1).toNat < S.length by omega)]
  exact List.pairwise_iff_getElem.1 hS _ _ _ _ (by omega)

theorem comb_mem {S : List Int} {k r : Nat} (h : r < choose S.length k) : ∀ x ∈ combS S k r, x ∈ S := by
  intro x hx
  unfold combS pickL at hx
  obtain ⟨v, hv, rfl⟩ := List.mem_map.1 hx
  obtain ⟨h1, h2⟩ := places_at h v hv
  exact getD_mem h1 h2

theorem comb_sorted {S : List Int} (hS : S.Pairwise (· < ·)) {k r : Nat} (h : r < choose S.length k) : (combS S k r).Pairwise (· < ·) := by
  unfold combS pickL
  rw [List.pairwise_map]
  have hp := (checkL_pair (check_unrankL (n := S.length) (m := S.length) (w := 1) (r := r) (j := k) (by omega) (by omega) h 0 (by omega))).1
  have hm := places_at h
  rw [List.pairwise_iff_getElem] at hp ⊢
  intro i j hi hj hij
  have h1 := hp i j hi hj hij
  have h2 := hm _ (List.getElem_mem hi)
  have h3 := hm _ (List.getElem_mem hj)
  exact getD_lt hS h2.1 h1 h3.2

theorem pick_less {S : List Int} (hS : S.Pairwise (· < ·)) (p q : List Int) (hp : ∀ x ∈ p, 1 ≤ x ∧ x ≤ S.length) (hq : ∀ x ∈ q, 1 ≤ x ∧ x ≤ S.length) : lessB (pickL S p) (pickL S q) = lessB p q := by
  induction p generalizing q with
  | nil => cases q <;> rfl
  | cons x p ih =>
    cases q with
    | nil => rfl
    | cons y q =>
      have h1 := ih q (fun v hv => hp v (List.mem_cons_of_mem x hv)) (fun v hv => hq v (List.mem_cons_of_mem y hv))
      obtain ⟨a1, a2⟩ := hp x List.mem_cons_self
      obtain ⟨b1, b2⟩ := hq y List.mem_cons_self
      show lessB (S.getD (x - 1).toNat 0 :: pickL S p) (S.getD (y - 1).toNat 0 :: pickL S q) = _
      rw [lessB, lessB, h1]
      rcases Int.lt_trichotomy x y with h | h | h
      · have := getD_lt hS a1 h b2
        rw [if_neg (by omega), if_neg (by omega), decide_eq_true h, decide_eq_true this]
      · subst h; rw [if_pos rfl, if_pos rfl]
      · have := getD_lt hS b1 h a2
        rw [if_neg (by omega), if_neg (by omega), decide_eq_false (by omega), decide_eq_false (by omega)]

theorem lessB_asymm (a b : List Int) (h : lessB a b = true) : lessB b a = false := by
  induction a generalizing b with
  | nil => cases b <;> cases h
  | cons x a ih =>
    cases b with
    | nil => cases h
    | cons y b =>
      rw [lessB] at h ⊢
      by_cases e : x = y
      · subst e; rw [if_pos rfl] at h ⊢; exact ih b h
      · rw [if_neg e] at h
        have := of_decide_eq_true h
        rw [if_neg (fun e2 => e e2.symm)]
        exact decide_eq_false (by omega)

theorem rankL_mono {n : Nat} {a b : List Int} (ha : checkL n 0 a = 0) (hb : checkL n 0 b = 0) (hl : a.length = b.length) (h : lessB a b = true) : rankL n 0 a < rankL n 0 b := by
  have a1 := unrank_rankL (n := n) (last := 0) (by omega) ha
  have b1 := unrank_rankL (n := n) (last := 0) (by omega) hb
  have a2 := rankL_lt (n := n) (last := 0) (by omega) ha
  rw [Nat.sub_zero] at a1 b1 a2
  rw [Nat.zero_add] at a1 b1
  rw [← hl] at b1
  rcases Nat.lt_trichotomy (rankL n 0 a) (rankL n 0 b) with h1 | h1 | h1
  · exact h1
  · rw [h1, b1] at a1
    subst a1
    rw [lessB_asymm _ _ h] at h; cases h
  · have h2 := unrankL_less (n := n) (m := n) (w := 1) (j := a.length) (by omega) a2 h1
    rw [a1, b1, lessB_asymm _ _ h] at h2
    cases h2

theorem choose_two {n k : Nat} (h1 : 1 ≤ k) (h2 : k < n) : 2 ≤ choose n k := by
  obtain ⟨k, rfl⟩ := Nat.exists_eq_succ_of_ne_zero (show k ≠ 0 by omega)
  obtain ⟨n, rfl⟩ := Nat.exists_eq_succ_of_ne_zero (show n ≠ 0 by omega)
  rw [choose_succ]
  have := choose_pos (n := n) (k := k) (by omega)
  have := choose_pos (n := n) (k := k + 1) (by omega)
  omega

/-- The lines of a system line: valid, of its numbers, in order. -/
structure LnOk (g : GameD) (a b : List Int) (C : Nat) : Prop where
  ok : ∀ r, r < C → lineE g (combS (sortI a) g.main.toNat r) (sortI b) = 0
  less : ∀ r s, r < s → s < C → rankG g (combS (sortI a) g.main.toNat r) (sortI b) < rankG g (combS (sortI a) g.main.toNat s) (sortI b)
  pos : ∀ r, r < C → 0 ≤ rankG g (combS (sortI a) g.main.toNat r) (sortI b)
  cntA : ∀ r, r < C → (cntL (combS (sortI a) g.main.toNat r) a : Int) = g.main
  cntB : (cntL (sortI b) b : Int) = g.bonus

theorem lines_law {g : GameD} {a b : List Int} (he : gameE g = 0) (hk : g.kind = 1) (m1 : 1 ≤ g.main) (m2 : g.main < a.length) (hb : (b.length : Int) = g.bonus) (ra : allB a 1 g.of = true) (rb : allB b 1 g.bonusOf = true) (da : dupB a = false) (db : dupB b = false) :
    LnOk g a b (choose a.length g.main.toNat) := by
  have na := dupB_no.1 da
  have nb := dupB_no.1 db
  have ia := allB_iff.1 ra
  have ib := allB_iff.1 rb
  have hS := sortI_lt na
  have hSl := sortI_len a
  have ha : ∀ r, r < choose a.length g.main.toNat → ∀ x ∈ combS (sortI a) g.main.toNat r, x ∈ a := fun r hr x hx => (sortI_perm a).mem_iff.1 (comb_mem (by rw [hSl]; exact hr) x hx)
  have hlen : ∀ r, r < choose a.length g.main.toNat → (combS (sortI a) g.main.toNat r).length = g.main.toNat := fun r hr => combS_len (by rw [hSl]; exact hr)
  have hsorted : ∀ r, r < choose a.length g.main.toNat → (combS (sortI a) g.main.toNat r).Pairwise (· < ·) := fun r hr => comb_sorted hS (by rw [hSl]; exact hr)
  have hk2 : g.kind ≠ 2 := by omega
  refine ⟨fun r hr => ?_, fun r s hrs hs => ?_, fun r hr => ?_, fun r hr => ?_, ?_⟩
  · refine lineE_ok.2 ⟨he, by rw [hlen r hr]; omega, by rw [sortI_len]; exact hb, fun x hx => ?_, fun x hx => ib x ((sortI_perm b).mem_iff.1 hx), fun _ => lt_nodup (hsorted r hr), (sortI_perm b).nodup_iff.2 nb⟩
    unfold lowG highG
    rw [if_neg hk2, if_neg hk2]
    exact ia x (ha r hr x hx)
  · have hr : r < choose a.length g.main.toNat := by omega
    have e1 : ∀ r, r < choose a.length g.main.toNat → sortI (combS (sortI a) g.main.toNat r) = combS (sortI a) g.main.toNat r := fun r hr => sortI_of (lt_le (hsorted r hr))
    have hc : ∀ r, r < choose a.length g.main.toNat → checkL g.of.toNat 0 (combS (sortI a) g.main.toNat r) = 0 := fun r hr => checkL_of (hsorted r hr) (fun x hx => by have := ia x (ha r hr x hx); omega)
    have hl : lessB (combS (sortI a) g.main.toNat r) (combS (sortI a) g.main.toNat s) = true := by
      unfold combS
      rw [pick_less hS _ _ (places_at (by rw [hSl]; exact hr)) (places_at (by rw [hSl]; exact hs))]
      exact unrankL_less (n := (sortI a).length) (by omega) (by rw [hSl]; exact hs) hrs
    have hm := rankL_mono (hc r hr) (hc s hs) (by rw [hlen r hr, hlen s hs]) hl
    unfold rankG
    rw [if_neg hk2, if_neg hk2, e1 r hr, e1 s hs]
    have hbc : checkL g.bonusOf.toNat 0 (sortI (sortI b)) = 0 := by
      rw [sortI_idem]
      exact check_sortI nb (fun x hx => by have := ib x hx; omega)
    have hN : 0 < bonusN g := by
      have := rankL_lt (n := g.bonusOf.toNat) (last := 0) (by omega) hbc
      rw [sortI_idem, sortI_len, Nat.sub_zero, show b.length = g.bonus.toNat by omega] at this
      unfold bonusN
      omega
    have := Nat.mul_lt_mul_of_pos_right hm hN
    omega
  · unfold rankG
    rw [if_neg hk2]
    exact Int.natCast_nonneg _
  · rw [cntL_full na (ha r hr), hlen r hr]; omega
  · rw [cntL_full nb (fun x hx => (sortI_perm b).mem_iff.1 hx), sortI_len]; exact hb
end Go.Proofs.Ytgmbnbdbmkdlgaa
end

section
/- The walk of the statement BetValid: it returns true, whatever the game and the bet. -/
open Go.RowKit
set_option linter.unusedVariables false
set_option linter.unusedSimpArgs false
namespace Go.Proofs.Ytgmbnbdbmkdlgaa

/-- The lines that a line of a bet stands for are valid and canonical. -/
theorem lineB_valid {g : GameD} {sys : Bool} {l : LineD} (h : (sizeB g sys l).2 = 0) : ∀ x ∈ lineB g sys l, lineE g x.1 x.2 = 0 ∧ (g.kind = 1 → sortI x.1 = x.1 ∧ sortI x.2 = x.2) := by
  cases sys with
  | false =>
    intro x hx
    have hx : x ∈ [formG g l] := hx
    rw [List.mem_singleton] at hx
    subst hx
    have he : lineE g l.1 l.2 = 0 := h
    unfold formG
    by_cases hk : g.kind = 2
    · rw [if_pos hk]; exact ⟨he, fun h => by omega⟩
    · rw [if_neg hk]
      exact ⟨(lineE_perm (sortI_perm l.1) (sortI_perm l.2)).trans he, fun _ => ⟨sortI_idem _, sortI_idem _⟩⟩
  | true =>
    intro x hx
    have hx : x ∈ expL (sortI l.1) (sortI l.2) g.main.toNat := hx
    have hse := size_sys h
    obtain ⟨g1, g2, g3, g4, g5, g6, g7, g8⟩ := sysE_ok hse
    obtain ⟨f1, f2, f3, f4, f5, f6, f7, f8, f9⟩ := sys_bounds g1
    obtain ⟨ge, gk⟩ := gameS_ok g1
    have hlaw := lines_law ge gk f1 (by omega) g4 g5 g6 g7 g8
    unfold expL at hx
    obtain ⟨r, hr, rfl⟩ := List.mem_map.1 hx
    have hr := List.mem_range.1 hr
    refine ⟨hlaw.ok r (by rw [sortI_len] at hr; exact hr), fun _ => ⟨sortI_of (lt_le (comb_sorted (sortI_lt (dupB_no.1 g7)) hr)), sortI_idem _⟩⟩
theorem linesB_valid {g : GameD} {B : BetD} (h : (betP g B).2 = 0) : ∀ x ∈ linesB g B, lineE g x.1 x.2 = 0 ∧ (g.kind = 1 → sortI x.1 = x.1 ∧ sortI x.2 = x.2) := by
  obtain ⟨p1, p2, p3, p4, p5, p6, p7, p8, p9, p10⟩ := betP_ok h
  intro x hx
  obtain ⟨l, hl, hx⟩ := List.mem_flatMap.1 hx
  exact lineB_valid (p10 l hl) x hx

set_option maxHeartbeats 4000000 in
set_option maxRecDepth 100000 in
theorem valid16_bad (g : GameD) (av tv : Value) (ms : List AddonM) (lv : Value) (B : BetD) (w : World) (hg : GameR w av tv ms g) (hl : LinesR w lv B.lines) (he : (betP g B).2 ≠ 0) :
    Calls Try.prog 7 #[gameVal g av tv, betVal lv B] w (BoolB true w) := by
  have cF := hide (fun X (hX : Below w.heap.size w X) => few16_any lv B X (hl.below hX))
  have cL := hide (fun X (hX : Below w.heap.size w X) => blines_bad g av tv lv ms B X (hg.below hX) (hl.below hX) he)
  obtain ⟨c, hc⟩ : ∃ c, c = (betP g B).2 := ⟨_, rfl⟩
  rw [← hc] at cL he
  have hcb : (c != 0) = true := by simpa using he
  obtain ⟨aa, ac, rfl, hal, ham⟩ := hg.1.1.shape
  obtain ⟨ta, tc, rfl, htl, htm⟩ := hg.2.2.shape
  obtain ⟨la, lc, rfl, hlc, hlm⟩ := hl.shape
  clear hg hl hc
  replace he := hide he
  unfold gameVal betVal at cL
  unfold betVal at cF
  unfold gameVal betVal
  go_enter Try.func7, Try.ntmps7
  go_upto_region 1 with (fail)
  obtain ⟨W, hW⟩ : ∃ W, W = ((w.alloc (Obj.cells #[.string g.name, .int .i64 g.kind, .int .i64 g.price, .int .i64 g.main, .int .i64 g.of, .int .i64 g.bonus, .int .i64 g.bonusOf, .int .i64 g.extra, .int .i64 g.draws, .int .i64 g.system, .int .i64 g.days, .int .i64 g.at_, .int .i64 g.close, .int .i64 g.cancel, .int .i64 g.expiry, .int .i64 g.pool, .int .i64 g.reserve, .int .i64 g.round, .int .i64 g.cap, .int .i64 g.rolls, (.slice aa ms.length ac), (.slice ta g.tiers.length tc)] 25)).alloc (Obj.cells #[(.slice la B.lines.length lc), .bool B.sys, .int .i64 B.draws, .int .i64 B.addons] 44)) := ⟨_, rfl⟩
  have bW : Below w.heap.size w W := by rw [hW]; exact Bel.al (Bel.al (Below.refl _ _) _) _
  have r0 : GameAt W (w.heap.size) g ((.slice aa ms.length ac)) ((.slice ta g.tiers.length tc)) := by rw [hW]; exact Row.alloc (Row.new _ _ _) _
  have r1 : Row W ((w.heap.size + 1)) 44 [(.slice la B.lines.length lc), .bool B.sys, .int .i64 B.draws, .int .i64 B.addons] := by rw [hW]; exact Row.at2 _ _ _ _
  have sW : w.heap.size + 1 < W.heap.size := by rw [hW]; simp
  rw [← hW]
  clear hW
  go_wp2_with (first | (refine wpList_load_row rfl 44 _ rfl _ rfl _ _ _ _ r1 Try.underlying44 rfl (by kernel_rfl) ?_) | fail)
  refine (cF.out _ bW).mono ?_
  rintro e w1 ⟨q, rfl, hb1⟩
  have B1 := Bel.to bW hb1
  have r0 := r0.keep hb1
  have r1 := Row.keep r1 hb1
  clear hb1 bW
  cases q with
  | false =>
    go_wp2_with fail
    refine (awake16_any _).mono ?_
    rintro e w9 ⟨rfl, hb9⟩
    go_wp2
    go_ret
    exact ⟨rfl, Bel.to B1 hb9⟩
  | true =>
    go_wp2_with (first | (refine wpList_load_row rfl 25 _ rfl _ rfl _ _ _ _ r0 Try.underlying25 rfl (by kernel_rfl) ?_) | (refine wpList_load_row rfl 44 _ rfl _ rfl _ _ _ _ r1 Try.underlying44 rfl (by kernel_rfl) ?_) | fail)
    refine (cL.out _ B1).mono ?_
    rintro e w2 ⟨u, rfl, hu, hb⟩
    obtain ⟨ua, uc, rfl⟩ := hu.shape
    have hu := hu.rd
    replace B1 := Bel.to B1 hb
    replace r0 := r0.keep hb
    clear hb r1
    clear hu r0
    go_wp2_with fail
    refine (awake16_any _).mono ?_
    rintro e w9 ⟨rfl, hb9⟩
    go_wp2
    go_ret
    exact ⟨rfl, Bel.to B1 hb9⟩

set_option maxHeartbeats 8000000 in
set_option maxRecDepth 100000 in
theorem valid16_ok (g : GameD) (av tv : Value) (ms : List AddonM) (lv : Value) (B : BetD) (w : World) (hg : GameR w av tv ms g) (hl : LinesR w lv B.lines) (he : (betP g B).2 = 0) :
    Calls Try.prog 7 #[gameVal g av tv, betVal lv B] w (BoolB true w) := by
  have cF := hide (fun X (hX : Below w.heap.size w X) => few16_any lv B X (hl.below hX))
  have cL := hide (fun X (hX : Below w.heap.size w X) => blines_ok g av tv lv ms B X (hg.below hX) (hl.below hX) he)
  have cQ := hide (fun X mv bv a b (hX : Below w.heap.size w X) (hl : LineR X mv bv a b) => mlcheck_any g av tv mv bv ms a b X (hg.below hX) hl)
  obtain ⟨p1, p2, p3, p4, p5, p6, p7, p8, p9, p10⟩ := betP_ok he
  have hge : B.lines.length ≤ (linesB g B).length := flat_ge p10
  have hval := hide (linesB_valid he)
  obtain ⟨T, hT⟩ : ∃ T, T = linesB g B := ⟨_, rfl⟩
  rw [← hT] at cL hge hval p5
  obtain ⟨N, hN⟩ : ∃ N, N = T.length := ⟨_, rfl⟩
  rw [← hN] at hge p5
  have n1 : (1 : Int) ≤ (N : Int) := by omega
  have n2 : (N : Int) ≤ 1024 := by omega
  have n3 : decide ((1 : Int) ≤ (N : Int)) = true := decide_eq_true n1
  have n4 : decide ((N : Int) ≤ 1024) = true := decide_eq_true n2
  have p1h := hide p1
  obtain ⟨aa, ac, rfl, hal, ham⟩ := hg.1.1.shape
  obtain ⟨ta, tc, rfl, htl, htm⟩ := hg.2.2.shape
  obtain ⟨la, lc, rfl, hlc, hlm⟩ := hl.shape
  replace hN := hide hN
  clear hg hl he p1 p2 p3 p4 p6 p7 p8 p9 p10 hT hge
  unfold gameVal betVal at cL
  unfold betVal at cF
  unfold gameVal betVal
  go_enter Try.func7, Try.ntmps7
  go_upto_region 1 with (fail)
  obtain ⟨W, hW⟩ : ∃ W, W = ((w.alloc (Obj.cells #[.string g.name, .int .i64 g.kind, .int .i64 g.price, .int .i64 g.main, .int .i64 g.of, .int .i64 g.bonus, .int .i64 g.bonusOf, .int .i64 g.extra, .int .i64 g.draws, .int .i64 g.system, .int .i64 g.days, .int .i64 g.at_, .int .i64 g.close, .int .i64 g.cancel, .int .i64 g.expiry, .int .i64 g.pool, .int .i64 g.reserve, .int .i64 g.round, .int .i64 g.cap, .int .i64 g.rolls, (.slice aa ms.length ac), (.slice ta g.tiers.length tc)] 25)).alloc (Obj.cells #[(.slice la B.lines.length lc), .bool B.sys, .int .i64 B.draws, .int .i64 B.addons] 44)) := ⟨_, rfl⟩
  have bW : Below w.heap.size w W := by rw [hW]; exact Bel.al (Bel.al (Below.refl _ _) _) _
  have r0 : GameAt W (w.heap.size) g ((.slice aa ms.length ac)) ((.slice ta g.tiers.length tc)) := by rw [hW]; exact Row.alloc (Row.new _ _ _) _
  have r1 : Row W ((w.heap.size + 1)) 44 [(.slice la B.lines.length lc), .bool B.sys, .int .i64 B.draws, .int .i64 B.addons] := by rw [hW]; exact Row.at2 _ _ _ _
  have sW : w.heap.size + 1 < W.heap.size := by rw [hW]; simp
  rw [← hW]
  clear hW
  go_wp2_with (first | (refine wpList_load_row rfl 44 _ rfl _ rfl _ _ _ _ r1 Try.underlying44 rfl (by kernel_rfl) ?_) | fail)
  refine (cF.out _ bW).mono ?_
  rintro e w1 ⟨q, rfl, hb1⟩
  have B1 := Bel.to bW hb1
  have r0 := r0.keep hb1
  have r1 := Row.keep r1 hb1
  clear hb1 bW
  cases q with
  | false =>
    go_wp2_with fail
    refine (awake16_any _).mono ?_
    rintro e w9 ⟨rfl, hb9⟩
    go_wp2
    go_ret
    exact ⟨rfl, Bel.to B1 hb9⟩
  | true =>
    go_wp2_with (first | (refine wpList_load_row rfl 25 _ rfl _ rfl _ _ _ _ r0 Try.underlying25 rfl (by kernel_rfl) ?_) | (refine wpList_load_row rfl 44 _ rfl _ rfl _ _ _ _ r1 Try.underlying44 rfl (by kernel_rfl) ?_) | fail)
    refine (cL.out _ B1).mono ?_
    rintro e w2 ⟨u, rfl, hu, hb⟩
    obtain ⟨ua, uc, rfl⟩ := hu.shape
    have hu := hu.rd
    replace B1 := Bel.to B1 hb
    replace r0 := r0.keep hb
    clear hb r1
    rw [← hN.out] at hu ⊢
    have hu := hide hu
    clear cL cF
    go_wp2
    go_loopg [7] N (fun gh t wr => ∃ (r : Nat), gh = N - r ∧ r ≤ N ∧ t = .int .i64 (r : Int) ∧ Below w2.heap.size w2 wr)
    case atStart => exact ⟨0, rfl, Nat.zero_le _, rfl, Below.refl _ _⟩
    case round =>
      obtain ⟨r, hgh, hr, rfl, hB⟩ := hrel
      replace hgh := hide hgh
      by_cases hlt : r < N
      · have hlt2 := hide hlt
        have hlk : r < T.length := by rw [← hN.out]; exact hlt
        obtain ⟨b1, off1, p, q', rfl, hbb, x1, y1, hl⟩ := (hu.out.below hB).at_ hlk
        obtain ⟨hle, hcn⟩ := hval.out T[r] (List.getElem_mem hlk)
        obtain ⟨x, hx⟩ : ∃ x, x = T[r] := ⟨_, rfl⟩
        rw [← hx] at hl hle hcn
        clear hx
        obtain ⟨p1, p2, p3, rfl⟩ := Rd.shape hl.1
        obtain ⟨q1, q2, q3, rfl⟩ := Rd.shape hl.2
        have hlok := lineE_ok.1 hle
        have hf := mat_facts (game_mat p1h.out)
        have ha10 : x.1.length ≤ 1000 := by have := hlok.2.1; omega
        have hb10 : x.2.length ≤ 1000 := by have := hlok.2.2.1; omega
        clear hlok hf
        have g2 : wr.rangeAt b1 (off1 + r * 2) [.slice p1 p2 p3, .slice q1 q2 q3] := by
          intro j v hv
          match j, hv with
          | 0, hv => simp at hv; subst hv; exact x1
          | 1, hv => simp at hv; subst hv; exact y1
        have BW := Bel.to B1 hB
        have cK := cQ.out wr.drew _ _ _ _ (Bel.to BW (Below.drewSelf _)) (hl.below (Below.drewSelf _))
        rw [hle] at cK
        replace cK := hide cK
        unfold lineVal gameVal at cK
        have r03 := (r0.keep hB)
        have j1 : (0 : Int) ≤ (r : Int) := by omega
        have j2 : (r : Int) < (N : Int) := by omega
        replace hle := hide hle
        clear x1 y1
        by_cases hk1 : g.kind = 1
        · have hkb : (g.kind == 1) = true := by simpa using hk1
          obtain ⟨s1, s2⟩ := hcn hk1
          have hcan : ∀ X, Below wr.heap.size wr X → Calls Try.prog 27 #[.agg #[.slice p1 p2 p3, .slice q1 q2 q3]] X (LineB x.1 x.2 X) := by
            intro X hX
            have h9 := mcanon_any _ _ _ _ X (hl.below hX) ha10 hb10
            rw [s1, s2] at h9
            exact h9
          have hcan := hcan
          replace hk1 := hide hk1
          clear s1 s2 hcn
          go_upto_region 9 with (fail)
          refine wp_region_held_drew (S := fun X => Rng X [(w.heap.size, gameCells g (.slice aa ms.length ac) (.slice ta g.tiers.length tc))] ∧ X.rangeAt b1 (off1 + r * 2) [.slice p1 p2 p3, .slice q1 q2 q3]) (by kernel_rfl) (⟨Rng.cons r03 (Rng.nil _), g2⟩) (fun hHeld => ?_)
          refine' wpAnyH_take (i := 0) (oi := _) (v := _) rfl (by kernel_rfl) (by kernel_rfl) (by kernel_rfl) (fun _ _ _ h => h) (yieldsIf_load_mid (by first | (go_simp; done) | rfl) 25 _ rfl _ _ rfl (gameCells g (.slice aa ms.length ac) (.slice ta g.tiers.length tc)) _ (fun X h => h.1.at0) Try.underlying25 rfl (by kernel_rfl)) hHeld ?_
          try simp only [Act.put, List.setIfInBounds_toArray, List.set_cons_zero, List.set_cons_succ]
          refine' wpAnyH_take (i := 1) (oi := _) (v := .slice (some ⟨b1, off1, none⟩) N uc) rfl (by kernel_rfl) (by kernel_rfl) (by kernel_rfl) (fun _ _ _ h => h) (Or.inl ⟨by first | (go_simp; done) | rfl, fun X _ => by go_simp⟩) hHeld ?_
          try simp only [Act.put, List.setIfInBounds_toArray, List.set_cons_zero, List.set_cons_succ]
          refine' wpAnyH_take (i := 2) (oi := _) (v := .int .i64 (r : Int)) rfl (by kernel_rfl) (by kernel_rfl) (by kernel_rfl) (fun _ _ _ h => h) (Or.inl ⟨by first | (go_simp; done) | rfl, fun X _ => by go_simp⟩) hHeld ?_
          try simp only [Act.put, List.setIfInBounds_toArray, List.set_cons_zero, List.set_cons_succ]
          refine' wpAnyH_take (i := 3) (oi := _) (v := .pointer (some ⟨b1, off1 + r * 2, none⟩)) rfl (by kernel_rfl) (by kernel_rfl) (by kernel_rfl) (fun _ _ _ h => h) (Or.inl ⟨by first | (go_simp; done) | rfl, fun X _ => by go_simp⟩) hHeld ?_
          try simp only [Act.put, List.setIfInBounds_toArray, List.set_cons_zero, List.set_cons_succ]
          refine' wpAnyH_take (i := 4) (oi := _) (v := .agg #[.slice p1 p2 p3, .slice q1 q2 q3]) rfl (by kernel_rfl) (by kernel_rfl) (by kernel_rfl) (fun _ _ _ h => h) (by refine (yieldsIf_load_mid ?_ 28 (.tmp 30) rfl b1 (off1 + r * 2) ?_ ([.slice p1 p2 p3, .slice q1 q2 q3]) _ (fun X h => h.2) Try.underlying28 rfl (by kernel_rfl)) <;> go_simp) hHeld ?_
          try simp only [Act.put, List.setIfInBounds_toArray, List.set_cons_zero, List.set_cons_succ]
          refine wpAnyH_ready (rs := [5]) (by kernel_rfl) (by simp) ?_
          refine AllReadyH.cons (o := _) rfl (fun K hK => ?_) AllReadyH.nil
          go_simp
          refine (cK.out).mono ?_
          rintro e w3 ⟨rfl, hb3⟩
          go_wp2_with fail
          refine hK.out _ _ (⟨hHeld.1.keep hb3, rangeAt_keep15 hHeld.2 hb3⟩) (fun hHeld => ?_)
          clear hK K
          try simp only [Act.put, List.setIfInBounds_toArray, List.set_cons_zero, List.set_cons_succ]
          refine' wpAnyH_take (i := 6) (oi := _) (v := .bool false) rfl (by kernel_rfl) (by kernel_rfl) (by kernel_rfl) (fun _ _ _ h => h) (Or.inl ⟨by first | (go_simp; done) | rfl, fun X _ => by go_simp⟩) hHeld ?_
          try simp only [Act.put, List.setIfInBounds_toArray, List.set_cons_zero, List.set_cons_succ]
          refine' wpAnyH_take (i := 7) (oi := _) (v := .bool false) rfl (by kernel_rfl) (by kernel_rfl) (by kernel_rfl) (fun _ _ _ h => h) (Or.inl ⟨by first | (go_simp; done) | rfl, fun X _ => by go_simp⟩) hHeld ?_
          try simp only [Act.put, List.setIfInBounds_toArray, List.set_cons_zero, List.set_cons_succ]
          refine' wpAnyH_take (i := 8) (oi := _) (v := .pointer (some ⟨w.heap.size, 1, none⟩)) rfl (by kernel_rfl) (by kernel_rfl) (by kernel_rfl) (fun _ _ _ h => h) (Or.inl ⟨by first | (go_simp; done) | rfl, fun X _ => by go_simp⟩) hHeld ?_
          try simp only [Act.put, List.setIfInBounds_toArray, List.set_cons_zero, List.set_cons_succ]
          refine' wpAnyH_take (i := 9) (oi := _) (v := .int .i64 g.kind) rfl (by kernel_rfl) (by kernel_rfl) (by kernel_rfl) (fun _ _ _ h => h) (Or.inl ⟨by first | (go_simp; done) | rfl, fun X hX => by have cX := hX.1.cell0 1 _ rfl; go_simp⟩) hHeld ?_
          try simp only [Act.put, List.setIfInBounds_toArray, List.set_cons_zero, List.set_cons_succ]
          refine' wpAnyH_take (i := 10) (oi := _) (v := .bool true) rfl (by kernel_rfl) (by kernel_rfl) (by kernel_rfl) (fun _ _ _ h => h) (Or.inl ⟨by first | (go_simp; done) | rfl, fun X _ => by go_simp⟩) hHeld ?_
          try simp only [Act.put, List.setIfInBounds_toArray, List.set_cons_zero, List.set_cons_succ]
          refine' wpAnyH_take (i := 11) (oi := _) (v := .bool true) rfl (by kernel_rfl) (by kernel_rfl) (by kernel_rfl) (fun _ _ _ h => h) (Or.inl ⟨by first | (go_simp; done) | rfl, fun X _ => by go_simp⟩) hHeld ?_
          try simp only [Act.put, List.setIfInBounds_toArray, List.set_cons_zero, List.set_cons_succ]
          refine' wpAnyH_take (i := 12) (oi := _) (v := .slice (some ⟨b1, off1, none⟩) N uc) rfl (by kernel_rfl) (by kernel_rfl) (by kernel_rfl) (fun _ _ _ h => h) (Or.inl ⟨by first | (go_simp; done) | rfl, fun X _ => by go_simp⟩) hHeld ?_
          try simp only [Act.put, List.setIfInBounds_toArray, List.set_cons_zero, List.set_cons_succ]
          refine' wpAnyH_take (i := 13) (oi := _) (v := .int .i64 (r : Int)) rfl (by kernel_rfl) (by kernel_rfl) (by kernel_rfl) (fun _ _ _ h => h) (Or.inl ⟨by first | (go_simp; done) | rfl, fun X _ => by go_simp⟩) hHeld ?_
          try simp only [Act.put, List.setIfInBounds_toArray, List.set_cons_zero, List.set_cons_succ]
          refine' wpAnyH_take (i := 14) (oi := _) (v := .pointer (some ⟨b1, off1 + r * 2, none⟩)) rfl (by kernel_rfl) (by kernel_rfl) (by kernel_rfl) (fun _ _ _ h => h) (Or.inl ⟨by first | (go_simp; done) | rfl, fun X _ => by go_simp⟩) hHeld ?_
          try simp only [Act.put, List.setIfInBounds_toArray, List.set_cons_zero, List.set_cons_succ]
          refine' wpAnyH_take (i := 15) (oi := _) (v := .agg #[.slice p1 p2 p3, .slice q1 q2 q3]) rfl (by kernel_rfl) (by kernel_rfl) (by kernel_rfl) (fun _ _ _ h => h) (by refine (yieldsIf_load_mid ?_ 28 (.tmp 41) rfl b1 (off1 + r * 2) ?_ ([.slice p1 p2 p3, .slice q1 q2 q3]) _ (fun X h => h.2) Try.underlying28 rfl (by kernel_rfl)) <;> go_simp) hHeld ?_
          try simp only [Act.put, List.setIfInBounds_toArray, List.set_cons_zero, List.set_cons_succ]
          refine' wpAnyH_take (i := 17) (oi := _) (v := .slice (some ⟨b1, off1, none⟩) N uc) rfl (by kernel_rfl) (by kernel_rfl) (by kernel_rfl) (fun _ _ _ h => h) (Or.inl ⟨by first | (go_simp; done) | rfl, fun X _ => by go_simp⟩) hHeld ?_
          try simp only [Act.put, List.setIfInBounds_toArray, List.set_cons_zero, List.set_cons_succ]
          refine' wpAnyH_take (i := 18) (oi := _) (v := .int .i64 (r : Int)) rfl (by kernel_rfl) (by kernel_rfl) (by kernel_rfl) (fun _ _ _ h => h) (Or.inl ⟨by first | (go_simp; done) | rfl, fun X _ => by go_simp⟩) hHeld ?_
          try simp only [Act.put, List.setIfInBounds_toArray, List.set_cons_zero, List.set_cons_succ]
          refine' wpAnyH_take (i := 19) (oi := _) (v := .pointer (some ⟨b1, off1 + r * 2, none⟩)) rfl (by kernel_rfl) (by kernel_rfl) (by kernel_rfl) (fun _ _ _ h => h) (Or.inl ⟨by first | (go_simp; done) | rfl, fun X _ => by go_simp⟩) hHeld ?_
          try simp only [Act.put, List.setIfInBounds_toArray, List.set_cons_zero, List.set_cons_succ]
          refine' wpAnyH_take (i := 20) (oi := _) (v := .agg #[.slice p1 p2 p3, .slice q1 q2 q3]) rfl (by kernel_rfl) (by kernel_rfl) (by kernel_rfl) (fun _ _ _ h => h) (by refine (yieldsIf_load_mid ?_ 28 (.tmp 46) rfl b1 (off1 + r * 2) ?_ ([.slice p1 p2 p3, .slice q1 q2 q3]) _ (fun X h => h.2) Try.underlying28 rfl (by kernel_rfl)) <;> go_simp) hHeld ?_
          try simp only [Act.put, List.setIfInBounds_toArray, List.set_cons_zero, List.set_cons_succ]
          have cC := hide (hcan w3 (Bel.to (Below.drewSelf wr) hb3))
          refine wpAnyH_ready (rs := [16]) (by kernel_rfl) (by simp) ?_
          refine AllReadyH.cons (o := _) rfl (fun K hK => ?_) AllReadyH.nil
          go_simp
          refine (cC.out).mono ?_
          rintro e w5 ⟨u, v, rfl, hlr5, hb5⟩
          obtain ⟨u1, u2, u3, rfl⟩ := Rd.shape hlr5.1
          obtain ⟨v1, v2, v3, rfl⟩ := Rd.shape hlr5.2
          have cS := hide (same16_self _ _ _ _ _ _ w5 hlr5 (hl.below (Bel.to (Bel.to (Below.drewSelf wr) hb3) hb5)))
          unfold lineVal at cS
          unfold lineVal
          go_wp2_with fail
          refine hK.out _ _ (⟨hHeld.1.keep hb5, rangeAt_keep15 hHeld.2 hb5⟩) (fun hHeld => ?_)
          clear hK K
          try simp only [Act.put, List.setIfInBounds_toArray, List.set_cons_zero, List.set_cons_succ]
          refine wpAnyH_ready (rs := [21]) (by kernel_rfl) (by simp) ?_
          refine AllReadyH.cons (o := _) rfl (fun K hK => ?_) AllReadyH.nil
          go_simp
          refine (cS.out).mono ?_
          rintro e w6 ⟨rfl, hb6⟩
          go_wp2_with fail
          refine hK.out _ _ (⟨hHeld.1.keep hb6, rangeAt_keep15 hHeld.2 hb6⟩) (fun hHeld => ?_)
          clear hK K
          try simp only [Act.put, List.setIfInBounds_toArray, List.set_cons_zero, List.set_cons_succ]
          refine' wpAnyH_take (i := 22) (oi := _) (v := .bool false) rfl (by kernel_rfl) (by kernel_rfl) (by kernel_rfl) (fun _ _ _ h => h) (Or.inl ⟨by first | (go_simp; done) | rfl, fun X _ => by go_simp⟩) hHeld ?_
          try simp only [Act.put, List.setIfInBounds_toArray, List.set_cons_zero, List.set_cons_succ]
          refine' wpAnyH_take (i := 23) (oi := _) (v := .bool false) rfl (by kernel_rfl) (by kernel_rfl) (by kernel_rfl) (fun _ _ _ h => h) (Or.inl ⟨by first | (go_simp; done) | rfl, fun X _ => by go_simp⟩) hHeld ?_
          try simp only [Act.put, List.setIfInBounds_toArray, List.set_cons_zero, List.set_cons_succ]
          refine' wpAnyH_take (i := 24) (oi := _) (v := .bool false) rfl (by kernel_rfl) (by kernel_rfl) (by kernel_rfl) (fun _ _ _ h => h) (Or.inl ⟨by first | (go_simp; done) | rfl, fun X _ => by go_simp⟩) hHeld ?_
          try simp only [Act.put, List.setIfInBounds_toArray, List.set_cons_zero, List.set_cons_succ]
          refine wpAnyH_done (by kernel_rfl) ?_ _
          go_simp
          have B6 := Bel.to hB (Bel.to (Bel.to (Bel.to (Below.drewSelf wr) hb3) hb5) hb6)
          clear hHeld cS cC hlr5 hb3 hb5 hb6 g2 hB cK hcan
          go_wp2
          go_roundg (N - (r + 1))
          case measure => have := hgh.out; have := hlt2.out; omega
          case rel => exact ⟨r + 1, rfl, by have := hlt2.out; omega, by go_num, B6⟩
        · have hkb : (g.kind == 1) = false := by simpa using hk1
          replace hk1 := hide hk1
          go_upto_region 9 with (fail)
          refine wp_region_held_drew (S := fun X => Rng X [(w.heap.size, gameCells g (.slice aa ms.length ac) (.slice ta g.tiers.length tc))] ∧ X.rangeAt b1 (off1 + r * 2) [.slice p1 p2 p3, .slice q1 q2 q3]) (by kernel_rfl) (⟨Rng.cons r03 (Rng.nil _), g2⟩) (fun hHeld => ?_)
          refine' wpAnyH_take (i := 0) (oi := _) (v := _) rfl (by kernel_rfl) (by kernel_rfl) (by kernel_rfl) (fun _ _ _ h => h) (yieldsIf_load_mid (by first | (go_simp; done) | rfl) 25 _ rfl _ _ rfl (gameCells g (.slice aa ms.length ac) (.slice ta g.tiers.length tc)) _ (fun X h => h.1.at0) Try.underlying25 rfl (by kernel_rfl)) hHeld ?_
          try simp only [Act.put, List.setIfInBounds_toArray, List.set_cons_zero, List.set_cons_succ]
          refine' wpAnyH_take (i := 1) (oi := _) (v := .slice (some ⟨b1, off1, none⟩) N uc) rfl (by kernel_rfl) (by kernel_rfl) (by kernel_rfl) (fun _ _ _ h => h) (Or.inl ⟨by first | (go_simp; done) | rfl, fun X _ => by go_simp⟩) hHeld ?_
          try simp only [Act.put, List.setIfInBounds_toArray, List.set_cons_zero, List.set_cons_succ]
          refine' wpAnyH_take (i := 2) (oi := _) (v := .int .i64 (r : Int)) rfl (by kernel_rfl) (by kernel_rfl) (by kernel_rfl) (fun _ _ _ h => h) (Or.inl ⟨by first | (go_simp; done) | rfl, fun X _ => by go_simp⟩) hHeld ?_
          try simp only [Act.put, List.setIfInBounds_toArray, List.set_cons_zero, List.set_cons_succ]
          refine' wpAnyH_take (i := 3) (oi := _) (v := .pointer (some ⟨b1, off1 + r * 2, none⟩)) rfl (by kernel_rfl) (by kernel_rfl) (by kernel_rfl) (fun _ _ _ h => h) (Or.inl ⟨by first | (go_simp; done) | rfl, fun X _ => by go_simp⟩) hHeld ?_
          try simp only [Act.put, List.setIfInBounds_toArray, List.set_cons_zero, List.set_cons_succ]
          refine' wpAnyH_take (i := 4) (oi := _) (v := .agg #[.slice p1 p2 p3, .slice q1 q2 q3]) rfl (by kernel_rfl) (by kernel_rfl) (by kernel_rfl) (fun _ _ _ h => h) (by refine (yieldsIf_load_mid ?_ 28 (.tmp 30) rfl b1 (off1 + r * 2) ?_ ([.slice p1 p2 p3, .slice q1 q2 q3]) _ (fun X h => h.2) Try.underlying28 rfl (by kernel_rfl)) <;> go_simp) hHeld ?_
          try simp only [Act.put, List.setIfInBounds_toArray, List.set_cons_zero, List.set_cons_succ]
          refine wpAnyH_ready (rs := [5]) (by kernel_rfl) (by simp) ?_
          refine AllReadyH.cons (o := _) rfl (fun K hK => ?_) AllReadyH.nil
          go_simp
          refine (cK.out).mono ?_
          rintro e w3 ⟨rfl, hb3⟩
          go_wp2_with fail
          refine hK.out _ _ (⟨hHeld.1.keep hb3, rangeAt_keep15 hHeld.2 hb3⟩) (fun hHeld => ?_)
          clear hK K
          try simp only [Act.put, List.setIfInBounds_toArray, List.set_cons_zero, List.set_cons_succ]
          refine' wpAnyH_take (i := 6) (oi := _) (v := .bool false) rfl (by kernel_rfl) (by kernel_rfl) (by kernel_rfl) (fun _ _ _ h => h) (Or.inl ⟨by first | (go_simp; done) | rfl, fun X _ => by go_simp⟩) hHeld ?_
          try simp only [Act.put, List.setIfInBounds_toArray, List.set_cons_zero, List.set_cons_succ]
          refine' wpAnyH_take (i := 7) (oi := _) (v := .bool false) rfl (by kernel_rfl) (by kernel_rfl) (by kernel_rfl) (fun _ _ _ h => h) (Or.inl ⟨by first | (go_simp; done) | rfl, fun X _ => by go_simp⟩) hHeld ?_
          try simp only [Act.put, List.setIfInBounds_toArray, List.set_cons_zero, List.set_cons_succ]
          refine' wpAnyH_take (i := 8) (oi := _) (v := .pointer (some ⟨w.heap.size, 1, none⟩)) rfl (by kernel_rfl) (by kernel_rfl) (by kernel_rfl) (fun _ _ _ h => h) (Or.inl ⟨by first | (go_simp; done) | rfl, fun X _ => by go_simp⟩) hHeld ?_
          try simp only [Act.put, List.setIfInBounds_toArray, List.set_cons_zero, List.set_cons_succ]
          refine' wpAnyH_take (i := 9) (oi := _) (v := .int .i64 g.kind) rfl (by kernel_rfl) (by kernel_rfl) (by kernel_rfl) (fun _ _ _ h => h) (Or.inl ⟨by first | (go_simp; done) | rfl, fun X hX => by have cX := hX.1.cell0 1 _ rfl; go_simp⟩) hHeld ?_
          try simp only [Act.put, List.setIfInBounds_toArray, List.set_cons_zero, List.set_cons_succ]
          refine' wpAnyH_take (i := 10) (oi := _) (v := .bool false) rfl (by kernel_rfl) (by kernel_rfl) (by kernel_rfl) (fun _ _ _ h => h) (Or.inl ⟨by first | (go_simp; done) | rfl, fun X _ => by go_simp⟩) hHeld ?_
          try simp only [Act.put, List.setIfInBounds_toArray, List.set_cons_zero, List.set_cons_succ]
          refine' wpAnyH_take (i := 11) (oi := _) (v := .bool false) rfl (by kernel_rfl) (by kernel_rfl) (by kernel_rfl) (fun _ _ _ h => h) (Or.inl ⟨by first | (go_simp; done) | rfl, fun X _ => by go_simp⟩) hHeld ?_
          try simp only [Act.put, List.setIfInBounds_toArray, List.set_cons_zero, List.set_cons_succ]
          refine' wpAnyH_take (i := 12) (oi := _) (v := undef) rfl (by kernel_rfl) (by kernel_rfl) (by kernel_rfl) (fun _ _ _ h => h) (Or.inr ⟨by first | (go_simp; done) | rfl, rfl⟩) hHeld ?_
          try simp only [Act.put, List.setIfInBounds_toArray, List.set_cons_zero, List.set_cons_succ]
          refine' wpAnyH_take (i := 13) (oi := _) (v := undef) rfl (by kernel_rfl) (by kernel_rfl) (by kernel_rfl) (fun _ _ _ h => h) (Or.inr ⟨by first | (go_simp; done) | rfl, rfl⟩) hHeld ?_
          try simp only [Act.put, List.setIfInBounds_toArray, List.set_cons_zero, List.set_cons_succ]
          refine' wpAnyH_take (i := 14) (oi := _) (v := undef) rfl (by kernel_rfl) (by kernel_rfl) (by kernel_rfl) (fun _ _ _ h => h) (Or.inr ⟨by first | (go_simp; done) | rfl, rfl⟩) hHeld ?_
          try simp only [Act.put, List.setIfInBounds_toArray, List.set_cons_zero, List.set_cons_succ]
          refine' wpAnyH_take (i := 15) (oi := _) (v := undef) rfl (by kernel_rfl) (by kernel_rfl) (by kernel_rfl) (fun _ _ _ h => h) (Or.inr ⟨by first | (go_simp; done) | rfl, rfl⟩) hHeld ?_
          try simp only [Act.put, List.setIfInBounds_toArray, List.set_cons_zero, List.set_cons_succ]
          refine' wpAnyH_take (i := 16) (oi := _) (v := undef) rfl (by kernel_rfl) (by kernel_rfl) (by kernel_rfl) (fun _ _ _ h => h) (Or.inr ⟨by first | (go_simp; done) | rfl, rfl⟩) hHeld ?_
          try simp only [Act.put, List.setIfInBounds_toArray, List.set_cons_zero, List.set_cons_succ]
          refine' wpAnyH_take (i := 17) (oi := _) (v := undef) rfl (by kernel_rfl) (by kernel_rfl) (by kernel_rfl) (fun _ _ _ h => h) (Or.inr ⟨by first | (go_simp; done) | rfl, rfl⟩) hHeld ?_
          try simp only [Act.put, List.setIfInBounds_toArray, List.set_cons_zero, List.set_cons_succ]
          refine' wpAnyH_take (i := 18) (oi := _) (v := undef) rfl (by kernel_rfl) (by kernel_rfl) (by kernel_rfl) (fun _ _ _ h => h) (Or.inr ⟨by first | (go_simp; done) | rfl, rfl⟩) hHeld ?_
          try simp only [Act.put, List.setIfInBounds_toArray, List.set_cons_zero, List.set_cons_succ]
          refine' wpAnyH_take (i := 19) (oi := _) (v := undef) rfl (by kernel_rfl) (by kernel_rfl) (by kernel_rfl) (fun _ _ _ h => h) (Or.inr ⟨by first | (go_simp; done) | rfl, rfl⟩) hHeld ?_
          try simp only [Act.put, List.setIfInBounds_toArray, List.set_cons_zero, List.set_cons_succ]
          refine' wpAnyH_take (i := 20) (oi := _) (v := undef) rfl (by kernel_rfl) (by kernel_rfl) (by kernel_rfl) (fun _ _ _ h => h) (Or.inr ⟨by first | (go_simp; done) | rfl, rfl⟩) hHeld ?_
          try simp only [Act.put, List.setIfInBounds_toArray, List.set_cons_zero, List.set_cons_succ]
          refine' wpAnyH_take (i := 21) (oi := _) (v := undef) rfl (by kernel_rfl) (by kernel_rfl) (by kernel_rfl) (fun _ _ _ h => h) (Or.inr ⟨by first | (go_simp; done) | rfl, rfl⟩) hHeld ?_
          try simp only [Act.put, List.setIfInBounds_toArray, List.set_cons_zero, List.set_cons_succ]
          refine' wpAnyH_take (i := 22) (oi := _) (v := undef) rfl (by kernel_rfl) (by kernel_rfl) (by kernel_rfl) (fun _ _ _ h => h) (Or.inr ⟨by first | (go_simp; done) | rfl, rfl⟩) hHeld ?_
          try simp only [Act.put, List.setIfInBounds_toArray, List.set_cons_zero, List.set_cons_succ]
          refine' wpAnyH_take (i := 23) (oi := _) (v := .bool false) rfl (by kernel_rfl) (by kernel_rfl) (by kernel_rfl) (fun _ _ _ h => h) (Or.inl ⟨by first | (go_simp; done) | rfl, fun X _ => by go_simp⟩) hHeld ?_
          try simp only [Act.put, List.setIfInBounds_toArray, List.set_cons_zero, List.set_cons_succ]
          refine' wpAnyH_take (i := 24) (oi := _) (v := .bool false) rfl (by kernel_rfl) (by kernel_rfl) (by kernel_rfl) (fun _ _ _ h => h) (Or.inl ⟨by first | (go_simp; done) | rfl, fun X _ => by go_simp⟩) hHeld ?_
          try simp only [Act.put, List.setIfInBounds_toArray, List.set_cons_zero, List.set_cons_succ]
          refine wpAnyH_done (by kernel_rfl) ?_ _
          go_simp
          have B6 := Bel.to hB (Bel.to (Below.drewSelf wr) hb3)
          clear hHeld hb3 g2 hB cK
          go_wp2
          go_roundg (N - (r + 1))
          case measure => have := hgh.out; have := hlt2.out; omega
          case rel => exact ⟨r + 1, rfl, by have := hlt2.out; omega, by go_num, B6⟩
      · have B3 := Bel.to B1 hB
        have j2 : ¬ (r : Int) < (N : Int) := by omega
        clear hB hu
        go_wp2_with fail
        refine (awake16_any _).mono ?_
        rintro e w9 ⟨rfl, hb9⟩
        go_wp2
        go_ret
        exact ⟨rfl, Bel.to B3 hb9⟩

theorem valid16_any (g : GameD) (av tv : Value) (ms : List AddonM) (lv : Value) (B : BetD) (w : World) (hg : GameR w av tv ms g) (hl : LinesR w lv B.lines) :
    Calls Try.prog 7 #[gameVal g av tv, betVal lv B] w (BoolB true w) := by
  by_cases he : (betP g B).2 = 0
  · exact valid16_ok g av tv ms lv B w hg hl he
  · exact valid16_bad g av tv ms lv B w hg hl he
end Go.Proofs.Ytgmbnbdbmkdlgaa
end

section
/- BetValid: for every input the Go function lotterylaw16.BetValid returns true, and each argument reads afterwards as before. Conditions: none. -/
namespace Go.Proofs.Ytgmbnbdbmkdlgaa.betValid
open Go.ChangeShapes Go.WideShapes Go.ChangeAt Go.RowKit
set_option linter.unusedVariables false

theorem own : ownKnob Try.prog.godebug = none := by kernel_rfl
theorem laidOut : laidOutB Try.prog = true := by kernel_rfl

set_option maxRecDepth 100000 in
theorem lifted (os : Os) (started : os.Started) (H : Type) (enc : TypeId × Value → H) :
    ReturnsInHanded {} Try.checked os 7 .any (Rows.betValidSpec.pre6 enc Try.prog Try.f7 Rows.betValidRow.domain false) (Rows.betValidSpec.post enc Try.prog Try.f7 false true false false) := by
  refine returnsInHanded_of_change (C := Try.checked) own started (by kernel_rfl) Try.func7
    (ChangeSpec.witness6 (enc := enc) (C := Try.checked) false ⟨#[], #[.agg #[.string ⟨#[]⟩, .int .i64 0, .int .i64 0, .int .i64 0, .int .i64 0, .int .i64 0, .int .i64 0, .int .i64 0, .int .i64 0, .int .i64 0, .int .i64 0, .int .i64 0, .int .i64 0, .int .i64 0, .int .i64 0, .int .i64 0, .int .i64 0, .int .i64 0, .int .i64 0, .int .i64 0, .slice none 0 0, .slice none 0 0], .agg #[.slice none 0 0, .bool false, .int .i64 0, .int .i64 0]], []⟩ 8 (by kernel_rfl) (by kernel_rfl) (by kernel_rfl) (by kernel_rfl)) ?_
  intro W base args ds gs before hval0 hW hcnd _
  have hval : ∀ (j : Nat) t v, Try.f7.params[j]? = some t → args[j]? = some v → Value.okWide Try.prog W .any base t v := hval0
  have hW' := hW
  obtain ⟨p, q, hA0, hV, rfl, hfz, hnd⟩ := hW
  have hA : DataW.TrodAll enc Try.prog W 0 (fun _ => true) true Try.f7.params.toList args.toList ds p := hA0
  rw [Try.params7] at hA hval
  obtain ⟨v0, vs0, d0, ds0, p0, q0, hargs, rfl, rfl, h0, r0⟩ := trodAll_cons hA
  obtain ⟨v1, vs1, d1, ds1, p1, q1, rfl, rfl, rfl, h1, r1⟩ := trodAll_cons r0
  obtain ⟨rfl, rfl, rfl⟩ := trodAll_nil r1
  obtain rfl : args = #[v0, v1] := by cases args; simp_all
  obtain ⟨rfl, rfl⟩ := trodVars_none hV
  obtain ⟨cs0, rfl, hsz0⟩ := okWide_struct Try.underlying25 (hval 0 25 v0 rfl rfl)
  have k0 := h0
  have lt0 : ∀ x ∈ p0, x.block < W.heap.size := by obtain ⟨m, hm⟩ := k0; exact DataW.trod_lt m _ _ _ hm
  obtain ⟨g0, av0, tv0, ms0, eg0, rg0⟩ := game_trod h0
  rw [eg0] at k0 hW' ⊢
  obtain ⟨cs1, rfl, hsz1⟩ := okWide_struct Try.underlying44 (hval 1 44 v1 rfl rfl)
  have k1 := h1
  have lt1 : ∀ x ∈ p1, x.block < W.heap.size := by obtain ⟨m, hm⟩ := k1; exact DataW.trod_lt m _ _ _ hm
  obtain ⟨lv1, B1, eg1, rg1⟩ := bet_trod h1
  rw [eg1] at k1 hW' ⊢
  clear hA0 hval0
  refine (valid16_any g0 av0 tv0 ms0 lv1 B1 W rg0 rg1).mono fun e W' ⟨he, bel⟩ => ?_
  subst he
  exact ⟨_, rfl, _, _, _, [], _, [], hW', trodAll_mk1 (shut_bool Try.underlying4 _), (trodAll_cons_mk (Below.trod laidOut (by kernel_rfl) (of_decide_eq_true (by kernel_rfl)) k0 bel lt0) (trodAll_cons_mk (Below.trod laidOut (by kernel_rfl) (of_decide_eq_true (by kernel_rfl)) k1 bel lt1) trodAll_mk0)), rfl, bel.frame _, fun h => by cases h⟩

theorem over : Rows.betValidRow.holds Try.pinned (OpenSpec.ofChange Rows.betValidSpec) :=
  OpenClaim.holds_of_wide 7 Try.f7 rfl rfl rfl rfl rfl rfl rfl ⟨rfl, rfl, rfl, rfl, rfl⟩ rfl rfl rfl rfl rfl (by kernel_rfl) Try.func7 (by kernel_rfl)
    (of_decide_eq_true (by kernel_rfl)) (by unfold Func.isWrapper; first | (rw [if_pos (by decide +kernel)]; kernel_rfl) | (rw [if_neg (by decide +kernel)]; exact ⟨rfl, rfl⟩))
    (fun os started H enc _ => lifted os started H enc)

theorem proved : Rows.BetValidSaid := over
#print axioms proved
end Go.Proofs.Ytgmbnbdbmkdlgaa.betValid
end

/- QuickpickNobody: for every input the Go function lotterylaw14.QuickpickNobody returns true, and each argument reads afterwards as before. Conditions: none. -/
import Derived.Test.YtokhhccokjfgjaaRows
import Derived.WalkKit
import Derived.ProofKit
import Derived.OpenShut
import Derived.ChangeOld
import Derived.Below
import Derived.Test.YtokhhccokjfgjaaGPick
import Derived.Test.YtokhhccokjfgjaaGRef
import Derived.Test.YtokhhccokjfgjaaGTrod

section
/- The walk of the statement QuickpickNobody: it returns true, whatever the game and the number. -/
open Go.RowKit
set_option linter.unusedVariables false
set_option linter.unusedSimpArgs false
namespace Go.Proofs.Ytokhhccokjfgjaa

set_option maxHeartbeats 4000000 in
set_option maxRecDepth 100000 in
theorem nobody14_ok_lo (g : GameD) (av tv : Value) (ms : List AddonM) (n : Int) (w : World) (h : GameR w av tv ms g) (he : gameE g = 0) (hn : n < 1) : Calls Try.prog 6 #[gameVal g av tv, .int .i64 n] w (BoolB true w) := by
  have cF := hide (fun X (hX : GameR X av tv ms g) => few14_any g av tv ms X hX)
  have cR := hide (fun X (hX : GameR X av tv ms g) => rcheck_any g av tv ms X hX)
  have cL := hide (fun X (hX : GameR X av tv ms g) => qline_nil g av tv ms X hX he)
  rw [he] at cR
  replace he := hide he
  have cN := hide (fun X => sserial_none none n X (.inl hn))
  have hh := hide h
  obtain ⟨aa, ac, rfl, hal, ham⟩ := h.1.1.shape
  obtain ⟨ta, tc, rfl, htl, htm⟩ := h.2.2.shape
  clear h
  unfold gameVal
  go_enter Try.func6, Try.ntmps6
  go_upto_region 1 with (fail)
  obtain ⟨W, hW⟩ : ∃ W, W = (w.alloc (Obj.cells #[.string g.name, .int .i64 g.kind, .int .i64 g.price, .int .i64 g.main, .int .i64 g.of, .int .i64 g.bonus, .int .i64 g.bonusOf, .int .i64 g.extra, .int .i64 g.draws, .int .i64 g.system, .int .i64 g.days, .int .i64 g.at_, .int .i64 g.close, .int .i64 g.cancel, .int .i64 g.expiry, .int .i64 g.pool, .int .i64 g.reserve, .int .i64 g.round, .int .i64 g.cap, .int .i64 g.rolls, (.slice aa ms.length ac), (.slice ta g.tiers.length tc)] 25)) := ⟨_, rfl⟩
  have bW : Below w.heap.size w W := by rw [hW]; exact Bel.al (Below.refl _ _) _
  have r0 : GameAt W (w.heap.size) g ((.slice aa ms.length ac)) ((.slice ta g.tiers.length tc)) := by rw [hW]; exact Row.new _ _ _
  have sW : w.heap.size < W.heap.size := by rw [hW]; simp
  rw [← hW]
  clear hW
  go_wp2_with (first | (refine wpList_load_row rfl 25 _ rfl _ rfl _ _ _ _ r0 Try.underlying25 rfl (by kernel_rfl) ?_) | fail)
  refine (cF.out _ (hh.out.below bW)).mono ?_
  rintro e w1 ⟨q, rfl, b1⟩
  have B1 := Bel.to bW b1
  replace r0 := r0.keep b1
  clear bW b1 cF
  cases q with
  | false =>
    go_wp2_with fail
    refine (awake14_any _).mono ?_
    rintro e w7 ⟨rfl, b7⟩
    go_wp2
    go_ret
    exact ⟨rfl, Bel.to B1 b7⟩
  | true =>
    go_wp2_with (first | (refine wpList_load_row rfl 25 _ rfl _ rfl _ _ _ _ r0 Try.underlying25 rfl (by kernel_rfl) ?_) | fail)
    refine (cR.out _ (hh.out.below B1)).mono ?_
    rintro e w2 ⟨sv, rfl, b2⟩
    have B2 := Bel.to B1 b2
    replace r0 := r0.keep b2
    clear B1 b2 cR
    go_wp2_with (first | (refine wpList_load_row rfl 25 _ rfl _ rfl _ _ _ _ r0 Try.underlying25 rfl (by kernel_rfl) ?_) | fail)
    refine (cL.out _ (hh.out.below B2)).mono ?_
    rintro e w3 ⟨rfl, b3⟩
    have B3 := Bel.to B2 b3
    clear B2 b3 cL r0
    unfold lineVal
    go_upto_region 7 with (fail)
    obtain ⟨W4, hW4⟩ : ∃ W4, W4 = w3.alloc (Obj.cells #[.slice none 0 0, .slice none 0 0] 28) := ⟨_, rfl⟩
    have b4 : Below w3.heap.size w3 W4 := by rw [hW4]; exact Bel.al (Below.refl _ _) _
    have rL : LineAt W4 w3.heap.size (.slice none 0 0) (.slice none 0 0) := by rw [hW4]; exact Row.new _ _ _
    rw [← hW4]
    clear hW4
    have x0 := rL.main
    have x1 := rL.bonus
    have B4 := Bel.to B3 b4
    clear B3 b4 rL
    go_wp2_with fail
    refine (cN.out _).mono ?_
    rintro e w5 ⟨rfl, rfl⟩
    go_wp2_with fail
    refine (awake14_any _).mono ?_
    rintro e w7 ⟨rfl, b7⟩
    go_wp2
    go_ret
    exact ⟨rfl, Bel.to B4 b7⟩

set_option maxHeartbeats 4000000 in
set_option maxRecDepth 100000 in
theorem nobody14_ok_hi (g : GameD) (av tv : Value) (ms : List AddonM) (n : Int) (w : World) (h : GameR w av tv ms g) (he : gameE g = 0) (hn : 8 < n) : Calls Try.prog 6 #[gameVal g av tv, .int .i64 n] w (BoolB true w) := by
  have cF := hide (fun X (hX : GameR X av tv ms g) => few14_any g av tv ms X hX)
  have cR := hide (fun X (hX : GameR X av tv ms g) => rcheck_any g av tv ms X hX)
  have cL := hide (fun X (hX : GameR X av tv ms g) => qline_nil g av tv ms X hX he)
  rw [he] at cR
  replace he := hide he
  have cN := hide (fun X => sserial_none none n X (.inr hn))
  have hh := hide h
  obtain ⟨aa, ac, rfl, hal, ham⟩ := h.1.1.shape
  obtain ⟨ta, tc, rfl, htl, htm⟩ := h.2.2.shape
  clear h
  unfold gameVal
  go_enter Try.func6, Try.ntmps6
  go_upto_region 1 with (fail)
  obtain ⟨W, hW⟩ : ∃ W, W = (w.alloc (Obj.cells #[.string g.name, .int .i64 g.kind, .int .i64 g.price, .int .i64 g.main, .int .i64 g.of, .int .i64 g.bonus, .int .i64 g.bonusOf, .int .i64 g.extra, .int .i64 g.draws, .int .i64 g.system, .int .i64 g.days, .int .i64 g.at_, .int .i64 g.close, .int .i64 g.cancel, .int .i64 g.expiry, .int .i64 g.pool, .int .i64 g.reserve, .int .i64 g.round, .int .i64 g.cap, .int .i64 g.rolls, (.slice aa ms.length ac), (.slice ta g.tiers.length tc)] 25)) := ⟨_, rfl⟩
  have bW : Below w.heap.size w W := by rw [hW]; exact Bel.al (Below.refl _ _) _
  have r0 : GameAt W (w.heap.size) g ((.slice aa ms.length ac)) ((.slice ta g.tiers.length tc)) := by rw [hW]; exact Row.new _ _ _
  have sW : w.heap.size < W.heap.size := by rw [hW]; simp
  rw [← hW]
  clear hW
  go_wp2_with (first | (refine wpList_load_row rfl 25 _ rfl _ rfl _ _ _ _ r0 Try.underlying25 rfl (by kernel_rfl) ?_) | fail)
  refine (cF.out _ (hh.out.below bW)).mono ?_
  rintro e w1 ⟨q, rfl, b1⟩
  have B1 := Bel.to bW b1
  replace r0 := r0.keep b1
  clear bW b1 cF
  cases q with
  | false =>
    go_wp2_with fail
    refine (awake14_any _).mono ?_
    rintro e w7 ⟨rfl, b7⟩
    go_wp2
    go_ret
    exact ⟨rfl, Bel.to B1 b7⟩
  | true =>
    go_wp2_with (first | (refine wpList_load_row rfl 25 _ rfl _ rfl _ _ _ _ r0 Try.underlying25 rfl (by kernel_rfl) ?_) | fail)
    refine (cR.out _ (hh.out.below B1)).mono ?_
    rintro e w2 ⟨sv, rfl, b2⟩
    have B2 := Bel.to B1 b2
    replace r0 := r0.keep b2
    clear B1 b2 cR
    go_wp2_with (first | (refine wpList_load_row rfl 25 _ rfl _ rfl _ _ _ _ r0 Try.underlying25 rfl (by kernel_rfl) ?_) | fail)
    refine (cL.out _ (hh.out.below B2)).mono ?_
    rintro e w3 ⟨rfl, b3⟩
    have B3 := Bel.to B2 b3
    clear B2 b3 cL r0
    unfold lineVal
    go_upto_region 7 with (fail)
    obtain ⟨W4, hW4⟩ : ∃ W4, W4 = w3.alloc (Obj.cells #[.slice none 0 0, .slice none 0 0] 28) := ⟨_, rfl⟩
    have b4 : Below w3.heap.size w3 W4 := by rw [hW4]; exact Bel.al (Below.refl _ _) _
    have rL : LineAt W4 w3.heap.size (.slice none 0 0) (.slice none 0 0) := by rw [hW4]; exact Row.new _ _ _
    rw [← hW4]
    clear hW4
    have x0 := rL.main
    have x1 := rL.bonus
    have B4 := Bel.to B3 b4
    clear B3 b4 rL
    go_wp2_with fail
    refine (cN.out _).mono ?_
    rintro e w5 ⟨rfl, rfl⟩
    go_wp2_with fail
    refine (awake14_any _).mono ?_
    rintro e w7 ⟨rfl, b7⟩
    go_wp2
    go_ret
    exact ⟨rfl, Bel.to B4 b7⟩

set_option maxHeartbeats 4000000 in
set_option maxRecDepth 100000 in
theorem nobody14_ok_in (g : GameD) (av tv : Value) (ms : List AddonM) (n : Int) (w : World) (h : GameR w av tv ms g) (he : gameE g = 0) (hn : 1 ≤ n ∧ n ≤ 8) : Calls Try.prog 6 #[gameVal g av tv, .int .i64 n] w (BoolB true w) := by
  have cF := hide (fun X (hX : GameR X av tv ms g) => few14_any g av tv ms X hX)
  have cR := hide (fun X (hX : GameR X av tv ms g) => rcheck_any g av tv ms X hX)
  have cL := hide (fun X (hX : GameR X av tv ms g) => qline_nil g av tv ms X hX he)
  rw [he] at cR
  replace he := hide he
  have cN := hide (fun X => sserial_nil n X hn.1 hn.2)
  obtain ⟨hn1, hn2⟩ := hn
  have hh := hide h
  obtain ⟨aa, ac, rfl, hal, ham⟩ := h.1.1.shape
  obtain ⟨ta, tc, rfl, htl, htm⟩ := h.2.2.shape
  clear h
  unfold gameVal
  go_enter Try.func6, Try.ntmps6
  go_upto_region 1 with (fail)
  obtain ⟨W, hW⟩ : ∃ W, W = (w.alloc (Obj.cells #[.string g.name, .int .i64 g.kind, .int .i64 g.price, .int .i64 g.main, .int .i64 g.of, .int .i64 g.bonus, .int .i64 g.bonusOf, .int .i64 g.extra, .int .i64 g.draws, .int .i64 g.system, .int .i64 g.days, .int .i64 g.at_, .int .i64 g.close, .int .i64 g.cancel, .int .i64 g.expiry, .int .i64 g.pool, .int .i64 g.reserve, .int .i64 g.round, .int .i64 g.cap, .int .i64 g.rolls, (.slice aa ms.length ac), (.slice ta g.tiers.length tc)] 25)) := ⟨_, rfl⟩
  have bW : Below w.heap.size w W := by rw [hW]; exact Bel.al (Below.refl _ _) _
  have r0 : GameAt W (w.heap.size) g ((.slice aa ms.length ac)) ((.slice ta g.tiers.length tc)) := by rw [hW]; exact Row.new _ _ _
  have sW : w.heap.size < W.heap.size := by rw [hW]; simp
  rw [← hW]
  clear hW
  go_wp2_with (first | (refine wpList_load_row rfl 25 _ rfl _ rfl _ _ _ _ r0 Try.underlying25 rfl (by kernel_rfl) ?_) | fail)
  refine (cF.out _ (hh.out.below bW)).mono ?_
  rintro e w1 ⟨q, rfl, b1⟩
  have B1 := Bel.to bW b1
  replace r0 := r0.keep b1
  clear bW b1 cF
  cases q with
  | false =>
    go_wp2_with fail
    refine (awake14_any _).mono ?_
    rintro e w7 ⟨rfl, b7⟩
    go_wp2
    go_ret
    exact ⟨rfl, Bel.to B1 b7⟩
  | true =>
    go_wp2_with (first | (refine wpList_load_row rfl 25 _ rfl _ rfl _ _ _ _ r0 Try.underlying25 rfl (by kernel_rfl) ?_) | fail)
    refine (cR.out _ (hh.out.below B1)).mono ?_
    rintro e w2 ⟨sv, rfl, b2⟩
    have B2 := Bel.to B1 b2
    replace r0 := r0.keep b2
    clear B1 b2 cR
    go_wp2_with (first | (refine wpList_load_row rfl 25 _ rfl _ rfl _ _ _ _ r0 Try.underlying25 rfl (by kernel_rfl) ?_) | fail)
    refine (cL.out _ (hh.out.below B2)).mono ?_
    rintro e w3 ⟨rfl, b3⟩
    have B3 := Bel.to B2 b3
    clear B2 b3 cL r0
    unfold lineVal
    go_upto_region 7 with (fail)
    obtain ⟨W4, hW4⟩ : ∃ W4, W4 = w3.alloc (Obj.cells #[.slice none 0 0, .slice none 0 0] 28) := ⟨_, rfl⟩
    have b4 : Below w3.heap.size w3 W4 := by rw [hW4]; exact Bel.al (Below.refl _ _) _
    have rL : LineAt W4 w3.heap.size (.slice none 0 0) (.slice none 0 0) := by rw [hW4]; exact Row.new _ _ _
    rw [← hW4]
    clear hW4
    have x0 := rL.main
    have x1 := rL.bonus
    have B4 := Bel.to B3 b4
    clear B3 b4 rL
    go_wp2_with fail
    refine (cN.out _).mono ?_
    rintro e w5 ⟨rfl, rfl⟩
    go_wp2_with fail
    refine (awake14_any _).mono ?_
    rintro e w7 ⟨rfl, b7⟩
    go_wp2
    go_ret
    exact ⟨rfl, Bel.to B4 b7⟩

set_option maxHeartbeats 4000000 in
set_option maxRecDepth 100000 in
theorem nobody14_bad_lo (g : GameD) (av tv : Value) (ms : List AddonM) (n : Int) (w : World) (h : GameR w av tv ms g) (he : gameE g ≠ 0) (hn : n < 1) : Calls Try.prog 6 #[gameVal g av tv, .int .i64 n] w (BoolB true w) := by
  have cF := hide (fun X (hX : GameR X av tv ms g) => few14_any g av tv ms X hX)
  have cR := hide (fun X (hX : GameR X av tv ms g) => rcheck_any g av tv ms X hX)
  have cL := hide (fun X (hX : GameR X av tv ms g) => qline_bad g av tv ms none X hX he)
  obtain ⟨c, hcc⟩ : ∃ c, c = gameE g := ⟨_, rfl⟩
  rw [← hcc] at cL cR he
  clear hcc
  have hcb : (c == 0) = false := by simpa using he
  have hcc2 : (c != c) = false := by simp
  replace he := hide he
  have cN := hide (fun X => sserial_none none n X (.inl hn))
  have hh := hide h
  obtain ⟨aa, ac, rfl, hal, ham⟩ := h.1.1.shape
  obtain ⟨ta, tc, rfl, htl, htm⟩ := h.2.2.shape
  clear h
  unfold gameVal
  go_enter Try.func6, Try.ntmps6
  go_upto_region 1 with (fail)
  obtain ⟨W, hW⟩ : ∃ W, W = (w.alloc (Obj.cells #[.string g.name, .int .i64 g.kind, .int .i64 g.price, .int .i64 g.main, .int .i64 g.of, .int .i64 g.bonus, .int .i64 g.bonusOf, .int .i64 g.extra, .int .i64 g.draws, .int .i64 g.system, .int .i64 g.days, .int .i64 g.at_, .int .i64 g.close, .int .i64 g.cancel, .int .i64 g.expiry, .int .i64 g.pool, .int .i64 g.reserve, .int .i64 g.round, .int .i64 g.cap, .int .i64 g.rolls, (.slice aa ms.length ac), (.slice ta g.tiers.length tc)] 25)) := ⟨_, rfl⟩
  have bW : Below w.heap.size w W := by rw [hW]; exact Bel.al (Below.refl _ _) _
  have r0 : GameAt W (w.heap.size) g ((.slice aa ms.length ac)) ((.slice ta g.tiers.length tc)) := by rw [hW]; exact Row.new _ _ _
  have sW : w.heap.size < W.heap.size := by rw [hW]; simp
  rw [← hW]
  clear hW
  go_wp2_with (first | (refine wpList_load_row rfl 25 _ rfl _ rfl _ _ _ _ r0 Try.underlying25 rfl (by kernel_rfl) ?_) | fail)
  refine (cF.out _ (hh.out.below bW)).mono ?_
  rintro e w1 ⟨q, rfl, b1⟩
  have B1 := Bel.to bW b1
  replace r0 := r0.keep b1
  clear bW b1 cF
  cases q with
  | false =>
    go_wp2_with fail
    refine (awake14_any _).mono ?_
    rintro e w7 ⟨rfl, b7⟩
    go_wp2
    go_ret
    exact ⟨rfl, Bel.to B1 b7⟩
  | true =>
    go_wp2_with (first | (refine wpList_load_row rfl 25 _ rfl _ rfl _ _ _ _ r0 Try.underlying25 rfl (by kernel_rfl) ?_) | fail)
    refine (cR.out _ (hh.out.below B1)).mono ?_
    rintro e w2 ⟨sv, rfl, b2⟩
    have B2 := Bel.to B1 b2
    replace r0 := r0.keep b2
    clear B1 b2 cR
    go_wp2_with (first | (refine wpList_load_row rfl 25 _ rfl _ rfl _ _ _ _ r0 Try.underlying25 rfl (by kernel_rfl) ?_) | fail)
    refine (cL.out _ (hh.out.below B2)).mono ?_
    rintro e w3 ⟨rfl, b3⟩
    have B3 := Bel.to B2 b3
    clear B2 b3 cL r0
    unfold lineVal
    go_upto_region 7 with (fail)
    obtain ⟨W4, hW4⟩ : ∃ W4, W4 = w3.alloc (Obj.cells #[.slice none 0 0, .slice none 0 0] 28) := ⟨_, rfl⟩
    have b4 : Below w3.heap.size w3 W4 := by rw [hW4]; exact Bel.al (Below.refl _ _) _
    have rL : LineAt W4 w3.heap.size (.slice none 0 0) (.slice none 0 0) := by rw [hW4]; exact Row.new _ _ _
    rw [← hW4]
    clear hW4
    have x0 := rL.main
    have x1 := rL.bonus
    have B4 := Bel.to B3 b4
    clear B3 b4 rL
    go_wp2_with fail
    refine (cN.out _).mono ?_
    rintro e w5 ⟨rfl, rfl⟩
    go_wp2_with fail
    refine (awake14_any _).mono ?_
    rintro e w7 ⟨rfl, b7⟩
    go_wp2
    go_ret
    exact ⟨rfl, Bel.to B4 b7⟩

set_option maxHeartbeats 4000000 in
set_option maxRecDepth 100000 in
theorem nobody14_bad_hi (g : GameD) (av tv : Value) (ms : List AddonM) (n : Int) (w : World) (h : GameR w av tv ms g) (he : gameE g ≠ 0) (hn : 8 < n) : Calls Try.prog 6 #[gameVal g av tv, .int .i64 n] w (BoolB true w) := by
  have cF := hide (fun X (hX : GameR X av tv ms g) => few14_any g av tv ms X hX)
  have cR := hide (fun X (hX : GameR X av tv ms g) => rcheck_any g av tv ms X hX)
  have cL := hide (fun X (hX : GameR X av tv ms g) => qline_bad g av tv ms none X hX he)
  obtain ⟨c, hcc⟩ : ∃ c, c = gameE g := ⟨_, rfl⟩
  rw [← hcc] at cL cR he
  clear hcc
  have hcb : (c == 0) = false := by simpa using he
  have hcc2 : (c != c) = false := by simp
  replace he := hide he
  have cN := hide (fun X => sserial_none none n X (.inr hn))
  have hh := hide h
  obtain ⟨aa, ac, rfl, hal, ham⟩ := h.1.1.shape
  obtain ⟨ta, tc, rfl, htl, htm⟩ := h.2.2.shape
  clear h
  unfold gameVal
  go_enter Try.func6, Try.ntmps6
  go_upto_region 1 with (fail)
  obtain ⟨W, hW⟩ : ∃ W, W = (w.alloc (Obj.cells #[.string g.name, .int .i64 g.kind, .int .i64 g.price, .int .i64 g.main, .int .i64 g.of, .int .i64 g.bonus, .int .i64 g.bonusOf, .int .i64 g.extra, .int .i64 g.draws, .int .i64 g.system, .int .i64 g.days, .int .i64 g.at_, .int .i64 g.close, .int .i64 g.cancel, .int .i64 g.expiry, .int .i64 g.pool, .int .i64 g.reserve, .int .i64 g.round, .int .i64 g.cap, .int .i64 g.rolls, (.slice aa ms.length ac), (.slice ta g.tiers.length tc)] 25)) := ⟨_, rfl⟩
  have bW : Below w.heap.size w W := by rw [hW]; exact Bel.al (Below.refl _ _) _
  have r0 : GameAt W (w.heap.size) g ((.slice aa ms.length ac)) ((.slice ta g.tiers.length tc)) := by rw [hW]; exact Row.new _ _ _
  have sW : w.heap.size < W.heap.size := by rw [hW]; simp
  rw [← hW]
  clear hW
  go_wp2_with (first | (refine wpList_load_row rfl 25 _ rfl _ rfl _ _ _ _ r0 Try.underlying25 rfl (by kernel_rfl) ?_) | fail)
  refine (cF.out _ (hh.out.below bW)).mono ?_
  rintro e w1 ⟨q, rfl, b1⟩
  have B1 := Bel.to bW b1
  replace r0 := r0.keep b1
  clear bW b1 cF
  cases q with
  | false =>
    go_wp2_with fail
    refine (awake14_any _).mono ?_
    rintro e w7 ⟨rfl, b7⟩
    go_wp2
    go_ret
    exact ⟨rfl, Bel.to B1 b7⟩
  | true =>
    go_wp2_with (first | (refine wpList_load_row rfl 25 _ rfl _ rfl _ _ _ _ r0 Try.underlying25 rfl (by kernel_rfl) ?_) | fail)
    refine (cR.out _ (hh.out.below B1)).mono ?_
    rintro e w2 ⟨sv, rfl, b2⟩
    have B2 := Bel.to B1 b2
    replace r0 := r0.keep b2
    clear B1 b2 cR
    go_wp2_with (first | (refine wpList_load_row rfl 25 _ rfl _ rfl _ _ _ _ r0 Try.underlying25 rfl (by kernel_rfl) ?_) | fail)
    refine (cL.out _ (hh.out.below B2)).mono ?_
    rintro e w3 ⟨rfl, b3⟩
    have B3 := Bel.to B2 b3
    clear B2 b3 cL r0
    unfold lineVal
    go_upto_region 7 with (fail)
    obtain ⟨W4, hW4⟩ : ∃ W4, W4 = w3.alloc (Obj.cells #[.slice none 0 0, .slice none 0 0] 28) := ⟨_, rfl⟩
    have b4 : Below w3.heap.size w3 W4 := by rw [hW4]; exact Bel.al (Below.refl _ _) _
    have rL : LineAt W4 w3.heap.size (.slice none 0 0) (.slice none 0 0) := by rw [hW4]; exact Row.new _ _ _
    rw [← hW4]
    clear hW4
    have x0 := rL.main
    have x1 := rL.bonus
    have B4 := Bel.to B3 b4
    clear B3 b4 rL
    go_wp2_with fail
    refine (cN.out _).mono ?_
    rintro e w5 ⟨rfl, rfl⟩
    go_wp2_with fail
    refine (awake14_any _).mono ?_
    rintro e w7 ⟨rfl, b7⟩
    go_wp2
    go_ret
    exact ⟨rfl, Bel.to B4 b7⟩

set_option maxHeartbeats 4000000 in
set_option maxRecDepth 100000 in
theorem nobody14_bad_in (g : GameD) (av tv : Value) (ms : List AddonM) (n : Int) (w : World) (h : GameR w av tv ms g) (he : gameE g ≠ 0) (hn : 1 ≤ n ∧ n ≤ 8) : Calls Try.prog 6 #[gameVal g av tv, .int .i64 n] w (BoolB true w) := by
  have cF := hide (fun X (hX : GameR X av tv ms g) => few14_any g av tv ms X hX)
  have cR := hide (fun X (hX : GameR X av tv ms g) => rcheck_any g av tv ms X hX)
  have cL := hide (fun X (hX : GameR X av tv ms g) => qline_bad g av tv ms none X hX he)
  obtain ⟨c, hcc⟩ : ∃ c, c = gameE g := ⟨_, rfl⟩
  rw [← hcc] at cL cR he
  clear hcc
  have hcb : (c == 0) = false := by simpa using he
  have hcc2 : (c != c) = false := by simp
  replace he := hide he
  have cN := hide (fun X => sserial_nil n X hn.1 hn.2)
  obtain ⟨hn1, hn2⟩ := hn
  have hh := hide h
  obtain ⟨aa, ac, rfl, hal, ham⟩ := h.1.1.shape
  obtain ⟨ta, tc, rfl, htl, htm⟩ := h.2.2.shape
  clear h
  unfold gameVal
  go_enter Try.func6, Try.ntmps6
  go_upto_region 1 with (fail)
  obtain ⟨W, hW⟩ : ∃ W, W = (w.alloc (Obj.cells #[.string g.name, .int .i64 g.kind, .int .i64 g.price, .int .i64 g.main, .int .i64 g.of, .int .i64 g.bonus, .int .i64 g.bonusOf, .int .i64 g.extra, .int .i64 g.draws, .int .i64 g.system, .int .i64 g.days, .int .i64 g.at_, .int .i64 g.close, .int .i64 g.cancel, .int .i64 g.expiry, .int .i64 g.pool, .int .i64 g.reserve, .int .i64 g.round, .int .i64 g.cap, .int .i64 g.rolls, (.slice aa ms.length ac), (.slice ta g.tiers.length tc)] 25)) := ⟨_, rfl⟩
  have bW : Below w.heap.size w W := by rw [hW]; exact Bel.al (Below.refl _ _) _
  have r0 : GameAt W (w.heap.size) g ((.slice aa ms.length ac)) ((.slice ta g.tiers.length tc)) := by rw [hW]; exact Row.new _ _ _
  have sW : w.heap.size < W.heap.size := by rw [hW]; simp
  rw [← hW]
  clear hW
  go_wp2_with (first | (refine wpList_load_row rfl 25 _ rfl _ rfl _ _ _ _ r0 Try.underlying25 rfl (by kernel_rfl) ?_) | fail)
  refine (cF.out _ (hh.out.below bW)).mono ?_
  rintro e w1 ⟨q, rfl, b1⟩
  have B1 := Bel.to bW b1
  replace r0 := r0.keep b1
  clear bW b1 cF
  cases q with
  | false =>
    go_wp2_with fail
    refine (awake14_any _).mono ?_
    rintro e w7 ⟨rfl, b7⟩
    go_wp2
    go_ret
    exact ⟨rfl, Bel.to B1 b7⟩
  | true =>
    go_wp2_with (first | (refine wpList_load_row rfl 25 _ rfl _ rfl _ _ _ _ r0 Try.underlying25 rfl (by kernel_rfl) ?_) | fail)
    refine (cR.out _ (hh.out.below B1)).mono ?_
    rintro e w2 ⟨sv, rfl, b2⟩
    have B2 := Bel.to B1 b2
    replace r0 := r0.keep b2
    clear B1 b2 cR
    go_wp2_with (first | (refine wpList_load_row rfl 25 _ rfl _ rfl _ _ _ _ r0 Try.underlying25 rfl (by kernel_rfl) ?_) | fail)
    refine (cL.out _ (hh.out.below B2)).mono ?_
    rintro e w3 ⟨rfl, b3⟩
    have B3 := Bel.to B2 b3
    clear B2 b3 cL r0
    unfold lineVal
    go_upto_region 7 with (fail)
    obtain ⟨W4, hW4⟩ : ∃ W4, W4 = w3.alloc (Obj.cells #[.slice none 0 0, .slice none 0 0] 28) := ⟨_, rfl⟩
    have b4 : Below w3.heap.size w3 W4 := by rw [hW4]; exact Bel.al (Below.refl _ _) _
    have rL : LineAt W4 w3.heap.size (.slice none 0 0) (.slice none 0 0) := by rw [hW4]; exact Row.new _ _ _
    rw [← hW4]
    clear hW4
    have x0 := rL.main
    have x1 := rL.bonus
    have B4 := Bel.to B3 b4
    clear B3 b4 rL
    go_wp2_with fail
    refine (cN.out _).mono ?_
    rintro e w5 ⟨rfl, rfl⟩
    go_wp2_with fail
    refine (awake14_any _).mono ?_
    rintro e w7 ⟨rfl, b7⟩
    go_wp2
    go_ret
    exact ⟨rfl, Bel.to B4 b7⟩

theorem nobody14_any (g : GameD) (av tv : Value) (ms : List AddonM) (n : Int) (w : World) (h : GameR w av tv ms g) : Calls Try.prog 6 #[gameVal g av tv, .int .i64 n] w (BoolB true w) := by
  by_cases he : gameE g = 0
  · rcases (show n < 1 ∨ 8 < n ∨ (1 ≤ n ∧ n ≤ 8) by omega) with hn | hn | hn
    · exact nobody14_ok_lo g av tv ms n w h he hn
    · exact nobody14_ok_hi g av tv ms n w h he hn
    · exact nobody14_ok_in g av tv ms n w h he hn
  · rcases (show n < 1 ∨ 8 < n ∨ (1 ≤ n ∧ n ≤ 8) by omega) with hn | hn | hn
    · exact nobody14_bad_lo g av tv ms n w h he hn
    · exact nobody14_bad_hi g av tv ms n w h he hn
    · exact nobody14_bad_in g av tv ms n w h he hn
end Go.Proofs.Ytokhhccokjfgjaa
end

section
/- QuickpickNobody: for every input the Go function lotterylaw14.QuickpickNobody returns true, and each argument reads afterwards as before. Conditions: none. -/
namespace Go.Proofs.Ytokhhccokjfgjaa.quickpickNobody
open Go.ChangeShapes Go.WideShapes Go.ChangeAt Go.RowKit
set_option linter.unusedVariables false

theorem own : ownKnob Try.prog.godebug = none := by kernel_rfl
theorem laidOut : laidOutB Try.prog = true := by kernel_rfl

set_option maxRecDepth 100000 in
theorem lifted (os : Os) (started : os.Started) (H : Type) (enc : TypeId × Value → H) :
    ReturnsInHanded {} Try.checked os 6 .any (Rows.quickpickNobodySpec.pre6 enc Try.prog Try.f6 Rows.quickpickNobodyRow.domain false) (Rows.quickpickNobodySpec.post enc Try.prog Try.f6 false true false false) := by
  refine returnsInHanded_of_change (C := Try.checked) own started (by kernel_rfl) Try.func6
    (ChangeSpec.witness6 (enc := enc) (C := Try.checked) false ⟨#[], #[.agg #[.string ⟨#[]⟩, .int .i64 0, .int .i64 0, .int .i64 0, .int .i64 0, .int .i64 0, .int .i64 0, .int .i64 0, .int .i64 0, .int .i64 0, .int .i64 0, .int .i64 0, .int .i64 0, .int .i64 0, .int .i64 0, .int .i64 0, .int .i64 0, .int .i64 0, .int .i64 0, .int .i64 0, .slice none 0 0, .slice none 0 0], .int .i64 0], []⟩ 8 (by kernel_rfl) (by kernel_rfl) (by kernel_rfl) (by kernel_rfl)) ?_
  intro W base args ds gs before hval0 hW hcnd _
  have hval : ∀ (j : Nat) t v, Try.f6.params[j]? = some t → args[j]? = some v → Value.okWide Try.prog W .any base t v := hval0
  have hW' := hW
  obtain ⟨p, q, hA0, hV, rfl, hfz, hnd⟩ := hW
  have hA : DataW.TrodAll enc Try.prog W 0 (fun _ => true) true Try.f6.params.toList args.toList ds p := hA0
  rw [Try.params6] at hA hval
  obtain ⟨v0, vs0, d0, ds0, p0, q0, hargs, rfl, rfl, h0, r0⟩ := trodAll_cons hA
  obtain ⟨v1, vs1, d1, ds1, p1, q1, rfl, rfl, rfl, h1, r1⟩ := trodAll_cons r0
  obtain ⟨rfl, rfl, rfl⟩ := trodAll_nil r1
  obtain rfl : args = #[v0, v1] := by cases args; simp_all
  obtain ⟨rfl, rfl⟩ := trodVars_none hV
  obtain ⟨cs0, rfl, hsz0⟩ := okWide_struct Try.underlying25 (hval 0 25 v0 rfl rfl)
  have k0 := h0
  have lt0 : ∀ x ∈ p0, x.block < W.heap.size := by obtain ⟨m, hm⟩ := k0; exact DataW.trod_lt m _ _ _ hm
  obtain ⟨g0, av0, tv0, ms0, eg0, rg0⟩ := game_trod h0
  rw [eg0] at k0 hW' ⊢
  obtain ⟨a1, rfl, rfl, rfl, w1⟩ := open_int Try.underlying3 (hval 1 3 v1 rfl rfl) h1
  have b1 := bounds_i64 w1
  clear hA0 hval0
  refine (nobody14_any g0 av0 tv0 ms0 a1 W rg0).mono fun e W' ⟨he, bel⟩ => ?_
  subst he
  exact ⟨_, rfl, _, _, _, [], _, [], hW', trodAll_mk1 (shut_bool Try.underlying4 _), (trodAll_cons_mk (Below.trod laidOut (by kernel_rfl) (of_decide_eq_true (by kernel_rfl)) k0 bel lt0) (trodAll_cons_mk (shut_int Try.underlying3 w1) trodAll_mk0)), rfl, bel.frame _, fun h => by cases h⟩

theorem over : Rows.quickpickNobodyRow.holds Try.pinned (OpenSpec.ofChange Rows.quickpickNobodySpec) :=
  OpenClaim.holds_of_wide 6 Try.f6 rfl rfl rfl rfl rfl rfl rfl ⟨rfl, rfl, rfl, rfl, rfl⟩ rfl rfl rfl rfl rfl (by kernel_rfl) Try.func6 (by kernel_rfl)
    (of_decide_eq_true (by kernel_rfl)) (by unfold Func.isWrapper; first | (rw [if_pos (by decide +kernel)]; kernel_rfl) | (rw [if_neg (by decide +kernel)]; exact ⟨rfl, rfl⟩))
    (fun os started H enc _ => lifted os started H enc)

theorem proved : Rows.QuickpickNobodySaid := over
#print axioms proved
end Go.Proofs.Ytokhhccokjfgjaa.quickpickNobody
end

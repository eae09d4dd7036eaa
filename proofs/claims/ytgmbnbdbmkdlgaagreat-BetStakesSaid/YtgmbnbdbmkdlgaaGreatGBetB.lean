/- Lemmas, merged out of smaller texts (wip/tools/merge.py). No condition. -/
import Derived.Test.YtgmbnbdbmkdlgaaGreatGBetA
import Derived.Test.YtgmbnbdbmkdlgaaGreatGLine
import Derived.Test.YtgmbnbdbmkdlgaaGreatGNat

section
/- lotteryref16.SameLines: two lists of the same lines. No condition. -/
open Go.RowKit
set_option linter.unusedVariables false
set_option linter.unusedSimpArgs false
namespace Go.Proofs.YtgmbnbdbmkdlgaaGreat

theorem same16_self (m1 b1 m2 b2 : Value) (a b : List Int) (w : World) (h1 : LineR w m1 b1 a b) (h2 : LineR w m2 b2 a b) :
    Calls Tryz.prog 22 #[lineVal m1 b1, lineVal m2 b2] w (BoolB true w) := by
  have := same16_any m1 b1 m2 b2 a b a b w h1 h2
  rwa [show decide (a = a ∧ b = b) = true by simp] at this

set_option maxHeartbeats 4000000 in
set_option maxRecDepth 100000 in
/-- Two lists of the same lines. -/
theorem lines16_self (va vb : Value) (ls : List LineD) (w : World) (ha : LinesR w va ls) (hb : LinesR w vb ls) : Calls Tryz.prog 12 #[va, vb] w (BoolB true w) := by
  obtain ⟨n, hn⟩ : ∃ n, n = ls.length := ⟨_, rfl⟩
  obtain ⟨a1, c1, rfl, hc1, hm1⟩ := ha.shape
  obtain ⟨a2, c2, rfl, hc2, hm2⟩ := hb.shape
  rw [← hn] at ha hb hc1 hc2 ⊢
  unfold maxLen at hm1 hm2
  have hn9 : n ≤ 9223372036854775807 := by omega
  have hha := hide ha
  have hhb := hide hb
  replace hn := hide hn
  clear ha hb
  go_enter Tryz.func12, Tryz.ntmps12
  go_wp2
  go_loopg [5] n (fun gh t wr => ∃ k : Nat, gh = n - k ∧ k ≤ n ∧ t = .int .i64 (k : Int) ∧ Below w.heap.size w wr)
  case atStart => exact ⟨0, rfl, Nat.zero_le _, rfl, Below.refl _ _⟩
  case round =>
    obtain ⟨k, hgh, hk, rfl, hB⟩ := hrel
    replace hgh := hide hgh
    by_cases hlt : k < n
    · have hlt2 := hide hlt
      have hlk : k < ls.length := by rw [← hn.out]; exact hlt
      obtain ⟨b1, off1, p1, q1, rfl, hb1, x1, y1, l1⟩ := (hha.out.below hB).at_ hlk
      obtain ⟨b2, off2, p2, q2, rfl, hb2, x2, y2, l2⟩ := (hhb.out.below hB).at_ hlk
      have g1 : wr.rangeAt b1 (off1 + k * 2) [p1, q1] := by
        intro j v hv
        match j, hv with
        | 0, hv => simp at hv; subst hv; exact x1
        | 1, hv => simp at hv; subst hv; exact y1
      have g2 : wr.rangeAt b2 (off2 + k * 2) [p2, q2] := by
        intro j v hv
        match j, hv with
        | 0, hv => simp at hv; subst hv; exact x2
        | 1, hv => simp at hv; subst hv; exact y2
      have cS := hide (same16_self p1 q1 p2 q2 ls[k].1 ls[k].2 wr.drew l1 l2)
      unfold lineVal at cS
      have j1 : (0 : Int) ≤ (k : Int) := by omega
      have j2 : (k : Int) < (n : Int) := by omega
      clear l1 l2 x1 x2 y1 y2
      go_upto_region 6 with (fail)
      refine wp_region_held_drew (S := fun X => X.rangeAt b1 (off1 + k * 2) [p1, q1] ∧ X.rangeAt b2 (off2 + k * 2) [p2, q2]) (by kernel_rfl) (⟨g1, g2⟩) (fun hHeld => ?_)
      refine' wpAnyH_take (i := 0) (oi := _) (v := .slice (some ⟨b1, off1, none⟩) n c1) rfl (by kernel_rfl) (by kernel_rfl) (by kernel_rfl) (fun _ _ _ h => h) (Or.inl ⟨by rfl, fun X _ => by go_simp⟩) hHeld ?_
      try simp only [Act.put, List.setIfInBounds_toArray, List.set_cons_zero, List.set_cons_succ]
      refine' wpAnyH_take (i := 1) (oi := _) (v := .int .i64 (k : Int)) rfl (by kernel_rfl) (by kernel_rfl) (by kernel_rfl) (fun _ _ _ h => h) (Or.inl ⟨by rfl, fun X _ => by go_simp⟩) hHeld ?_
      try simp only [Act.put, List.setIfInBounds_toArray, List.set_cons_zero, List.set_cons_succ]
      refine' wpAnyH_take (i := 2) (oi := _) (v := .pointer (some ⟨b1, off1 + k * 2, none⟩)) rfl (by kernel_rfl) (by kernel_rfl) (by kernel_rfl) (fun _ _ _ h => h) (Or.inl ⟨by rfl, fun X _ => by go_simp⟩) hHeld ?_
      try simp only [Act.put, List.setIfInBounds_toArray, List.set_cons_zero, List.set_cons_succ]
      refine' wpAnyH_take (i := 3) (oi := _) (v := _) rfl (by kernel_rfl) (by kernel_rfl) (by kernel_rfl) (fun _ _ _ h => h) (yieldsIf_load_mid (by first | (go_simp; done) | rfl) 43 _ rfl _ _ rfl ([p1, q1]) _ (fun X h => h.1) Tryz.underlying43 rfl (by kernel_rfl)) hHeld ?_
      try simp only [Act.put, List.setIfInBounds_toArray, List.set_cons_zero, List.set_cons_succ]
      refine' wpAnyH_take (i := 4) (oi := _) (v := .slice (some ⟨b2, off2, none⟩) n c2) rfl (by kernel_rfl) (by kernel_rfl) (by kernel_rfl) (fun _ _ _ h => h) (Or.inl ⟨by rfl, fun X _ => by go_simp⟩) hHeld ?_
      try simp only [Act.put, List.setIfInBounds_toArray, List.set_cons_zero, List.set_cons_succ]
      refine' wpAnyH_take (i := 5) (oi := _) (v := .int .i64 (k : Int)) rfl (by kernel_rfl) (by kernel_rfl) (by kernel_rfl) (fun _ _ _ h => h) (Or.inl ⟨by rfl, fun X _ => by go_simp⟩) hHeld ?_
      try simp only [Act.put, List.setIfInBounds_toArray, List.set_cons_zero, List.set_cons_succ]
      refine' wpAnyH_take (i := 6) (oi := _) (v := .pointer (some ⟨b2, off2 + k * 2, none⟩)) rfl (by kernel_rfl) (by kernel_rfl) (by kernel_rfl) (fun _ _ _ h => h) (Or.inl ⟨by rfl, fun X _ => by go_simp⟩) hHeld ?_
      try simp only [Act.put, List.setIfInBounds_toArray, List.set_cons_zero, List.set_cons_succ]
      refine' wpAnyH_take (i := 7) (oi := _) (v := _) rfl (by kernel_rfl) (by kernel_rfl) (by kernel_rfl) (fun _ _ _ h => h) (yieldsIf_load_mid (by first | (go_simp; done) | rfl) 43 _ rfl _ _ rfl ([p2, q2]) _ (fun X h => h.2) Tryz.underlying43 rfl (by kernel_rfl)) hHeld ?_
      try simp only [Act.put, List.setIfInBounds_toArray, List.set_cons_zero, List.set_cons_succ]
      refine wpAnyH_ready (rs := [8]) (by kernel_rfl) (by simp) ?_
      refine AllReadyH.cons (o := _) rfl (fun K hK => ?_) AllReadyH.nil
      go_simp
      refine (cS.out).mono ?_
      rintro e w3 ⟨rfl, hb3⟩
      go_wp2_with fail
      refine hK.out _ _ (⟨rangeAt_keep15 hHeld.1 hb3, rangeAt_keep15 hHeld.2 hb3⟩) (fun hHeld => ?_)
      clear hK K
      try simp only [Act.put, List.setIfInBounds_toArray, List.set_cons_zero, List.set_cons_succ]
      refine' wpAnyH_take (i := 9) (oi := _) (v := .bool false) rfl (by kernel_rfl) (by kernel_rfl) (by kernel_rfl) (fun _ _ _ h => h) (Or.inl ⟨by rfl, fun X _ => by go_simp⟩) hHeld ?_
      try simp only [Act.put, List.setIfInBounds_toArray, List.set_cons_zero, List.set_cons_succ]
      refine wpAnyH_done (by kernel_rfl) ?_ _
      go_simp
      go_wp2
      go_roundg (n - (k + 1))
      case measure => have := hgh.out; have := hlt2.out; omega
      case rel => exact ⟨k + 1, rfl, by have := hlt2.out; omega, by go_num, Bel.to (Bel.to hB (Below.drew (Below.refl _ _))) hb3⟩
    · have hkn : k = n := by omega
      go_wp2
      go_ret
      exact ⟨rfl, hB⟩

end Go.Proofs.YtgmbnbdbmkdlgaaGreat
end

section
/- lotterylaw16.Example, line: the game of the examples; what the bets of awake yield. No condition. -/
open Go.RowKit
set_option linter.unusedVariables false
set_option linter.unusedSimpArgs false
namespace Go.Proofs.YtgmbnbdbmkdlgaaGreat

def exA1 : AddonD := ⟨⟨#[102]⟩, 1, 30, [2], 0, []⟩
def exA2 : AddonD := ⟨⟨#[115]⟩, 2, 50, [], 1, [10]⟩
def exG : GameD := ⟨⟨#[97]⟩, 1, 100, 2, 5, 0, 0, 0, 4, 4, 1, 0, 0, 0, 1, 0, 0, 1, 0, 0, [exA1, exA2], [⟨2, 0, 0, 0, 1, 0⟩]⟩

theorem ex_game : gameE exG = 0 := by decide
theorem ex_l12 : lineE exG [1, 2] [] = 0 := by unfold lineE dupB; decide
theorem ex_l53 : lineE exG [5, 3] [] = 0 := by unfold lineE dupB; decide
theorem ex_l21 : lineE exG [2, 1] [] = 0 := by unfold lineE dupB; decide
theorem ex_s12 : sortI [1, 2] = [1, 2] := (sortI_eq (by decide) (by decide)).symm
theorem ex_s21 : sortI [2, 1] = [1, 2] := (sortI_eq (by decide) (by decide)).symm
theorem ex_s53 : sortI [5, 3] = [3, 5] := (sortI_eq (by decide) (by decide)).symm
theorem ex_sys : sysE exG [1, 2, 3] [] = 0 := by unfold sysE dupB; decide
theorem ex_c32 : choose 3 2 = 3 := by rw [choose_fast]; decide

theorem ex_f12 : formG exG ([1, 2], []) = ([1, 2], []) := by unfold formG; rw [if_neg (by decide)]; simp only [ex_s12, sortI_nil]
theorem ex_f21 : formG exG ([2, 1], []) = ([1, 2], []) := by unfold formG; rw [if_neg (by decide)]; simp only [ex_s21, sortI_nil]
theorem ex_f53 : formG exG ([5, 3], []) = ([3, 5], []) := by unfold formG; rw [if_neg (by decide)]; simp only [ex_s53, sortI_nil]

def exB1 : BetD := ⟨[([1, 2], []), ([5, 3], [])], false, 3, 3⟩
def exB2 : BetD := ⟨[([1, 2, 3], [])], true, 1, 0⟩
def exB3 : BetD := ⟨[], false, 1, 0⟩
def exB4 : BetD := ⟨[([1, 2], []), ([2, 1], [])], false, 9, 0⟩
def exB5 : BetD := ⟨[([1, 2], [])], false, 1, 4⟩

theorem ex_scan1 : scanB exG false [([1, 2], []), ([5, 3], [])] [] 0 = (2, 0) := by
  rw [scanB, if_neg (by show ¬ lineE exG [1, 2] [] ≠ 0; rw [ex_l12]; simp), if_neg (by simp), ex_f12, scanB, if_neg (by show ¬ lineE exG [5, 3] [] ≠ 0; rw [ex_l53]; simp), ex_f53, if_neg (by decide), scanB]
  rfl
theorem ex_scan4 : scanB exG false [([1, 2], []), ([2, 1], [])] [] 0 = (0, 6) := by
  rw [scanB, if_neg (by show ¬ lineE exG [1, 2] [] ≠ 0; rw [ex_l12]; simp), if_neg (by simp), ex_f12, scanB, if_neg (by show ¬ lineE exG [2, 1] [] ≠ 0; rw [ex_l21]; simp), ex_f21, if_pos (by decide)]
theorem ex_scan5 : scanB exG false [([1, 2], [])] [] 0 = (1, 0) := by
  rw [scanB, if_neg (by show ¬ lineE exG [1, 2] [] ≠ 0; rw [ex_l12]; simp), if_neg (by simp), scanB]
  rfl
theorem ex_size2 : sizeB exG true ([1, 2, 3], []) = (3, 0) := by
  show sysP exG [1, 2, 3] [] = (3, 0)
  unfold sysP
  rw [if_pos ex_sys]
  show (((choose 3 2 : Nat) : Int), 0) = ((3 : Int), (0 : Int))
  rw [ex_c32]
  rfl
theorem ex_scan2 : scanB exG true [([1, 2, 3], [])] [] 0 = (3, 0) := by
  rw [scanB, ex_size2, if_neg (by simp), if_neg (by simp), scanB]
  rfl

theorem ex_bet1 : betP exG exB1 = (2, 0) := by
  rw [betP_tail ex_game (by decide) (by decide)]
  show tailB exG exB1 (scanB exG false [([1, 2], []), ([5, 3], [])] [] 0) = _
  rw [ex_scan1]; decide
theorem ex_bet2 : betP exG exB2 = (3, 0) := by
  rw [betP_tail ex_game (by decide) (by decide)]
  show tailB exG exB2 (scanB exG true [([1, 2, 3], [])] [] 0) = _
  rw [ex_scan2]; decide
theorem ex_bet3 : betP exG exB3 = (0, 3) := by
  unfold betP
  rw [if_neg (by rw [ex_game]; simp), if_pos (by decide)]
theorem ex_bet4 : betP exG exB4 = (0, 6) := by
  rw [betP_tail ex_game (by decide) (by decide)]
  show tailB exG exB4 (scanB exG false [([1, 2], []), ([2, 1], [])] [] 0) = _
  rw [ex_scan4]; decide
theorem ex_bet5 : betP exG exB5 = (0, 2) := by
  rw [betP_tail ex_game (by decide) (by decide)]
  show tailB exG exB5 (scanB exG false [([1, 2], [])] [] 0) = _
  rw [ex_scan5]; decide
theorem ex_lines1 : linesP16 exG exB1 = ([([1, 2], []), ([3, 5], [])], 0) := by
  unfold linesP16
  rw [ex_bet1, if_pos rfl]
  show ([formG exG ([1, 2], []), formG exG ([5, 3], [])], (0 : Int)) = _
  rw [ex_f12, ex_f53]
theorem ex_stake1 : stakeP exG exB1 = (200, 110, 0) := by
  unfold stakeP
  rw [ex_bet1, if_pos rfl]
  decide
theorem ex_price1 : priceP exG exB1 = (930, 0) := by
  unfold priceP
  rw [ex_bet1, ex_stake1, if_pos rfl]
  decide
theorem ex_price2 : priceP exG exB2 = (300, 0) := by
  unfold priceP stakeP
  rw [ex_bet2, if_pos rfl, if_pos rfl]
  decide

set_option maxRecDepth 100000 in
theorem line16_any (v : Value) (a : List Int) (w : World) (h : Rd I64 w v a) :
    Calls Tryz.prog 18 #[v] w (fun e w' => e = .returned (lineVal v (.slice none 0 0)) ∧ Below w.heap.size w w') := by
  obtain ⟨a1, n1, k1, rfl⟩ := Rd.shape h
  clear h
  go_enter Tryz.func18, Tryz.ntmps18
  go_upto_region 1 with (fail)
  obtain ⟨W, hW⟩ : ∃ W, W = (w.alloc (Obj.cells #[(.slice none 0 0), (.slice none 0 0)] 43)) := ⟨_, rfl⟩
  have bW : Below w.heap.size w W := by rw [hW]; exact Bel.al (Below.refl _ _) _
  have r0 : LineAt W (w.heap.size) ((.slice none 0 0)) ((.slice none 0 0)) := by rw [hW]; exact Row.new _ _ _
  have sW : w.heap.size < W.heap.size := by rw [hW]; simp
  rw [← hW]
  clear hW
  have x0 := LineAt.main r0
  have x1 := LineAt.bonus r0
  have x2 := Row.frozen r0 0
  have x3 := Row.frozen r0 1
  have rL : LineAt ((W.setCell ⟨w.heap.size, 0, none⟩ (.slice a1 n1 k1)).setCell ⟨w.heap.size, 1, none⟩ (.slice none 0 0)) w.heap.size (.slice a1 n1 k1) (.slice none 0 0) := LineAt.store r0 _ _
  have y0 := hide rL.main
  have y1 := hide rL.bonus
  have B9 := Bel.st (Bel.st bW (p := ⟨w.heap.size, 0, none⟩) (Nat.le_refl _) (.slice a1 n1 k1)) (p := ⟨w.heap.size, 1, none⟩) (Nat.le_refl _) (.slice none 0 0)
  clear rL
  go_wp2
  exact bodyPost_ret (v := .agg #[.slice a1 n1 k1, .slice none 0 0]) (by simp [results, Tryz.results18, go_sem, y0.out, y1.out]) rfl ⟨rfl, B9⟩

set_option maxRecDepth 100000 in
theorem example16_any (w : World) : Calls Tryz.prog 17 #[] w (GameB exG w) := by
  go_enter Tryz.func17, Tryz.ntmps17
  go_upto_region 1 with (fail)
  obtain ⟨W, hW⟩ : ∃ W, W = (w.alloc (Obj.cells #[.string ⟨#[]⟩, .int .i64 0, .int .i64 0, .int .i64 0, .int .i64 0, .int .i64 0, .int .i64 0, .int .i64 0, .int .i64 0, .int .i64 0, .int .i64 0, .int .i64 0, .int .i64 0, .int .i64 0, .int .i64 0, .int .i64 0, .int .i64 0, .int .i64 0, .int .i64 0, .int .i64 0, .slice none 0 0, .slice none 0 0] 25)) := ⟨_, rfl⟩
  have bW : Below w.heap.size w W := by rw [hW]; exact Bel.al (Below.refl _ _) _
  have r0 : Row W ((w.heap.size)) 25 [.string ⟨#[]⟩, .int .i64 0, .int .i64 0, .int .i64 0, .int .i64 0, .int .i64 0, .int .i64 0, .int .i64 0, .int .i64 0, .int .i64 0, .int .i64 0, .int .i64 0, .int .i64 0, .int .i64 0, .int .i64 0, .int .i64 0, .int .i64 0, .int .i64 0, .int .i64 0, .int .i64 0, .slice none 0 0, .slice none 0 0] := by rw [hW]; exact Row.new _ _ _
  have sW : w.heap.size < W.heap.size := by rw [hW]; simp
  rw [← hW]
  clear hW
  go_wp2_with (first | (with_reducible refine wpList_store_whole rfl 25 _ _ rfl w.heap.size _ rfl rfl 25 _ (Row.alloc (Row.alloc (Row.alloc (Row.alloc r0 _) _) _) _) ?_ ?_ ?_ ?_) | fail)
  case refine_1 => kernel_rfl
  case refine_2 => rfl
  case refine_3 => simp [Value.oneCell']
  intro W2 hrow hgr
  have e1 : W.heap.size + 1 = (W.alloc (Obj.cells #[.int .i64 2] 3)).heap.size := by simp
  obtain ⟨Wa, hWa⟩ : ∃ Wa, Wa = W.alloc (Obj.cells #[.int .i64 2] 3) := ⟨_, rfl⟩
  have rf : Row Wa W.heap.size 3 (([2] : List Int).map I64) := by rw [hWa]; exact Row.newOf _ rfl
  have ba : Below W.heap.size W Wa := by rw [hWa]; exact Bel.al (Below.refl _ _) _
  rw [← hWa] at hgr e1
  obtain ⟨Wb, hWb⟩ : ∃ Wb, Wb = Wa.alloc (Obj.cells #[.int .i64 10] 3) := ⟨_, rfl⟩
  have rp : Row Wb Wa.heap.size 3 (([10] : List Int).map I64) := by rw [hWb]; exact Row.newOf _ rfl
  have bb : Below Wa.heap.size Wa Wb := by rw [hWb]; exact Bel.al (Below.refl _ _) _
  have e2 : W.heap.size + 1 + 1 = Wb.heap.size := by rw [hWb, e1]; simp
  rw [← hWb] at hgr
  obtain ⟨m1, hm1⟩ : ∃ m1 : AddonM, m1 = ⟨exA1, .slice (some ⟨W.heap.size, 0, none⟩) 1 1, .slice none 0 0⟩ := ⟨_, rfl⟩
  obtain ⟨m2, hm2⟩ : ∃ m2 : AddonM, m2 = ⟨exA2, .slice none 0 0, .slice (some ⟨W.heap.size + 1, 0, none⟩) 1 1⟩ := ⟨_, rfl⟩
  obtain ⟨Wc, hWc⟩ : ∃ Wc, Wc = Wb.alloc (Obj.cells #[.string ⟨#[102]⟩, .int .i64 1, .int .i64 30, .slice (some ⟨W.heap.size, 0, none⟩) 1 1, .int .i64 0, .slice none 0 0, .string ⟨#[115]⟩, .int .i64 2, .int .i64 50, .slice none 0 0, .int .i64 1, .slice (some ⟨W.heap.size + 1, 0, none⟩) 1 1] 54) := ⟨_, rfl⟩
  have ra : Row Wc Wb.heap.size 54 (AddonM.cells m1 ++ AddonM.cells m2) := by rw [hWc, hm1, hm2]; exact Row.newOf _ rfl
  have bc : Below Wb.heap.size Wb Wc := by rw [hWc]; exact Bel.al (Below.refl _ _) _
  have e3 : W.heap.size + 1 + 1 + 1 = Wc.heap.size := by rw [hWc, e2]; simp
  rw [← hWc] at hgr
  obtain ⟨Wd, hWd⟩ : ∃ Wd, Wd = Wc.alloc (Obj.cells #[.int .i64 2, .int .i64 0, .int .i64 0, .int .i64 0, .int .i64 1, .int .i64 0] 56) := ⟨_, rfl⟩
  have rt : Row Wd Wc.heap.size 56 (tierCells ⟨2, 0, 0, 0, 1, 0⟩) := by rw [hWd]; exact Row.newOf _ rfl
  have bd : Below Wc.heap.size Wc Wd := by rw [hWd]; exact Bel.al (Below.refl _ _) _
  rw [← hWd] at hgr
  clear hWa hWb hWc hWd
  have bcd := Bel.to bc bd
  have bbd := Bel.to bb bcd
  have bad := Bel.to ba bbd
  have hne : ∀ k, W.heap.size ≤ k → some k ≠ some w.heap.size := by intro k hk e; injection e with e; omega
  have rf2 : Row W2 W.heap.size 3 (([2] : List Int).map I64) := Row.grown (Row.keep rf bbd) hgr (hne _ (Nat.le_refl _))
  have rp2 : Row W2 Wa.heap.size 3 (([10] : List Int).map I64) := Row.grown (Row.keep rp bcd) hgr (hne _ (by omega))
  have ra2 : Row W2 Wb.heap.size 54 (AddonM.cells m1 ++ AddonM.cells m2) := Row.grown (Row.keep ra bd) hgr (hne _ (by omega))
  have rt2 : Row W2 Wc.heap.size 56 (tierCells ⟨2, 0, 0, 0, 1, 0⟩) := Row.grown rt hgr (hne _ (by omega))
  have hw : Below w.heap.size w W2 := Below.grown (Bel.to bW bad) hgr (Bel.to bW bad).size (fun k hk => by injection hk with hk; omega)
  have hR1 : AddonR W2 m1 := by
    rw [hm1]
    exact ⟨Row.rdAll rf2 rfl (Nat.le_refl _) (by decide), Rd.nil⟩
  have hR2 : AddonR W2 m2 := by
    rw [hm2]
    refine ⟨Rd.nil, ?_⟩
    show Rd I64 W2 (.slice (some ⟨W.heap.size + 1, 0, none⟩) 1 1) [10]
    rw [e1]
    exact Row.rdAll rp2 rfl (Nat.le_refl _) (by decide)
  have hA : AddonsR W2 (.slice (some ⟨W.heap.size + 1 + 1, 0, none⟩) 2 2) [m1, m2] := by
    refine ⟨⟨_, 2, rfl, Nat.le_refl _, by decide, fun _ => ⟨W.heap.size + 1 + 1, 0, rfl, by rw [e2]; exact ra2.lt, fun i x hx j u hu => ?_⟩⟩, fun i m hm => ?_⟩
    · rw [e2, Nat.zero_add, ra2.cell?]
      have hj : j < 6 := (List.getElem?_eq_some_iff.1 hu).1
      match i, hx with
      | 0, hx =>
        simp at hx
        subst hx
        rw [Nat.zero_mul, Nat.zero_add, List.getElem?_append_left (by exact hj)]
        exact hu
      | 1, hx =>
        simp at hx
        subst hx
        rw [List.getElem?_append_right (by show 6 ≤ _; omega)]
        have : 1 * 6 + j - (AddonM.cells m1).length = j := by show 1 * 6 + j - 6 = j; omega
        rw [this]
        exact hu
    · match i, hm with
      | 0, hm => simp at hm; subst hm; exact hR1
      | 1, hm => simp at hm; subst hm; exact hR2
  have hG : GameR W2 (.slice (some ⟨W.heap.size + 1 + 1, 0, none⟩) 2 2) (.slice (some ⟨W.heap.size + 1 + 1 + 1, 0, none⟩) 1 1) [m1, m2] exG := by
    refine ⟨hA, by rw [hm1, hm2]; rfl, ?_⟩
    rw [e3]
    exact RdS.one rt2
  clear hA hR1 hR2 rf rp ra rt rf2 rp2 ra2 rt2 hm1 hm2 ba bb bc bd bcd bbd bad e1 e2 e3 hgr
  go_wp2
  exact bodyPost_ret (v := gameVal exG (.slice (some ⟨W.heap.size + 1 + 1, 0, none⟩) 2 2) (.slice (some ⟨W.heap.size + 1 + 1 + 1, 0, none⟩) 1 1)) (results_cell_row rfl _ _ w.heap.size 25 _ (0, 0) _ rfl hrow Tryz.underlying25 rfl (by kernel_rfl)) rfl ⟨_, _, _, rfl, hG, hw⟩
end Go.Proofs.YtgmbnbdbmkdlgaaGreat
end

section
/- lotterylaw16.awake: the examples hold. No condition. -/
open Go.RowKit
set_option linter.unusedVariables false
set_option linter.unusedSimpArgs false
namespace Go.Proofs.YtgmbnbdbmkdlgaaGreat

theorem lines_two {w : World} {b : Nat} {m1 b1 m2 b2 : Value} {x1 x2 : LineD} (h : Row w b 43 [m1, b1, m2, b2]) (h1 : LineR w m1 b1 x1.1 x1.2) (h2 : LineR w m2 b2 x2.1 x2.2) : LinesR w (.slice (some ⟨b, 0, none⟩) 2 2) [x1, x2] := by
  refine ⟨[(m1, b1), (m2, b2)], ⟨_, 2, rfl, Nat.le_refl _, by decide, fun _ => ⟨b, 0, rfl, h.lt, fun i x hx j u hu => ?_⟩⟩, rfl, fun i p x hp hx => ?_⟩
  · rw [Nat.zero_add, h.cell?]
    match i, hx with
    | 0, hx =>
      simp at hx
      subst hx
      match j, hu with
      | 0, hu => exact hu
      | 1, hu => exact hu
    | 1, hx =>
      simp at hx
      subst hx
      match j, hu with
      | 0, hu => exact hu
      | 1, hu => exact hu
  · match i, hp, hx with
    | 0, hp, hx => simp at hp hx; subst hp hx; exact h1
    | 1, hp, hx => simp at hp hx; subst hp hx; exact h2
theorem lines_one {w : World} {b : Nat} {m1 b1 : Value} {x1 : LineD} (h : Row w b 43 [m1, b1]) (h1 : LineR w m1 b1 x1.1 x1.2) : LinesR w (.slice (some ⟨b, 0, none⟩) 1 1) [x1] := by
  refine ⟨[(m1, b1)], ⟨_, 1, rfl, Nat.le_refl _, by decide, fun _ => ⟨b, 0, rfl, h.lt, fun i x hx j u hu => ?_⟩⟩, rfl, fun i p x hp hx => ?_⟩
  · rw [Nat.zero_add, h.cell?]
    match i, hx with
    | 0, hx =>
      simp at hx
      subst hx
      match j, hu with
      | 0, hu => exact hu
      | 1, hu => exact hu
  · match i, hp, hx with
    | 0, hp, hx => simp at hp hx; subst hp hx; exact h1

set_option maxHeartbeats 8000000 in
set_option maxRecDepth 100000 in
theorem awake16_any (w : World) : Calls Tryz.prog 7 #[] w (BoolB true w) := by
  go_enter Tryz.func7, Tryz.ntmps7
  go_wp2_with fail
  refine (example16_any _).mono ?_
  rintro e w1 ⟨av, tv, ms, rfl, gR, B⟩
  obtain ⟨aa, ac, rfl, hal, ham⟩ := gR.1.1.shape
  obtain ⟨ta, tc, rfl, htl, htm⟩ := gR.2.2.shape
  have e1 : exG.tiers.length = 1 := rfl
  have e2 : ms.length = 2 := by have h9 := congrArg List.length gR.2.1; rw [List.length_map] at h9; exact h9
  rw [e1, e2] at gR ⊢
  clear e1 htl htm hal ham
  go_upto_region 2 with (first | ((with_reducible refine wpList_store_game rfl _ _ rfl w1.heap.size _ _ _ rfl rfl ⟨_, _, _, rfl⟩ ⟨_, _, _, rfl⟩ _ (Row.new _ _ _) ?_ ?_); (rfl); intro A rA gA) | fail)
  have hbA : Below w1.heap.size w1 A := Below.grown (Bel.al (Below.refl _ _) _) gA (by simp) (fun k hk => by injection hk with hk; omega)
  clear gA
  replace gR := gR.below hbA
  replace B := Bel.to B hbA
  clear hbA
  obtain ⟨gb, hgb⟩ : ∃ gb, gb = w1.heap.size := ⟨_, rfl⟩
  rw [← hgb] at rA ⊢
  clear hgb
  obtain ⟨Y1, hY1⟩ : ∃ Y, Y = A.alloc (.cells #[.int .i64 1, .int .i64 2] 3) := ⟨_, rfl⟩
  have bY1 : Below A.heap.size A Y1 := by rw [hY1]; exact Bel.al (Below.refl _ _) _
  have nY1 : Rd I64 Y1 (.slice (some ⟨A.heap.size, 0, none⟩) 2 2) [1, 2] := by rw [hY1]; exact Rd.new [1, 2] rfl rfl (Nat.le_refl _) (by decide) rfl
  go_wp2_with fail
  rw [← hY1]
  clear hY1
  replace rA := rA.keep bY1
  replace gR := gR.below bY1
  replace B := Bel.to B bY1
  refine (line16_any _ [1, 2] _ nY1).mono ?_
  rintro e w2 ⟨rfl, hb⟩
  replace rA := rA.keep hb
  replace gR := gR.below hb
  replace B := Bel.to B hb
  replace nY1 := nY1.below hb
  clear hb
  obtain ⟨Y2, hY2⟩ : ∃ Y, Y = w2.alloc (.cells #[.int .i64 5, .int .i64 3] 3) := ⟨_, rfl⟩
  have bY2 : Below w2.heap.size w2 Y2 := by rw [hY2]; exact Bel.al (Below.refl _ _) _
  have nY2 : Rd I64 Y2 (.slice (some ⟨w2.heap.size, 0, none⟩) 2 2) [5, 3] := by rw [hY2]; exact Rd.new [5, 3] rfl rfl (Nat.le_refl _) (by decide) rfl
  unfold lineVal
  go_wp2_with fail
  rw [← hY2]
  clear hY2
  replace rA := rA.keep bY2
  replace gR := gR.below bY2
  replace B := Bel.to B bY2
  replace nY1 := nY1.below bY2
  refine (line16_any _ [5, 3] _ nY2).mono ?_
  rintro e w3 ⟨rfl, hb⟩
  replace rA := rA.keep hb
  replace gR := gR.below hb
  replace B := Bel.to B hb
  replace nY1 := nY1.below hb
  replace nY2 := nY2.below hb
  clear hb
  unfold lineVal
  go_upto_region 3 with (fail)
  obtain ⟨W4, hW4⟩ : ∃ W4, W4 = w3.alloc (.cells #[.slice (some ⟨A.heap.size, 0, none⟩) 2 2, .slice none 0 0, .slice (some ⟨w2.heap.size, 0, none⟩) 2 2, .slice none 0 0] 43) := ⟨_, rfl⟩
  have rl : Row W4 w3.heap.size 43 [.slice (some ⟨A.heap.size, 0, none⟩) 2 2, .slice none 0 0, .slice (some ⟨w2.heap.size, 0, none⟩) 2 2, .slice none 0 0] := by rw [hW4]; exact Row.newOf _ rfl
  have b4 : Below w3.heap.size w3 W4 := by rw [hW4]; exact Bel.al (Below.refl _ _) _
  rw [← hW4]
  have z4 : W4.heap.size = w3.heap.size + 1 := by rw [hW4]; simp
  clear hW4
  first | rw [← z4] | skip
  have hL : LinesR W4 (.slice (some ⟨w3.heap.size, 0, none⟩) 2 2) [([1, 2], []), ([5, 3], [])] := lines_two rl ⟨nY1.below b4, Rd.nil⟩ ⟨nY2.below b4, Rd.nil⟩
  obtain ⟨W5, hW5⟩ : ∃ W5, W5 = W4.alloc (.cells #[.slice (some ⟨w3.heap.size, 0, none⟩) 2 2, .bool false, .int .i64 3, .int .i64 3] 28) := ⟨_, rfl⟩
  have rB : Row W5 W4.heap.size 28 [.slice (some ⟨w3.heap.size, 0, none⟩) 2 2, .bool false, .int .i64 3, .int .i64 3] := by rw [hW5]; exact Row.newOf _ rfl
  have b5 : Below W4.heap.size W4 W5 := by rw [hW5]; exact Bel.al (Below.refl _ _) _
  rw [← hW5]
  clear hW5
  replace rA := rA.keep b4
  replace gR := gR.below b4
  replace B := Bel.to B b4
  replace rA := rA.keep b5
  replace gR := gR.below b5
  replace B := Bel.to B b5
  replace hL := hL.below b5
  clear b4 b5 z4 rl nY1 nY2
  obtain ⟨tb, htb⟩ : ∃ tb, tb = W4.heap.size := ⟨_, rfl⟩
  rw [← htb] at rB ⊢
  clear htb
  obtain ⟨lo, hlo⟩ : ∃ lo, lo = some (⟨w3.heap.size, 0, none⟩ : Addr) := ⟨_, rfl⟩
  rw [← hlo] at rB hL ⊢
  clear hlo
  have cL := hide (blines_own exG (.slice aa 2 ac) (.slice ta 1 tc) (.slice lo 2 2) ms exB1 _ gR hL)
  rw [ex_lines1] at cL
  unfold gameVal betVal at cL
  unfold gameVal
  go_wp2_with (first | (refine wpList_load_row rfl 25 _ rfl _ rfl _ _ _ _ rA Tryz.underlying25 rfl (by kernel_rfl) ?_) | (refine wpList_load_row rfl 28 _ rfl _ rfl _ _ _ _ rB Tryz.underlying28 rfl (by kernel_rfl) ?_) | fail)
  refine cL.out.mono ?_
  rintro e w6 ⟨u, rfl, hu, hb⟩
  replace rA := rA.keep hb
  replace gR := gR.below hb
  replace B := Bel.to B hb
  replace rB := Row.keep rB hb
  replace hL := hL.below hb
  obtain ⟨ua, uc, rfl⟩ := hu.shape
  have hU := hu.rd
  clear cL hb hu
  have cS := hide (bstake_any exG (.slice aa 2 ac) (.slice ta 1 tc) (.slice lo 2 2) ms exB1 _ gR hL)
  rw [ex_stake1, ex_bet1] at cS
  unfold gameVal betVal at cS
  go_wp2_with (first | (refine wpList_load_row rfl 25 _ rfl _ rfl _ _ _ _ rA Tryz.underlying25 rfl (by kernel_rfl) ?_) | (refine wpList_load_row rfl 28 _ rfl _ rfl _ _ _ _ rB Tryz.underlying28 rfl (by kernel_rfl) ?_) | fail)
  refine cS.out.mono ?_
  rintro e w7 ⟨rfl, hb⟩
  replace rA := rA.keep hb
  replace gR := gR.below hb
  replace B := Bel.to B hb
  replace rB := Row.keep rB hb
  replace hL := hL.below hb
  replace hU := hU.below hb
  clear cS hb
  have cP := hide (bprice_any exG (.slice aa 2 ac) (.slice ta 1 tc) (.slice lo 2 2) ms exB1 _ gR hL)
  rw [ex_price1] at cP
  unfold gameVal betVal at cP
  go_wp2_with (first | (refine wpList_load_row rfl 25 _ rfl _ rfl _ _ _ _ rA Tryz.underlying25 rfl (by kernel_rfl) ?_) | (refine wpList_load_row rfl 28 _ rfl _ rfl _ _ _ _ rB Tryz.underlying28 rfl (by kernel_rfl) ?_) | fail)
  refine cP.out.mono ?_
  rintro e w8 ⟨rfl, hb⟩
  replace rA := rA.keep hb
  replace gR := gR.below hb
  replace B := Bel.to B hb
  replace rB := Row.keep rB hb
  replace hL := hL.below hb
  replace hU := hU.below hb
  clear cP hb rB hL
  go_upto_region 6 with (fail)
  refine wp_region_held_drew (S := fun X => Rng X [(gb, gameCells exG (.slice aa 2 ac) (.slice ta 1 tc))]) (by kernel_rfl) (Rng.cons rA (Rng.nil _)) (fun hHeld => ?_)
  refine' wpAnyH_take (i := 0) (oi := _) (v := _) rfl (by kernel_rfl) (by kernel_rfl) (by kernel_rfl) (fun _ _ _ h => h) (yieldsIf_load_mid (by first | (go_simp; done) | rfl) 25 _ rfl _ _ rfl (gameCells exG (.slice aa 2 ac) (.slice ta 1 tc)) _ (fun X h => Rng.at0 h) Tryz.underlying25 rfl (by kernel_rfl)) hHeld ?_
  try simp only [Act.put, List.setIfInBounds_toArray, List.set_cons_zero, List.set_cons_succ]
  refine wpAnyH_ready (rs := [1]) (by kernel_rfl) (by simp) ?_
  refine AllReadyH.cons (o := _) rfl (fun K hK => ?_) AllReadyH.nil
  go_simp
  obtain ⟨Y3, hY3⟩ : ∃ Y, Y = w8.drew.alloc (.cells #[.int .i64 1, .int .i64 2, .int .i64 3] 3) := ⟨_, rfl⟩
  have bY30 : Below w8.drew.heap.size w8.drew Y3 := by rw [hY3]; exact Bel.al (Below.refl _ _) _
  have bY3 : Below w8.heap.size w8 Y3 := Bel.to (Below.drewSelf w8) bY30
  have nY3 : Rd I64 Y3 (.slice (some ⟨w8.heap.size, 0, none⟩) 3 3) [1, 2, 3] := by rw [hY3]; exact Rd.new [1, 2, 3] rfl rfl (Nat.le_refl _) (by decide) rfl
  first | rw [← hY3] | (have hZ2 : Y3 = (w8.alloc (.cells #[.int .i64 1, .int .i64 2, .int .i64 3] 3)).drew := hY3; rw [← hZ2]; clear hZ2)
  clear hY3
  refine hK.out _ _ (hHeld.keep bY30) (fun hHeld => ?_)
  clear hK K
  try simp only [Act.put, List.setIfInBounds_toArray, List.set_cons_zero, List.set_cons_succ]
  replace rA := rA.keep bY3
  replace gR := gR.below bY3
  replace B := Bel.to B bY3
  replace hU := hU.below bY3
  refine wpAnyH_ready (rs := [2]) (by kernel_rfl) (by simp) ?_
  refine AllReadyH.cons (o := _) rfl (fun K hK => ?_) AllReadyH.nil
  go_simp
  refine (line16_any _ [1, 2, 3] _ nY3).mono ?_
  rintro e w9 ⟨rfl, hb9⟩
  go_wp2_with fail
  refine hK.out _ _ (hHeld.keep hb9) (fun hHeld => ?_)
  clear hK K
  try simp only [Act.put, List.setIfInBounds_toArray, List.set_cons_zero, List.set_cons_succ]
  replace rA := rA.keep hb9
  replace gR := gR.below hb9
  replace B := Bel.to B hb9
  replace hU := hU.below hb9
  replace nY3 := nY3.below hb9
  unfold lineVal
  refine wpAnyH_ready (rs := [3]) (by kernel_rfl) (by simp) ?_
  refine AllReadyH.cons (o := _) rfl (fun K hK => ?_) AllReadyH.nil
  go_simp
  obtain ⟨Y4, hY4⟩ : ∃ Y, Y = w9.alloc (.cells #[.slice (some ⟨w8.heap.size, 0, none⟩) 3 3, .slice none 0 0] 43) := ⟨_, rfl⟩
  have bY40 : Below w9.heap.size w9 Y4 := by rw [hY4]; exact Bel.al (Below.refl _ _) _
  have bY4 : Below w9.heap.size w9 Y4 := bY40
  have rl : Row Y4 w9.heap.size 43 [.slice (some ⟨w8.heap.size, 0, none⟩) 3 3, .slice none 0 0] := by rw [hY4]; exact Row.newOf _ rfl
  have hL2 : LinesR Y4 (.slice (some ⟨w9.heap.size, 0, none⟩) 1 1) [([1, 2, 3], [])] := lines_one rl ⟨nY3.below bY4, Rd.nil⟩
  rw [← hY4]
  clear hY4
  refine hK.out _ _ (hHeld.keep bY40) (fun hHeld => ?_)
  clear hK K
  try simp only [Act.put, List.setIfInBounds_toArray, List.set_cons_zero, List.set_cons_succ]
  replace rA := rA.keep bY4
  replace gR := gR.below bY4
  replace B := Bel.to B bY4
  replace hU := hU.below bY4
  refine' wpAnyH_take (i := 4) (oi := _) (v := .agg #[.slice (some ⟨w9.heap.size, 0, none⟩) 1 1, .bool true, .int .i64 1, .int .i64 0]) rfl (by kernel_rfl) (by kernel_rfl) (by kernel_rfl) (fun _ _ _ h => h) (Or.inl ⟨by first | (go_simp; done) | rfl, fun X _ => by go_simp⟩) hHeld ?_
  try simp only [Act.put, List.setIfInBounds_toArray, List.set_cons_zero, List.set_cons_succ]
  have cP := hide (bprice_any exG (.slice aa 2 ac) (.slice ta 1 tc) (.slice (some ⟨w9.heap.size, 0, none⟩) 1 1) ms exB2 _ gR hL2)
  rw [ex_price2] at cP
  unfold gameVal betVal at cP
  refine wpAnyH_ready (rs := [5]) (by kernel_rfl) (by simp) ?_
  refine AllReadyH.cons (o := _) rfl (fun K hK => ?_) AllReadyH.nil
  go_simp
  refine (cP.out).mono ?_
  rintro e w10 ⟨rfl, hb10⟩
  go_wp2_with fail
  refine hK.out _ _ (hHeld.keep hb10) (fun hHeld => ?_)
  clear hK K
  try simp only [Act.put, List.setIfInBounds_toArray, List.set_cons_zero, List.set_cons_succ]
  replace rA := rA.keep hb10
  replace gR := gR.below hb10
  replace B := Bel.to B hb10
  replace hU := hU.below hb10
  refine' wpAnyH_take (i := 6) (oi := _) (v := .tuple #[.int .i64 300, .int .i64 0]) rfl (by kernel_rfl) (by kernel_rfl) (by kernel_rfl) (fun _ _ _ h => h) (Or.inl ⟨by first | (go_simp; done) | rfl, fun X _ => by go_simp⟩) hHeld ?_
  try simp only [Act.put, List.setIfInBounds_toArray, List.set_cons_zero, List.set_cons_succ]
  refine' wpAnyH_take (i := 7) (oi := _) (v := .int .i64 300) rfl (by kernel_rfl) (by kernel_rfl) (by kernel_rfl) (fun _ _ _ h => h) (Or.inl ⟨by first | (go_simp; done) | rfl, fun X _ => by go_simp⟩) hHeld ?_
  try simp only [Act.put, List.setIfInBounds_toArray, List.set_cons_zero, List.set_cons_succ]
  refine' wpAnyH_take (i := 8) (oi := _) (v := .int .i64 0) rfl (by kernel_rfl) (by kernel_rfl) (by kernel_rfl) (fun _ _ _ h => h) (Or.inl ⟨by first | (go_simp; done) | rfl, fun X _ => by go_simp⟩) hHeld ?_
  try simp only [Act.put, List.setIfInBounds_toArray, List.set_cons_zero, List.set_cons_succ]
  refine' wpAnyH_take (i := 9) (oi := _) (v := .int .i64 300) rfl (by kernel_rfl) (by kernel_rfl) (by kernel_rfl) (fun _ _ _ h => h) (Or.inl ⟨by first | (go_simp; done) | rfl, fun X _ => by go_simp⟩) hHeld ?_
  try simp only [Act.put, List.setIfInBounds_toArray, List.set_cons_zero, List.set_cons_succ]
  refine' wpAnyH_take (i := 10) (oi := _) (v := .int .i64 0) rfl (by kernel_rfl) (by kernel_rfl) (by kernel_rfl) (fun _ _ _ h => h) (Or.inl ⟨by first | (go_simp; done) | rfl, fun X _ => by go_simp⟩) hHeld ?_
  try simp only [Act.put, List.setIfInBounds_toArray, List.set_cons_zero, List.set_cons_succ]
  refine wpAnyH_done (by kernel_rfl) ?_ _
  go_simp
  clear cP hL2 rl nY3 hHeld bY3 bY30 hb9 bY4 bY40 hb10
  obtain ⟨Y5, hY5⟩ : ∃ Y, Y = w10.alloc (.cells #[.int .i64 1, .int .i64 2] 3) := ⟨_, rfl⟩
  have bY5 : Below w10.heap.size w10 Y5 := by rw [hY5]; exact Bel.al (Below.refl _ _) _
  have nY5 : Rd I64 Y5 (.slice (some ⟨w10.heap.size, 0, none⟩) 2 2) [1, 2] := by rw [hY5]; exact Rd.new [1, 2] rfl rfl (Nat.le_refl _) (by decide) rfl
  go_wp2_with fail
  rw [← hY5]
  clear hY5
  replace rA := rA.keep bY5
  replace gR := gR.below bY5
  replace B := Bel.to B bY5
  replace hU := hU.below bY5
  refine (line16_any _ [1, 2] _ nY5).mono ?_
  rintro e w11 ⟨rfl, hb⟩
  replace rA := rA.keep hb
  replace gR := gR.below hb
  replace B := Bel.to B hb
  replace hU := hU.below hb
  replace nY5 := nY5.below hb
  clear hb bY5
  unfold lineVal
  obtain ⟨Y6, hY6⟩ : ∃ Y, Y = w11.alloc (.cells #[.int .i64 3, .int .i64 5] 3) := ⟨_, rfl⟩
  have bY6 : Below w11.heap.size w11 Y6 := by rw [hY6]; exact Bel.al (Below.refl _ _) _
  have nY6 : Rd I64 Y6 (.slice (some ⟨w11.heap.size, 0, none⟩) 2 2) [3, 5] := by rw [hY6]; exact Rd.new [3, 5] rfl rfl (Nat.le_refl _) (by decide) rfl
  go_wp2_with fail
  rw [← hY6]
  clear hY6
  replace rA := rA.keep bY6
  replace gR := gR.below bY6
  replace B := Bel.to B bY6
  replace hU := hU.below bY6
  replace nY5 := nY5.below bY6
  refine (line16_any _ [3, 5] _ nY6).mono ?_
  rintro e w12 ⟨rfl, hb⟩
  replace rA := rA.keep hb
  replace gR := gR.below hb
  replace B := Bel.to B hb
  replace hU := hU.below hb
  replace nY5 := nY5.below hb
  replace nY6 := nY6.below hb
  clear hb bY6
  unfold lineVal
  obtain ⟨W13, hW13⟩ : ∃ W, W = w12.alloc (.cells #[.slice (some ⟨w10.heap.size, 0, none⟩) 2 2, .slice none 0 0, .slice (some ⟨w11.heap.size, 0, none⟩) 2 2, .slice none 0 0] 43) := ⟨_, rfl⟩
  have rl : Row W13 w12.heap.size 43 [.slice (some ⟨w10.heap.size, 0, none⟩) 2 2, .slice none 0 0, .slice (some ⟨w11.heap.size, 0, none⟩) 2 2, .slice none 0 0] := by rw [hW13]; exact Row.newOf _ rfl
  have b13 : Below w12.heap.size w12 W13 := by rw [hW13]; exact Bel.al (Below.refl _ _) _
  have hL3 : LinesR W13 (.slice (some ⟨w12.heap.size, 0, none⟩) 2 2) [([1, 2], []), ([3, 5], [])] := lines_two rl ⟨nY5.below b13, Rd.nil⟩ ⟨nY6.below b13, Rd.nil⟩
  go_wp2_with fail
  rw [← hW13]
  clear hW13
  replace rA := rA.keep b13
  replace gR := gR.below b13
  replace B := Bel.to B b13
  replace hU := hU.below b13
  refine (lines16_self _ _ _ _ hU hL3).mono ?_
  rintro e w14 ⟨rfl, hb⟩
  replace rA := rA.keep hb
  replace gR := gR.below hb
  replace B := Bel.to B hb
  clear hb hU hL3 rl b13 nY5 nY6
  go_upto_region 9 with (fail)
  refine wp_region_held_drew (S := fun X => Rng X [(gb, gameCells exG (.slice aa 2 ac) (.slice ta 1 tc))]) (by kernel_rfl) (Rng.cons rA (Rng.nil _)) (fun hHeld => ?_)
  refine' wpAnyH_take (i := 0) (oi := _) (v := _) rfl (by kernel_rfl) (by kernel_rfl) (by kernel_rfl) (fun _ _ _ h => h) (yieldsIf_load_mid (by first | (go_simp; done) | rfl) 25 _ rfl _ _ rfl (gameCells exG (.slice aa 2 ac) (.slice ta 1 tc)) _ (fun X h => Rng.at0 h) Tryz.underlying25 rfl (by kernel_rfl)) hHeld ?_
  try simp only [Act.put, List.setIfInBounds_toArray, List.set_cons_zero, List.set_cons_succ]
  refine' wpAnyH_take (i := 1) (oi := _) (v := .agg #[.slice none 0 0, .bool false, .int .i64 1, .int .i64 0]) rfl (by kernel_rfl) (by kernel_rfl) (by kernel_rfl) (fun _ _ _ h => h) (Or.inl ⟨by first | (go_simp; done) | rfl, fun X _ => by go_simp⟩) hHeld ?_
  try simp only [Act.put, List.setIfInBounds_toArray, List.set_cons_zero, List.set_cons_succ]
  have cC := hide (bCheck_any exG (.slice aa 2 ac) (.slice ta 1 tc) (.slice none 0 0) ms exB3 w14.drew (gR.below (Below.drewSelf _)) LinesR.nil)
  rw [ex_bet3] at cC
  unfold gameVal betVal at cC
  refine wpAnyH_ready (rs := [2]) (by kernel_rfl) (by simp) ?_
  refine AllReadyH.cons (o := _) rfl (fun K hK => ?_) AllReadyH.nil
  go_simp
  refine (cC.out).mono ?_
  rintro e w15 ⟨rfl, hb⟩
  go_wp2_with fail
  refine hK.out _ _ (hHeld.keep hb) (fun hHeld => ?_)
  clear hK K
  try simp only [Act.put, List.setIfInBounds_toArray, List.set_cons_zero, List.set_cons_succ]
  have hb15 := Bel.to (Below.drewSelf w14) hb
  replace rA := rA.keep hb15
  replace gR := gR.below hb15
  replace B := Bel.to B hb15
  clear hb hb15 cC
  refine' wpAnyH_take (i := 3) (oi := _) (v := .bool true) rfl (by kernel_rfl) (by kernel_rfl) (by kernel_rfl) (fun _ _ _ h => h) (Or.inl ⟨by first | (go_simp; done) | rfl, fun X _ => by go_simp⟩) hHeld ?_
  try simp only [Act.put, List.setIfInBounds_toArray, List.set_cons_zero, List.set_cons_succ]
  refine' wpAnyH_take (i := 4) (oi := _) (v := .bool true) rfl (by kernel_rfl) (by kernel_rfl) (by kernel_rfl) (fun _ _ _ h => h) (Or.inl ⟨by first | (go_simp; done) | rfl, fun X _ => by go_simp⟩) hHeld ?_
  try simp only [Act.put, List.setIfInBounds_toArray, List.set_cons_zero, List.set_cons_succ]
  refine' wpAnyH_take (i := 5) (oi := _) (v := _) rfl (by kernel_rfl) (by kernel_rfl) (by kernel_rfl) (fun _ _ _ h => h) (yieldsIf_load_mid (by first | (go_simp; done) | rfl) 25 _ rfl _ _ rfl (gameCells exG (.slice aa 2 ac) (.slice ta 1 tc)) _ (fun X h => Rng.at0 h) Tryz.underlying25 rfl (by kernel_rfl)) hHeld ?_
  try simp only [Act.put, List.setIfInBounds_toArray, List.set_cons_zero, List.set_cons_succ]
  refine wpAnyH_ready (rs := [6, 8]) (by kernel_rfl) (by simp) ?_
  refine AllReadyH.cons (o := _) rfl (fun K hK => ?_) (AllReadyH.cons (o := _) rfl (fun K hK => ?_) AllReadyH.nil)
  · skip
    go_simp
    obtain ⟨Y7, hY7⟩ : ∃ Y, Y = w15.alloc (.cells #[.int .i64 1, .int .i64 2] 3) := ⟨_, rfl⟩
    have bY70 : Below w15.heap.size w15 Y7 := by rw [hY7]; exact Bel.al (Below.refl _ _) _
    have bY7 : Below w15.heap.size w15 Y7 := bY70
    have nY7 : Rd I64 Y7 (.slice (some ⟨w15.heap.size, 0, none⟩) 2 2) [1, 2] := by rw [hY7]; exact Rd.new [1, 2] rfl rfl (Nat.le_refl _) (by decide) rfl
    rw [← hY7]
    clear hY7
    refine hK.out _ _ (hHeld.keep bY70) (fun hHeld => ?_)
    clear hK K
    try simp only [Act.put, List.setIfInBounds_toArray, List.set_cons_zero, List.set_cons_succ]
    replace rA := rA.keep bY7
    replace gR := gR.below bY7
    replace B := Bel.to B bY7
    refine wpAnyH_ready (rs := [7, 8]) (by kernel_rfl) (by simp) ?_
    refine AllReadyH.cons (o := _) rfl (fun K hK => ?_) (AllReadyH.cons (o := _) rfl (fun K hK => ?_) AllReadyH.nil)
    · skip
      go_simp
      refine (line16_any _ [1, 2] _ nY7).mono ?_
      rintro e v8 ⟨rfl, hv8⟩
      go_wp2_with fail
      refine hK.out _ _ (hHeld.keep hv8) (fun hHeld => ?_)
      clear hK K
      try simp only [Act.put, List.setIfInBounds_toArray, List.set_cons_zero, List.set_cons_succ]
      replace rA := rA.keep hv8
      replace gR := gR.below hv8
      replace B := Bel.to B hv8
      replace nY7 := nY7.below hv8
      unfold lineVal
      refine wpAnyH_ready (rs := [8]) (by kernel_rfl) (by simp) ?_
      refine AllReadyH.cons (o := _) rfl (fun K hK => ?_) AllReadyH.nil
      go_simp
      obtain ⟨Y9, hY9⟩ : ∃ Y, Y = v8.alloc (.cells #[.int .i64 2, .int .i64 1] 3) := ⟨_, rfl⟩
      have bY90 : Below v8.heap.size v8 Y9 := by rw [hY9]; exact Bel.al (Below.refl _ _) _
      have bY9 : Below v8.heap.size v8 Y9 := bY90
      have nY9 : Rd I64 Y9 (.slice (some ⟨v8.heap.size, 0, none⟩) 2 2) [2, 1] := by rw [hY9]; exact Rd.new [2, 1] rfl rfl (Nat.le_refl _) (by decide) rfl
      rw [← hY9]
      clear hY9
      refine hK.out _ _ (hHeld.keep bY90) (fun hHeld => ?_)
      clear hK K
      try simp only [Act.put, List.setIfInBounds_toArray, List.set_cons_zero, List.set_cons_succ]
      replace rA := rA.keep bY9
      replace gR := gR.below bY9
      replace B := Bel.to B bY9
      replace nY7 := nY7.below bY9
      refine wpAnyH_ready (rs := [9]) (by kernel_rfl) (by simp) ?_
      refine AllReadyH.cons (o := _) rfl (fun K hK => ?_) AllReadyH.nil
      go_simp
      refine (line16_any _ [2, 1] _ nY9).mono ?_
      rintro e v10 ⟨rfl, hv10⟩
      go_wp2_with fail
      refine hK.out _ _ (hHeld.keep hv10) (fun hHeld => ?_)
      clear hK K
      try simp only [Act.put, List.setIfInBounds_toArray, List.set_cons_zero, List.set_cons_succ]
      replace rA := rA.keep hv10
      replace gR := gR.below hv10
      replace B := Bel.to B hv10
      replace nY7 := nY7.below hv10
      replace nY9 := nY9.below hv10
      unfold lineVal
      refine wpAnyH_ready (rs := [10]) (by kernel_rfl) (by simp) ?_
      refine AllReadyH.cons (o := _) rfl (fun K hK => ?_) AllReadyH.nil
      go_simp
      obtain ⟨Y11, hY11⟩ : ∃ Y, Y = v10.alloc (.cells #[.slice (some ⟨w15.heap.size, 0, none⟩) 2 2, .slice none 0 0, .slice (some ⟨v8.heap.size, 0, none⟩) 2 2, .slice none 0 0] 43) := ⟨_, rfl⟩
      have bY110 : Below v10.heap.size v10 Y11 := by rw [hY11]; exact Bel.al (Below.refl _ _) _
      have bY11 : Below v10.heap.size v10 Y11 := bY110
      have rl : Row Y11 v10.heap.size 43 [.slice (some ⟨w15.heap.size, 0, none⟩) 2 2, .slice none 0 0, .slice (some ⟨v8.heap.size, 0, none⟩) 2 2, .slice none 0 0] := by rw [hY11]; exact Row.newOf _ rfl
      have hL4 : LinesR Y11 (.slice (some ⟨v10.heap.size, 0, none⟩) 2 2) [([1, 2], []), ([2, 1], [])] := lines_two rl ⟨nY7.below bY11, Rd.nil⟩ ⟨nY9.below bY11, Rd.nil⟩
      rw [← hY11]
      clear hY11
      refine hK.out _ _ (hHeld.keep bY110) (fun hHeld => ?_)
      clear hK K
      try simp only [Act.put, List.setIfInBounds_toArray, List.set_cons_zero, List.set_cons_succ]
      replace rA := rA.keep bY11
      replace gR := gR.below bY11
      replace B := Bel.to B bY11
      refine' wpAnyH_take (i := 11) (oi := _) (v := .agg #[.slice (some ⟨v10.heap.size, 0, none⟩) 2 2, .bool false, .int .i64 9, .int .i64 0]) rfl (by kernel_rfl) (by kernel_rfl) (by kernel_rfl) (fun _ _ _ h => h) (Or.inl ⟨by first | (go_simp; done) | rfl, fun X _ => by go_simp⟩) hHeld ?_
      try simp only [Act.put, List.setIfInBounds_toArray, List.set_cons_zero, List.set_cons_succ]
      have cC := hide (bCheck_any exG (.slice aa 2 ac) (.slice ta 1 tc) (.slice (some ⟨v10.heap.size, 0, none⟩) 2 2) ms exB4 _ gR hL4)
      rw [ex_bet4] at cC
      unfold gameVal betVal at cC
      refine wpAnyH_ready (rs := [12]) (by kernel_rfl) (by simp) ?_
      refine AllReadyH.cons (o := _) rfl (fun K hK => ?_) AllReadyH.nil
      go_simp
      refine (cC.out).mono ?_
      rintro e w18 ⟨rfl, hb18⟩
      go_wp2_with fail
      refine hK.out _ _ (hHeld.keep hb18) (fun hHeld => ?_)
      clear hK K
      try simp only [Act.put, List.setIfInBounds_toArray, List.set_cons_zero, List.set_cons_succ]
      replace rA := rA.keep hb18
      replace gR := gR.below hb18
      replace B := Bel.to B hb18
      clear cC hL4 rl
      refine' wpAnyH_take (i := 13) (oi := _) (v := .bool true) rfl (by kernel_rfl) (by kernel_rfl) (by kernel_rfl) (fun _ _ _ h => h) (Or.inl ⟨by first | (go_simp; done) | rfl, fun X _ => by go_simp⟩) hHeld ?_
      try simp only [Act.put, List.setIfInBounds_toArray, List.set_cons_zero, List.set_cons_succ]
      refine' wpAnyH_take (i := 14) (oi := _) (v := .bool true) rfl (by kernel_rfl) (by kernel_rfl) (by kernel_rfl) (fun _ _ _ h => h) (Or.inl ⟨by first | (go_simp; done) | rfl, fun X _ => by go_simp⟩) hHeld ?_
      try simp only [Act.put, List.setIfInBounds_toArray, List.set_cons_zero, List.set_cons_succ]
      refine' wpAnyH_take (i := 15) (oi := _) (v := .bool true) rfl (by kernel_rfl) (by kernel_rfl) (by kernel_rfl) (fun _ _ _ h => h) (Or.inl ⟨by first | (go_simp; done) | rfl, fun X _ => by go_simp⟩) hHeld ?_
      try simp only [Act.put, List.setIfInBounds_toArray, List.set_cons_zero, List.set_cons_succ]
      refine' wpAnyH_take (i := 16) (oi := _) (v := _) rfl (by kernel_rfl) (by kernel_rfl) (by kernel_rfl) (fun _ _ _ h => h) (yieldsIf_load_mid (by first | (go_simp; done) | rfl) 25 _ rfl _ _ rfl (gameCells exG (.slice aa 2 ac) (.slice ta 1 tc)) _ (fun X h => Rng.at0 h) Tryz.underlying25 rfl (by kernel_rfl)) hHeld ?_
      try simp only [Act.put, List.setIfInBounds_toArray, List.set_cons_zero, List.set_cons_succ]
      refine wpAnyH_ready (rs := [17]) (by kernel_rfl) (by simp) ?_
      refine AllReadyH.cons (o := _) rfl (fun K hK => ?_) AllReadyH.nil
      go_simp
      obtain ⟨Y12, hY12⟩ : ∃ Y, Y = w18.alloc (.cells #[.int .i64 1, .int .i64 2] 3) := ⟨_, rfl⟩
      have bY120 : Below w18.heap.size w18 Y12 := by rw [hY12]; exact Bel.al (Below.refl _ _) _
      have bY12 : Below w18.heap.size w18 Y12 := bY120
      have nY12 : Rd I64 Y12 (.slice (some ⟨w18.heap.size, 0, none⟩) 2 2) [1, 2] := by rw [hY12]; exact Rd.new [1, 2] rfl rfl (Nat.le_refl _) (by decide) rfl
      rw [← hY12]
      clear hY12
      refine hK.out _ _ (hHeld.keep bY120) (fun hHeld => ?_)
      clear hK K
      try simp only [Act.put, List.setIfInBounds_toArray, List.set_cons_zero, List.set_cons_succ]
      replace rA := rA.keep bY12
      replace gR := gR.below bY12
      replace B := Bel.to B bY12
      refine wpAnyH_ready (rs := [18]) (by kernel_rfl) (by simp) ?_
      refine AllReadyH.cons (o := _) rfl (fun K hK => ?_) AllReadyH.nil
      go_simp
      refine (line16_any _ [1, 2] _ nY12).mono ?_
      rintro e w19 ⟨rfl, hb19⟩
      go_wp2_with fail
      refine hK.out _ _ (hHeld.keep hb19) (fun hHeld => ?_)
      clear hK K
      try simp only [Act.put, List.setIfInBounds_toArray, List.set_cons_zero, List.set_cons_succ]
      replace rA := rA.keep hb19
      replace gR := gR.below hb19
      replace B := Bel.to B hb19
      replace nY12 := nY12.below hb19
      unfold lineVal
      refine wpAnyH_ready (rs := [19]) (by kernel_rfl) (by simp) ?_
      refine AllReadyH.cons (o := _) rfl (fun K hK => ?_) AllReadyH.nil
      go_simp
      obtain ⟨Y13, hY13⟩ : ∃ Y, Y = w19.alloc (.cells #[.slice (some ⟨w18.heap.size, 0, none⟩) 2 2, .slice none 0 0] 43) := ⟨_, rfl⟩
      have bY130 : Below w19.heap.size w19 Y13 := by rw [hY13]; exact Bel.al (Below.refl _ _) _
      have bY13 : Below w19.heap.size w19 Y13 := bY130
      have rl : Row Y13 w19.heap.size 43 [.slice (some ⟨w18.heap.size, 0, none⟩) 2 2, .slice none 0 0] := by rw [hY13]; exact Row.newOf _ rfl
      have hL5 : LinesR Y13 (.slice (some ⟨w19.heap.size, 0, none⟩) 1 1) [([1, 2], [])] := lines_one rl ⟨nY12.below bY13, Rd.nil⟩
      rw [← hY13]
      clear hY13
      refine hK.out _ _ (hHeld.keep bY130) (fun hHeld => ?_)
      clear hK K
      try simp only [Act.put, List.setIfInBounds_toArray, List.set_cons_zero, List.set_cons_succ]
      replace rA := rA.keep bY13
      replace gR := gR.below bY13
      replace B := Bel.to B bY13
      refine' wpAnyH_take (i := 20) (oi := _) (v := .agg #[.slice (some ⟨w19.heap.size, 0, none⟩) 1 1, .bool false, .int .i64 1, .int .i64 4]) rfl (by kernel_rfl) (by kernel_rfl) (by kernel_rfl) (fun _ _ _ h => h) (Or.inl ⟨by first | (go_simp; done) | rfl, fun X _ => by go_simp⟩) hHeld ?_
      try simp only [Act.put, List.setIfInBounds_toArray, List.set_cons_zero, List.set_cons_succ]
      have cC := hide (bCheck_any exG (.slice aa 2 ac) (.slice ta 1 tc) (.slice (some ⟨w19.heap.size, 0, none⟩) 1 1) ms exB5 _ gR hL5)
      rw [ex_bet5] at cC
      unfold gameVal betVal at cC
      refine wpAnyH_ready (rs := [21]) (by kernel_rfl) (by simp) ?_
      refine AllReadyH.cons (o := _) rfl (fun K hK => ?_) AllReadyH.nil
      go_simp
      refine (cC.out).mono ?_
      rintro e w20 ⟨rfl, hb20⟩
      go_wp2_with fail
      refine hK.out _ _ (hHeld.keep hb20) (fun hHeld => ?_)
      clear hK K
      try simp only [Act.put, List.setIfInBounds_toArray, List.set_cons_zero, List.set_cons_succ]
      replace rA := rA.keep hb20
      replace gR := gR.below hb20
      replace B := Bel.to B hb20
      refine' wpAnyH_take (i := 22) (oi := _) (v := .bool true) rfl (by kernel_rfl) (by kernel_rfl) (by kernel_rfl) (fun _ _ _ h => h) (Or.inl ⟨by first | (go_simp; done) | rfl, fun X _ => by go_simp⟩) hHeld ?_
      try simp only [Act.put, List.setIfInBounds_toArray, List.set_cons_zero, List.set_cons_succ]
      refine' wpAnyH_take (i := 23) (oi := _) (v := .bool true) rfl (by kernel_rfl) (by kernel_rfl) (by kernel_rfl) (fun _ _ _ h => h) (Or.inl ⟨by first | (go_simp; done) | rfl, fun X _ => by go_simp⟩) hHeld ?_
      try simp only [Act.put, List.setIfInBounds_toArray, List.set_cons_zero, List.set_cons_succ]
      refine' wpAnyH_take (i := 24) (oi := _) (v := .bool true) rfl (by kernel_rfl) (by kernel_rfl) (by kernel_rfl) (fun _ _ _ h => h) (Or.inl ⟨by first | (go_simp; done) | rfl, fun X _ => by go_simp⟩) hHeld ?_
      try simp only [Act.put, List.setIfInBounds_toArray, List.set_cons_zero, List.set_cons_succ]
      refine wpAnyH_done (by kernel_rfl) ?_ _
      go_simp
      go_wp2
      go_ret
      exact ⟨rfl, B⟩
    · skip
      go_simp
      obtain ⟨Y14, hY14⟩ : ∃ Y, Y = Y7.alloc (.cells #[.int .i64 2, .int .i64 1] 3) := ⟨_, rfl⟩
      have bY140 : Below Y7.heap.size Y7 Y14 := by rw [hY14]; exact Bel.al (Below.refl _ _) _
      have bY14 : Below Y7.heap.size Y7 Y14 := bY140
      have nY14 : Rd I64 Y14 (.slice (some ⟨Y7.heap.size, 0, none⟩) 2 2) [2, 1] := by rw [hY14]; exact Rd.new [2, 1] rfl rfl (Nat.le_refl _) (by decide) rfl
      rw [← hY14]
      clear hY14
      refine hK.out _ _ (hHeld.keep bY140) (fun hHeld => ?_)
      clear hK K
      try simp only [Act.put, List.setIfInBounds_toArray, List.set_cons_zero, List.set_cons_succ]
      replace rA := rA.keep bY14
      replace gR := gR.below bY14
      replace B := Bel.to B bY14
      replace nY7 := nY7.below bY14
      refine wpAnyH_ready (rs := [7]) (by kernel_rfl) (by simp) ?_
      refine AllReadyH.cons (o := _) rfl (fun K hK => ?_) AllReadyH.nil
      go_simp
      refine (line16_any _ [1, 2] _ nY7).mono ?_
      rintro e v15 ⟨rfl, hv15⟩
      go_wp2_with fail
      refine hK.out _ _ (hHeld.keep hv15) (fun hHeld => ?_)
      clear hK K
      try simp only [Act.put, List.setIfInBounds_toArray, List.set_cons_zero, List.set_cons_succ]
      replace rA := rA.keep hv15
      replace gR := gR.below hv15
      replace B := Bel.to B hv15
      replace nY7 := nY7.below hv15
      replace nY14 := nY14.below hv15
      unfold lineVal
      refine wpAnyH_ready (rs := [9]) (by kernel_rfl) (by simp) ?_
      refine AllReadyH.cons (o := _) rfl (fun K hK => ?_) AllReadyH.nil
      go_simp
      refine (line16_any _ [2, 1] _ nY14).mono ?_
      rintro e v16 ⟨rfl, hv16⟩
      go_wp2_with fail
      refine hK.out _ _ (hHeld.keep hv16) (fun hHeld => ?_)
      clear hK K
      try simp only [Act.put, List.setIfInBounds_toArray, List.set_cons_zero, List.set_cons_succ]
      replace rA := rA.keep hv16
      replace gR := gR.below hv16
      replace B := Bel.to B hv16
      replace nY7 := nY7.below hv16
      replace nY14 := nY14.below hv16
      unfold lineVal
      refine wpAnyH_ready (rs := [10]) (by kernel_rfl) (by simp) ?_
      refine AllReadyH.cons (o := _) rfl (fun K hK => ?_) AllReadyH.nil
      go_simp
      obtain ⟨Y17, hY17⟩ : ∃ Y, Y = v16.alloc (.cells #[.slice (some ⟨w15.heap.size, 0, none⟩) 2 2, .slice none 0 0, .slice (some ⟨Y7.heap.size, 0, none⟩) 2 2, .slice none 0 0] 43) := ⟨_, rfl⟩
      have bY170 : Below v16.heap.size v16 Y17 := by rw [hY17]; exact Bel.al (Below.refl _ _) _
      have bY17 : Below v16.heap.size v16 Y17 := bY170
      have rl : Row Y17 v16.heap.size 43 [.slice (some ⟨w15.heap.size, 0, none⟩) 2 2, .slice none 0 0, .slice (some ⟨Y7.heap.size, 0, none⟩) 2 2, .slice none 0 0] := by rw [hY17]; exact Row.newOf _ rfl
      have hL4 : LinesR Y17 (.slice (some ⟨v16.heap.size, 0, none⟩) 2 2) [([1, 2], []), ([2, 1], [])] := lines_two rl ⟨nY7.below bY17, Rd.nil⟩ ⟨nY14.below bY17, Rd.nil⟩
      rw [← hY17]
      clear hY17
      refine hK.out _ _ (hHeld.keep bY170) (fun hHeld => ?_)
      clear hK K
      try simp only [Act.put, List.setIfInBounds_toArray, List.set_cons_zero, List.set_cons_succ]
      replace rA := rA.keep bY17
      replace gR := gR.below bY17
      replace B := Bel.to B bY17
      refine' wpAnyH_take (i := 11) (oi := _) (v := .agg #[.slice (some ⟨v16.heap.size, 0, none⟩) 2 2, .bool false, .int .i64 9, .int .i64 0]) rfl (by kernel_rfl) (by kernel_rfl) (by kernel_rfl) (fun _ _ _ h => h) (Or.inl ⟨by first | (go_simp; done) | rfl, fun X _ => by go_simp⟩) hHeld ?_
      try simp only [Act.put, List.setIfInBounds_toArray, List.set_cons_zero, List.set_cons_succ]
      have cC := hide (bCheck_any exG (.slice aa 2 ac) (.slice ta 1 tc) (.slice (some ⟨v16.heap.size, 0, none⟩) 2 2) ms exB4 _ gR hL4)
      rw [ex_bet4] at cC
      unfold gameVal betVal at cC
      refine wpAnyH_ready (rs := [12]) (by kernel_rfl) (by simp) ?_
      refine AllReadyH.cons (o := _) rfl (fun K hK => ?_) AllReadyH.nil
      go_simp
      refine (cC.out).mono ?_
      rintro e w18 ⟨rfl, hb18⟩
      go_wp2_with fail
      refine hK.out _ _ (hHeld.keep hb18) (fun hHeld => ?_)
      clear hK K
      try simp only [Act.put, List.setIfInBounds_toArray, List.set_cons_zero, List.set_cons_succ]
      replace rA := rA.keep hb18
      replace gR := gR.below hb18
      replace B := Bel.to B hb18
      clear cC hL4 rl
      refine' wpAnyH_take (i := 13) (oi := _) (v := .bool true) rfl (by kernel_rfl) (by kernel_rfl) (by kernel_rfl) (fun _ _ _ h => h) (Or.inl ⟨by first | (go_simp; done) | rfl, fun X _ => by go_simp⟩) hHeld ?_
      try simp only [Act.put, List.setIfInBounds_toArray, List.set_cons_zero, List.set_cons_succ]
      refine' wpAnyH_take (i := 14) (oi := _) (v := .bool true) rfl (by kernel_rfl) (by kernel_rfl) (by kernel_rfl) (fun _ _ _ h => h) (Or.inl ⟨by first | (go_simp; done) | rfl, fun X _ => by go_simp⟩) hHeld ?_
      try simp only [Act.put, List.setIfInBounds_toArray, List.set_cons_zero, List.set_cons_succ]
      refine' wpAnyH_take (i := 15) (oi := _) (v := .bool true) rfl (by kernel_rfl) (by kernel_rfl) (by kernel_rfl) (fun _ _ _ h => h) (Or.inl ⟨by first | (go_simp; done) | rfl, fun X _ => by go_simp⟩) hHeld ?_
      try simp only [Act.put, List.setIfInBounds_toArray, List.set_cons_zero, List.set_cons_succ]
      refine' wpAnyH_take (i := 16) (oi := _) (v := _) rfl (by kernel_rfl) (by kernel_rfl) (by kernel_rfl) (fun _ _ _ h => h) (yieldsIf_load_mid (by first | (go_simp; done) | rfl) 25 _ rfl _ _ rfl (gameCells exG (.slice aa 2 ac) (.slice ta 1 tc)) _ (fun X h => Rng.at0 h) Tryz.underlying25 rfl (by kernel_rfl)) hHeld ?_
      try simp only [Act.put, List.setIfInBounds_toArray, List.set_cons_zero, List.set_cons_succ]
      refine wpAnyH_ready (rs := [17]) (by kernel_rfl) (by simp) ?_
      refine AllReadyH.cons (o := _) rfl (fun K hK => ?_) AllReadyH.nil
      go_simp
      obtain ⟨Y18, hY18⟩ : ∃ Y, Y = w18.alloc (.cells #[.int .i64 1, .int .i64 2] 3) := ⟨_, rfl⟩
      have bY180 : Below w18.heap.size w18 Y18 := by rw [hY18]; exact Bel.al (Below.refl _ _) _
      have bY18 : Below w18.heap.size w18 Y18 := bY180
      have nY18 : Rd I64 Y18 (.slice (some ⟨w18.heap.size, 0, none⟩) 2 2) [1, 2] := by rw [hY18]; exact Rd.new [1, 2] rfl rfl (Nat.le_refl _) (by decide) rfl
      rw [← hY18]
      clear hY18
      refine hK.out _ _ (hHeld.keep bY180) (fun hHeld => ?_)
      clear hK K
      try simp only [Act.put, List.setIfInBounds_toArray, List.set_cons_zero, List.set_cons_succ]
      replace rA := rA.keep bY18
      replace gR := gR.below bY18
      replace B := Bel.to B bY18
      refine wpAnyH_ready (rs := [18]) (by kernel_rfl) (by simp) ?_
      refine AllReadyH.cons (o := _) rfl (fun K hK => ?_) AllReadyH.nil
      go_simp
      refine (line16_any _ [1, 2] _ nY18).mono ?_
      rintro e w19 ⟨rfl, hb19⟩
      go_wp2_with fail
      refine hK.out _ _ (hHeld.keep hb19) (fun hHeld => ?_)
      clear hK K
      try simp only [Act.put, List.setIfInBounds_toArray, List.set_cons_zero, List.set_cons_succ]
      replace rA := rA.keep hb19
      replace gR := gR.below hb19
      replace B := Bel.to B hb19
      replace nY18 := nY18.below hb19
      unfold lineVal
      refine wpAnyH_ready (rs := [19]) (by kernel_rfl) (by simp) ?_
      refine AllReadyH.cons (o := _) rfl (fun K hK => ?_) AllReadyH.nil
      go_simp
      obtain ⟨Y19, hY19⟩ : ∃ Y, Y = w19.alloc (.cells #[.slice (some ⟨w18.heap.size, 0, none⟩) 2 2, .slice none 0 0] 43) := ⟨_, rfl⟩
      have bY190 : Below w19.heap.size w19 Y19 := by rw [hY19]; exact Bel.al (Below.refl _ _) _
      have bY19 : Below w19.heap.size w19 Y19 := bY190
      have rl : Row Y19 w19.heap.size 43 [.slice (some ⟨w18.heap.size, 0, none⟩) 2 2, .slice none 0 0] := by rw [hY19]; exact Row.newOf _ rfl
      have hL5 : LinesR Y19 (.slice (some ⟨w19.heap.size, 0, none⟩) 1 1) [([1, 2], [])] := lines_one rl ⟨nY18.below bY19, Rd.nil⟩
      rw [← hY19]
      clear hY19
      refine hK.out _ _ (hHeld.keep bY190) (fun hHeld => ?_)
      clear hK K
      try simp only [Act.put, List.setIfInBounds_toArray, List.set_cons_zero, List.set_cons_succ]
      replace rA := rA.keep bY19
      replace gR := gR.below bY19
      replace B := Bel.to B bY19
      refine' wpAnyH_take (i := 20) (oi := _) (v := .agg #[.slice (some ⟨w19.heap.size, 0, none⟩) 1 1, .bool false, .int .i64 1, .int .i64 4]) rfl (by kernel_rfl) (by kernel_rfl) (by kernel_rfl) (fun _ _ _ h => h) (Or.inl ⟨by first | (go_simp; done) | rfl, fun X _ => by go_simp⟩) hHeld ?_
      try simp only [Act.put, List.setIfInBounds_toArray, List.set_cons_zero, List.set_cons_succ]
      have cC := hide (bCheck_any exG (.slice aa 2 ac) (.slice ta 1 tc) (.slice (some ⟨w19.heap.size, 0, none⟩) 1 1) ms exB5 _ gR hL5)
      rw [ex_bet5] at cC
      unfold gameVal betVal at cC
      refine wpAnyH_ready (rs := [21]) (by kernel_rfl) (by simp) ?_
      refine AllReadyH.cons (o := _) rfl (fun K hK => ?_) AllReadyH.nil
      go_simp
      refine (cC.out).mono ?_
      rintro e w20 ⟨rfl, hb20⟩
      go_wp2_with fail
      refine hK.out _ _ (hHeld.keep hb20) (fun hHeld => ?_)
      clear hK K
      try simp only [Act.put, List.setIfInBounds_toArray, List.set_cons_zero, List.set_cons_succ]
      replace rA := rA.keep hb20
      replace gR := gR.below hb20
      replace B := Bel.to B hb20
      refine' wpAnyH_take (i := 22) (oi := _) (v := .bool true) rfl (by kernel_rfl) (by kernel_rfl) (by kernel_rfl) (fun _ _ _ h => h) (Or.inl ⟨by first | (go_simp; done) | rfl, fun X _ => by go_simp⟩) hHeld ?_
      try simp only [Act.put, List.setIfInBounds_toArray, List.set_cons_zero, List.set_cons_succ]
      refine' wpAnyH_take (i := 23) (oi := _) (v := .bool true) rfl (by kernel_rfl) (by kernel_rfl) (by kernel_rfl) (fun _ _ _ h => h) (Or.inl ⟨by first | (go_simp; done) | rfl, fun X _ => by go_simp⟩) hHeld ?_
      try simp only [Act.put, List.setIfInBounds_toArray, List.set_cons_zero, List.set_cons_succ]
      refine' wpAnyH_take (i := 24) (oi := _) (v := .bool true) rfl (by kernel_rfl) (by kernel_rfl) (by kernel_rfl) (fun _ _ _ h => h) (Or.inl ⟨by first | (go_simp; done) | rfl, fun X _ => by go_simp⟩) hHeld ?_
      try simp only [Act.put, List.setIfInBounds_toArray, List.set_cons_zero, List.set_cons_succ]
      refine wpAnyH_done (by kernel_rfl) ?_ _
      go_simp
      go_wp2
      go_ret
      exact ⟨rfl, B⟩
  · skip
    go_simp
    obtain ⟨Y20, hY20⟩ : ∃ Y, Y = w15.alloc (.cells #[.int .i64 2, .int .i64 1] 3) := ⟨_, rfl⟩
    have bY200 : Below w15.heap.size w15 Y20 := by rw [hY20]; exact Bel.al (Below.refl _ _) _
    have bY20 : Below w15.heap.size w15 Y20 := bY200
    have nY20 : Rd I64 Y20 (.slice (some ⟨w15.heap.size, 0, none⟩) 2 2) [2, 1] := by rw [hY20]; exact Rd.new [2, 1] rfl rfl (Nat.le_refl _) (by decide) rfl
    rw [← hY20]
    clear hY20
    refine hK.out _ _ (hHeld.keep bY200) (fun hHeld => ?_)
    clear hK K
    try simp only [Act.put, List.setIfInBounds_toArray, List.set_cons_zero, List.set_cons_succ]
    replace rA := rA.keep bY20
    replace gR := gR.below bY20
    replace B := Bel.to B bY20
    refine wpAnyH_ready (rs := [6]) (by kernel_rfl) (by simp) ?_
    refine AllReadyH.cons (o := _) rfl (fun K hK => ?_) AllReadyH.nil
    go_simp
    obtain ⟨Y21, hY21⟩ : ∃ Y, Y = Y20.alloc (.cells #[.int .i64 1, .int .i64 2] 3) := ⟨_, rfl⟩
    have bY210 : Below Y20.heap.size Y20 Y21 := by rw [hY21]; exact Bel.al (Below.refl _ _) _
    have bY21 : Below Y20.heap.size Y20 Y21 := bY210
    have nY21 : Rd I64 Y21 (.slice (some ⟨Y20.heap.size, 0, none⟩) 2 2) [1, 2] := by rw [hY21]; exact Rd.new [1, 2] rfl rfl (Nat.le_refl _) (by decide) rfl
    rw [← hY21]
    clear hY21
    refine hK.out _ _ (hHeld.keep bY210) (fun hHeld => ?_)
    clear hK K
    try simp only [Act.put, List.setIfInBounds_toArray, List.set_cons_zero, List.set_cons_succ]
    replace rA := rA.keep bY21
    replace gR := gR.below bY21
    replace B := Bel.to B bY21
    replace nY20 := nY20.below bY21
    refine wpAnyH_ready (rs := [7]) (by kernel_rfl) (by simp) ?_
    refine AllReadyH.cons (o := _) rfl (fun K hK => ?_) AllReadyH.nil
    go_simp
    refine (line16_any _ [1, 2] _ nY21).mono ?_
    rintro e v22 ⟨rfl, hv22⟩
    go_wp2_with fail
    refine hK.out _ _ (hHeld.keep hv22) (fun hHeld => ?_)
    clear hK K
    try simp only [Act.put, List.setIfInBounds_toArray, List.set_cons_zero, List.set_cons_succ]
    replace rA := rA.keep hv22
    replace gR := gR.below hv22
    replace B := Bel.to B hv22
    replace nY21 := nY21.below hv22
    replace nY20 := nY20.below hv22
    unfold lineVal
    refine wpAnyH_ready (rs := [9]) (by kernel_rfl) (by simp) ?_
    refine AllReadyH.cons (o := _) rfl (fun K hK => ?_) AllReadyH.nil
    go_simp
    refine (line16_any _ [2, 1] _ nY20).mono ?_
    rintro e v23 ⟨rfl, hv23⟩
    go_wp2_with fail
    refine hK.out _ _ (hHeld.keep hv23) (fun hHeld => ?_)
    clear hK K
    try simp only [Act.put, List.setIfInBounds_toArray, List.set_cons_zero, List.set_cons_succ]
    replace rA := rA.keep hv23
    replace gR := gR.below hv23
    replace B := Bel.to B hv23
    replace nY21 := nY21.below hv23
    replace nY20 := nY20.below hv23
    unfold lineVal
    refine wpAnyH_ready (rs := [10]) (by kernel_rfl) (by simp) ?_
    refine AllReadyH.cons (o := _) rfl (fun K hK => ?_) AllReadyH.nil
    go_simp
    obtain ⟨Y24, hY24⟩ : ∃ Y, Y = v23.alloc (.cells #[.slice (some ⟨Y20.heap.size, 0, none⟩) 2 2, .slice none 0 0, .slice (some ⟨w15.heap.size, 0, none⟩) 2 2, .slice none 0 0] 43) := ⟨_, rfl⟩
    have bY240 : Below v23.heap.size v23 Y24 := by rw [hY24]; exact Bel.al (Below.refl _ _) _
    have bY24 : Below v23.heap.size v23 Y24 := bY240
    have rl : Row Y24 v23.heap.size 43 [.slice (some ⟨Y20.heap.size, 0, none⟩) 2 2, .slice none 0 0, .slice (some ⟨w15.heap.size, 0, none⟩) 2 2, .slice none 0 0] := by rw [hY24]; exact Row.newOf _ rfl
    have hL4 : LinesR Y24 (.slice (some ⟨v23.heap.size, 0, none⟩) 2 2) [([1, 2], []), ([2, 1], [])] := lines_two rl ⟨nY21.below bY24, Rd.nil⟩ ⟨nY20.below bY24, Rd.nil⟩
    rw [← hY24]
    clear hY24
    refine hK.out _ _ (hHeld.keep bY240) (fun hHeld => ?_)
    clear hK K
    try simp only [Act.put, List.setIfInBounds_toArray, List.set_cons_zero, List.set_cons_succ]
    replace rA := rA.keep bY24
    replace gR := gR.below bY24
    replace B := Bel.to B bY24
    refine' wpAnyH_take (i := 11) (oi := _) (v := .agg #[.slice (some ⟨v23.heap.size, 0, none⟩) 2 2, .bool false, .int .i64 9, .int .i64 0]) rfl (by kernel_rfl) (by kernel_rfl) (by kernel_rfl) (fun _ _ _ h => h) (Or.inl ⟨by first | (go_simp; done) | rfl, fun X _ => by go_simp⟩) hHeld ?_
    try simp only [Act.put, List.setIfInBounds_toArray, List.set_cons_zero, List.set_cons_succ]
    have cC := hide (bCheck_any exG (.slice aa 2 ac) (.slice ta 1 tc) (.slice (some ⟨v23.heap.size, 0, none⟩) 2 2) ms exB4 _ gR hL4)
    rw [ex_bet4] at cC
    unfold gameVal betVal at cC
    refine wpAnyH_ready (rs := [12]) (by kernel_rfl) (by simp) ?_
    refine AllReadyH.cons (o := _) rfl (fun K hK => ?_) AllReadyH.nil
    go_simp
    refine (cC.out).mono ?_
    rintro e w18 ⟨rfl, hb18⟩
    go_wp2_with fail
    refine hK.out _ _ (hHeld.keep hb18) (fun hHeld => ?_)
    clear hK K
    try simp only [Act.put, List.setIfInBounds_toArray, List.set_cons_zero, List.set_cons_succ]
    replace rA := rA.keep hb18
    replace gR := gR.below hb18
    replace B := Bel.to B hb18
    clear cC hL4 rl
    refine' wpAnyH_take (i := 13) (oi := _) (v := .bool true) rfl (by kernel_rfl) (by kernel_rfl) (by kernel_rfl) (fun _ _ _ h => h) (Or.inl ⟨by first | (go_simp; done) | rfl, fun X _ => by go_simp⟩) hHeld ?_
    try simp only [Act.put, List.setIfInBounds_toArray, List.set_cons_zero, List.set_cons_succ]
    refine' wpAnyH_take (i := 14) (oi := _) (v := .bool true) rfl (by kernel_rfl) (by kernel_rfl) (by kernel_rfl) (fun _ _ _ h => h) (Or.inl ⟨by first | (go_simp; done) | rfl, fun X _ => by go_simp⟩) hHeld ?_
    try simp only [Act.put, List.setIfInBounds_toArray, List.set_cons_zero, List.set_cons_succ]
    refine' wpAnyH_take (i := 15) (oi := _) (v := .bool true) rfl (by kernel_rfl) (by kernel_rfl) (by kernel_rfl) (fun _ _ _ h => h) (Or.inl ⟨by first | (go_simp; done) | rfl, fun X _ => by go_simp⟩) hHeld ?_
    try simp only [Act.put, List.setIfInBounds_toArray, List.set_cons_zero, List.set_cons_succ]
    refine' wpAnyH_take (i := 16) (oi := _) (v := _) rfl (by kernel_rfl) (by kernel_rfl) (by kernel_rfl) (fun _ _ _ h => h) (yieldsIf_load_mid (by first | (go_simp; done) | rfl) 25 _ rfl _ _ rfl (gameCells exG (.slice aa 2 ac) (.slice ta 1 tc)) _ (fun X h => Rng.at0 h) Tryz.underlying25 rfl (by kernel_rfl)) hHeld ?_
    try simp only [Act.put, List.setIfInBounds_toArray, List.set_cons_zero, List.set_cons_succ]
    refine wpAnyH_ready (rs := [17]) (by kernel_rfl) (by simp) ?_
    refine AllReadyH.cons (o := _) rfl (fun K hK => ?_) AllReadyH.nil
    go_simp
    obtain ⟨Y25, hY25⟩ : ∃ Y, Y = w18.alloc (.cells #[.int .i64 1, .int .i64 2] 3) := ⟨_, rfl⟩
    have bY250 : Below w18.heap.size w18 Y25 := by rw [hY25]; exact Bel.al (Below.refl _ _) _
    have bY25 : Below w18.heap.size w18 Y25 := bY250
    have nY25 : Rd I64 Y25 (.slice (some ⟨w18.heap.size, 0, none⟩) 2 2) [1, 2] := by rw [hY25]; exact Rd.new [1, 2] rfl rfl (Nat.le_refl _) (by decide) rfl
    rw [← hY25]
    clear hY25
    refine hK.out _ _ (hHeld.keep bY250) (fun hHeld => ?_)
    clear hK K
    try simp only [Act.put, List.setIfInBounds_toArray, List.set_cons_zero, List.set_cons_succ]
    replace rA := rA.keep bY25
    replace gR := gR.below bY25
    replace B := Bel.to B bY25
    refine wpAnyH_ready (rs := [18]) (by kernel_rfl) (by simp) ?_
    refine AllReadyH.cons (o := _) rfl (fun K hK => ?_) AllReadyH.nil
    go_simp
    refine (line16_any _ [1, 2] _ nY25).mono ?_
    rintro e w19 ⟨rfl, hb19⟩
    go_wp2_with fail
    refine hK.out _ _ (hHeld.keep hb19) (fun hHeld => ?_)
    clear hK K
    try simp only [Act.put, List.setIfInBounds_toArray, List.set_cons_zero, List.set_cons_succ]
    replace rA := rA.keep hb19
    replace gR := gR.below hb19
    replace B := Bel.to B hb19
    replace nY25 := nY25.below hb19
    unfold lineVal
    refine wpAnyH_ready (rs := [19]) (by kernel_rfl) (by simp) ?_
    refine AllReadyH.cons (o := _) rfl (fun K hK => ?_) AllReadyH.nil
    go_simp
    obtain ⟨Y26, hY26⟩ : ∃ Y, Y = w19.alloc (.cells #[.slice (some ⟨w18.heap.size, 0, none⟩) 2 2, .slice none 0 0] 43) := ⟨_, rfl⟩
    have bY260 : Below w19.heap.size w19 Y26 := by rw [hY26]; exact Bel.al (Below.refl _ _) _
    have bY26 : Below w19.heap.size w19 Y26 := bY260
    have rl : Row Y26 w19.heap.size 43 [.slice (some ⟨w18.heap.size, 0, none⟩) 2 2, .slice none 0 0] := by rw [hY26]; exact Row.newOf _ rfl
    have hL5 : LinesR Y26 (.slice (some ⟨w19.heap.size, 0, none⟩) 1 1) [([1, 2], [])] := lines_one rl ⟨nY25.below bY26, Rd.nil⟩
    rw [← hY26]
    clear hY26
    refine hK.out _ _ (hHeld.keep bY260) (fun hHeld => ?_)
    clear hK K
    try simp only [Act.put, List.setIfInBounds_toArray, List.set_cons_zero, List.set_cons_succ]
    replace rA := rA.keep bY26
    replace gR := gR.below bY26
    replace B := Bel.to B bY26
    refine' wpAnyH_take (i := 20) (oi := _) (v := .agg #[.slice (some ⟨w19.heap.size, 0, none⟩) 1 1, .bool false, .int .i64 1, .int .i64 4]) rfl (by kernel_rfl) (by kernel_rfl) (by kernel_rfl) (fun _ _ _ h => h) (Or.inl ⟨by first | (go_simp; done) | rfl, fun X _ => by go_simp⟩) hHeld ?_
    try simp only [Act.put, List.setIfInBounds_toArray, List.set_cons_zero, List.set_cons_succ]
    have cC := hide (bCheck_any exG (.slice aa 2 ac) (.slice ta 1 tc) (.slice (some ⟨w19.heap.size, 0, none⟩) 1 1) ms exB5 _ gR hL5)
    rw [ex_bet5] at cC
    unfold gameVal betVal at cC
    refine wpAnyH_ready (rs := [21]) (by kernel_rfl) (by simp) ?_
    refine AllReadyH.cons (o := _) rfl (fun K hK => ?_) AllReadyH.nil
    go_simp
    refine (cC.out).mono ?_
    rintro e w20 ⟨rfl, hb20⟩
    go_wp2_with fail
    refine hK.out _ _ (hHeld.keep hb20) (fun hHeld => ?_)
    clear hK K
    try simp only [Act.put, List.setIfInBounds_toArray, List.set_cons_zero, List.set_cons_succ]
    replace rA := rA.keep hb20
    replace gR := gR.below hb20
    replace B := Bel.to B hb20
    refine' wpAnyH_take (i := 22) (oi := _) (v := .bool true) rfl (by kernel_rfl) (by kernel_rfl) (by kernel_rfl) (fun _ _ _ h => h) (Or.inl ⟨by first | (go_simp; done) | rfl, fun X _ => by go_simp⟩) hHeld ?_
    try simp only [Act.put, List.setIfInBounds_toArray, List.set_cons_zero, List.set_cons_succ]
    refine' wpAnyH_take (i := 23) (oi := _) (v := .bool true) rfl (by kernel_rfl) (by kernel_rfl) (by kernel_rfl) (fun _ _ _ h => h) (Or.inl ⟨by first | (go_simp; done) | rfl, fun X _ => by go_simp⟩) hHeld ?_
    try simp only [Act.put, List.setIfInBounds_toArray, List.set_cons_zero, List.set_cons_succ]
    refine' wpAnyH_take (i := 24) (oi := _) (v := .bool true) rfl (by kernel_rfl) (by kernel_rfl) (by kernel_rfl) (fun _ _ _ h => h) (Or.inl ⟨by first | (go_simp; done) | rfl, fun X _ => by go_simp⟩) hHeld ?_
    try simp only [Act.put, List.setIfInBounds_toArray, List.set_cons_zero, List.set_cons_succ]
    refine wpAnyH_done (by kernel_rfl) ?_ _
    go_simp
    go_wp2
    go_ret
    exact ⟨rfl, B⟩
end Go.Proofs.YtgmbnbdbmkdlgaaGreat
end

section
/- lotterylaw16.few: some truth value. No condition. -/
open Go.RowKit
set_option linter.unusedVariables false
set_option linter.unusedSimpArgs false
namespace Go.Proofs.YtgmbnbdbmkdlgaaGreat

def AnyB (w : World) (e : Ending) (w' : World) : Prop := ∃ q, e = .returned (.bool q) ∧ Below w.heap.size w w'

set_option maxHeartbeats 4000000 in
set_option maxRecDepth 100000 in
theorem few16_any (lv : Value) (B : BetD) (w : World) (hl : LinesR w lv B.lines) :
    Calls Tryz.prog 6 #[betVal lv B] w (AnyB w) := by
  have hll := hide (fun X (hX : Below w.heap.size w X) => hl.below hX)
  obtain ⟨la, lc, rfl, hlc, hlm⟩ := hl.shape
  obtain ⟨n, hnn⟩ : ∃ n, n = B.lines.length := ⟨_, rfl⟩
  rw [← hnn] at hll hlc ⊢
  unfold maxLen at hlm
  replace hnn := hide hnn
  clear hl
  unfold betVal
  by_cases h20 : (20 : Int) < (n : Int)
  · go_enter Tryz.func6, Tryz.ntmps6
    go_upto_region 1 with (fail)
    obtain ⟨W, hW⟩ : ∃ W, W = (w.alloc (Obj.cells #[(.slice la n lc), .bool B.sys, .int .i64 B.draws, .int .i64 B.addons] 28)) := ⟨_, rfl⟩
    have bW : Below w.heap.size w W := by rw [hW]; exact Bel.al (Below.refl _ _) _
    have r0 : Row W ((w.heap.size)) 28 [(.slice la n lc), .bool B.sys, .int .i64 B.draws, .int .i64 B.addons] := by rw [hW]; exact Row.new _ _ _
    have sW : w.heap.size < W.heap.size := by rw [hW]; simp
    rw [← hW]
    clear hW
    have c0 : W.cell? ⟨w.heap.size, 0, none⟩ = some (.slice la n lc) := (r0.cell? 0).trans rfl
    go_wp2
    go_ret
    exact ⟨_, rfl, bW⟩
  · have n20 : (n : Int) ≤ 20 := by omega
    go_enter Tryz.func6, Tryz.ntmps6
    go_upto_region 1 with (fail)
    obtain ⟨W, hW⟩ : ∃ W, W = (w.alloc (Obj.cells #[(.slice la n lc), .bool B.sys, .int .i64 B.draws, .int .i64 B.addons] 28)) := ⟨_, rfl⟩
    have bW : Below w.heap.size w W := by rw [hW]; exact Bel.al (Below.refl _ _) _
    have r0 : Row W ((w.heap.size)) 28 [(.slice la n lc), .bool B.sys, .int .i64 B.draws, .int .i64 B.addons] := by rw [hW]; exact Row.new _ _ _
    have sW : w.heap.size < W.heap.size := by rw [hW]; simp
    rw [← hW]
    clear hW
    have c0 : W.cell? ⟨w.heap.size, 0, none⟩ = some (.slice la n lc) := (r0.cell? 0).trans rfl
    go_wp2
    go_loopg [3] n (fun gh t wr => ∃ k : Nat, gh = n - k ∧ k ≤ n ∧ t = .int .i64 (k : Int) ∧ wr = W)
    case atStart => exact ⟨0, rfl, Nat.zero_le _, rfl, rfl⟩
    case round =>
      obtain ⟨k, hgh, hk, rfl, rfl⟩ := hrel
      replace hgh := hide hgh
      by_cases hlt : k < n
      · have hlt2 := hide hlt
        have hlk : k < B.lines.length := by rw [← hnn.out]; exact hlt
        obtain ⟨b0, off0, p, q, rfl, hb0, x1, y1, hl⟩ := (hll.out wr bW).at_ hlk
        obtain ⟨s1, m1, k1, rfl⟩ := Rd.shape hl.1
        obtain ⟨s2, m2, k2, rfl⟩ := Rd.shape hl.2
        have j1 : (0 : Int) ≤ (k : Int) := by omega
        have j2 : (k : Int) < (n : Int) := by omega
        clear hl
        by_cases h1 : (30 : Int) < (m1 : Int)
        · go_wp2
          go_ret
          exact ⟨_, rfl, bW⟩
        · by_cases h2 : (30 : Int) < (m2 : Int)
          · go_wp2
            go_ret
            exact ⟨_, rfl, bW⟩
          · go_wp2
            go_roundg (n - (k + 1))
            case measure => have := hgh.out; have := hlt2.out; omega
            case rel => exact ⟨k + 1, rfl, by have := hlt2.out; omega, by go_num, rfl⟩
      · have j2 : ¬ (k : Int) < (n : Int) := by omega
        go_wp2
        go_ret
        exact ⟨_, rfl, bW⟩
end Go.Proofs.YtgmbnbdbmkdlgaaGreat
end

/- Lemmas, merged out of smaller texts. No condition. -/
import Derived.Test.YtlppomkpmnpmcaaGreatLine
import Derived.Test.YtlppomkpmnpmcaaGreatProg
import Derived.Laws.Tables
import Derived.Laws.Rows
import Derived.Test.YtlppomkpmnpmcaaGreatLineLaw
import Derived.Test.YtlppomkpmnpmcaaGreatMake
import Derived.Test.YtlppomkpmnpmcaaGreatRow
import Derived.Test.YtlppomkpmnpmcaaGreatCopy
import Derived.Test.YtlppomkpmnpmcaaGreatName
import Derived.BigQuiet
import Derived.Test.YtlppomkpmnpmcaaGreatMB
import Derived.Test.YtlppomkpmnpmcaaGreatMA

section
/- A store of a whole struct into a block that is known whole; a game that is built and handed back. No condition. -/
open Go.RowKit
set_option linter.unusedVariables false
set_option linter.unusedSimpArgs false
namespace Go.Proofs.YtlppomkpmnpmcaaGreat

/-- A guarded load of a whole struct, where the guard lets it by. -/
theorem wpList_load_row_if {P : Program} {ops : Array Oper} {rest : List Oper} {o : Oper} {a : Act} {w : World} {Q : Exit → Act → World → Prop} (hgd : Region.wanted o (yielded ops a.tmps) = true) (ty : TypeId) (x : Operand) (ho : o.op = .load ty x)
    (g : Nat) (hx : a.eval x = .pointer (some ⟨g, 0, none⟩)) (t : TypeId) (cs : List Value) (d : TypeDesc) (hg : Row w g t cs)
    (hu : P.underlying ty = some d) (hd : (match d with | .struct _ | .array _ _ => true | _ => false) = true) (hi : (P.info? ty).map (·.size) = some cs.toArray.size)
    (h : wpList P ops Q rest (a.put o.dst (.agg cs.toArray)) w) : wpList P ops Q (o :: rest) a w :=
  wpList_step fun K hK => by rw [if_pos hgd]; exact wp_load_row ty x ho g hx t cs.toArray (0, 0) d hg hu hd hi (hK _ _ h)

theorem setRow_row {w : World} {g : Nat} {t : TypeId} {old : List Value} (cells : Array Value) (h : Row w g t old) : Row (w.setRow g cells) g t cells.toList := by
  have := setRow_heap w g old.toArray cells t (0, 0) h
  unfold Row
  rw [this]

theorem setRow_grown (w : World) (g : Nat) (cells : Array Value) : w.grownBy (w.setRow g cells) (some g) := by
  refine ⟨rfl, rfl, rfl, by simp [World.setRow], fun k hk hne => ?_⟩
  have : g ≠ k := fun e => hne (by rw [e])
  simp [World.setRow, Array.getElem?_modify, this]

theorem wpList_store_whole {P : Program} {ops : Array Oper} {rest : List Oper} {o : Oper} {a : Act} {w : World} {Q : Exit → Act → World → Prop} (hgd : o.guard = none) (ty : TypeId) (x y : Operand) (ho : o.op = .store ty x y)
    (g : Nat) (cells : Array Value) (hx : a.eval x = .pointer (some ⟨g, 0, none⟩)) (hy : a.eval y = .agg cells)
    (t : TypeId) (old : List Value) (hg : Row w g t old) (hi : (P.info? ty).map (·.size) = some cells.size) (hold : old.length = cells.size) (h1 : cells.all (·.oneCell') = true)
    (h : ∀ w', Row w' g t cells.toList → w.grownBy w' (some g) → wpList P ops Q rest (a.put o.dst undef) w') : wpList P ops Q (o :: rest) a w :=
  wpList_store_row hgd ty x y ho g cells hx hy t old.toArray hg hi (by simpa using hold) h1 (h _ (setRow_row cells hg) (setRow_grown w g cells))

theorem gameCells_one {g : GameD} {av tv : Value} (h1 : ∃ a n c, av = .slice a n c) (h2 : ∃ a n c, tv = .slice a n c) : (gameCells g av tv).toArray.all (·.oneCell') = true := by
  obtain ⟨_, _, _, rfl⟩ := h1
  obtain ⟨_, _, _, rfl⟩ := h2
  simp [gameCells, Value.oneCell']

/-- A game that a call has handed back is laid into a block of its own. -/
theorem wpList_store_game {ops : Array Oper} {rest : List Oper} {o : Oper} {a : Act} {w : World} {Q : Exit → Act → World → Prop} (hgd : o.guard = none) (x y : Operand) (ho : o.op = .store 25 x y)
    (b : Nat) (g : GameD) (av tv : Value) (hx : a.eval x = .pointer (some ⟨b, 0, none⟩)) (hy : a.eval y = gameVal g av tv) (h1 : ∃ a n c, av = .slice a n c) (h2 : ∃ a n c, tv = .slice a n c)
    (old : List Value) (hg : Row w b 25 old) (hold : old.length = 22)
    (h : ∀ w', GameAt w' b g av tv → w.grownBy w' (some b) → wpList Tryz.prog ops Q rest (a.put o.dst undef) w') : wpList Tryz.prog ops Q (o :: rest) a w :=
  wpList_store_whole hgd 25 x y ho b (gameCells g av tv).toArray hx (hy.trans rfl) 25 old hg (by kernel_rfl) hold (gameCells_one h1 h2) h

theorem RdS.nil {α : Type} {sz : Nat} {V : α → List Value} {w : World} : RdS sz V w (.slice none 0 0) [] := ⟨none, 0, rfl, Nat.le_refl _, Nat.zero_le _, fun h => absurd h (by simp)⟩

/-- One element in a block of its own. -/
theorem RdS.one {α : Type} {sz : Nat} {V : α → List Value} {w : World} {g : Nat} {t : TypeId} {x : α} (h : Row w g t (V x)) : RdS sz V w (.slice (some ⟨g, 0, none⟩) 1 1) [x] := by
  refine ⟨_, 1, rfl, Nat.le_refl _, by unfold maxLen; omega, fun _ => ⟨g, 0, rfl, h.lt, fun i y hy j u hu => ?_⟩⟩
  have hi : i = 0 := by
    have := (List.getElem?_eq_some_iff.1 hy).1
    simpa using this
  subst hi
  simp at hy
  subst hy
  rw [show 0 + 0 * sz + j = j by omega, h.cell? j]
  exact hu

/-- A game is handed back. -/
def GameB (g : GameD) (w : World) (e : Ending) (w' : World) : Prop := ∃ av tv ms, e = .returned (gameVal g av tv) ∧ GameR w' av tv ms g ∧ Below w.heap.size w w'

/-- A game with one tier and no add-on. -/
theorem GameR.oneTier {w : World} {g : GameD} {b : Nat} {t : TierD} (h : Row w b 46 (tierCells t)) (ha : g.addons = []) (ht : g.tiers = [t]) : GameR w (.slice none 0 0) (.slice (some ⟨b, 0, none⟩) 1 1) [] g :=
  ⟨⟨RdS.nil, fun i m hm => by simp at hm⟩, by rw [ha]; rfl, by rw [ht]; exact RdS.one h⟩
end Go.Proofs.YtlppomkpmnpmcaaGreat
end

section
/- lotterylaw13.Small: the games of the examples. No condition. -/
open Go.RowKit
set_option linter.unusedVariables false
set_option linter.unusedSimpArgs false
namespace Go.Proofs.YtlppomkpmnpmcaaGreat

def smallG (m o b bo : Int) : GameD := ⟨⟨#[97]⟩, 1, 100, m, o, b, bo, 0, 4, m, 1, 0, 0, 0, 1, 0, 0, 1, 0, 0, [], [⟨m, 0, 0, 0, 1, 0⟩]⟩

set_option maxRecDepth 100000 in
theorem small13_any (m o b bo : Int) (w : World) : Calls Tryz.prog 8 #[.int .i64 m, .int .i64 o, .int .i64 b, .int .i64 bo] w (GameB (smallG m o b bo) w) := by
  go_enter Tryz.func8, Tryz.ntmps8
  go_upto_region 1 with (fail)
  obtain ⟨W, hW⟩ : ∃ W, W = (w.alloc (Obj.cells #[.string ⟨#[]⟩, .int .i64 0, .int .i64 0, .int .i64 0, .int .i64 0, .int .i64 0, .int .i64 0, .int .i64 0, .int .i64 0, .int .i64 0, .int .i64 0, .int .i64 0, .int .i64 0, .int .i64 0, .int .i64 0, .int .i64 0, .int .i64 0, .int .i64 0, .int .i64 0, .int .i64 0, .slice none 0 0, .slice none 0 0] 25)) := ⟨_, rfl⟩
  have bW : Below w.heap.size w W := by rw [hW]; exact Bel.al (Below.refl _ _) _
  have r0 : Row W ((w.heap.size)) 25 [.string ⟨#[]⟩, .int .i64 0, .int .i64 0, .int .i64 0, .int .i64 0, .int .i64 0, .int .i64 0, .int .i64 0, .int .i64 0, .int .i64 0, .int .i64 0, .int .i64 0, .int .i64 0, .int .i64 0, .int .i64 0, .int .i64 0, .int .i64 0, .int .i64 0, .int .i64 0, .int .i64 0, .slice none 0 0, .slice none 0 0] := by rw [hW]; exact Row.new _ _ _
  have sW : w.heap.size < W.heap.size := by rw [hW]; simp
  rw [← hW]
  clear hW
  go_wp2_with (first | (with_reducible refine wpList_store_whole rfl 25 _ _ rfl w.heap.size _ rfl rfl 25 _ (Row.alloc r0 _) ?_ ?_ ?_ ?_) | fail)
  case refine_1 => kernel_rfl
  case refine_2 => rfl
  case refine_3 => simp [Value.oneCell']
  intro W2 hrow hgr
  have hw : Below w.heap.size w W2 := Below.grown (Bel.al bW _) hgr (by simp; omega) (fun k hk => by injection hk with hk; omega)
  have htier : Row W2 W.heap.size 46 (tierCells ⟨m, 0, 0, 0, 1, 0⟩) := Row.grown (Row.new W 46 (tierCells ⟨m, 0, 0, 0, 1, 0⟩)) hgr (by intro e; injection e with e; omega)
  have hG : GameR W2 (.slice none 0 0) (.slice (some ⟨W.heap.size, 0, none⟩) 1 1) [] (smallG m o b bo) := GameR.oneTier htier rfl rfl
  go_wp2
  exact bodyPost_ret (v := gameVal (smallG m o b bo) (.slice none 0 0) (.slice (some ⟨W.heap.size, 0, none⟩) 1 1)) (results_cell_row rfl _ _ w.heap.size 25 _ (0, 0) _ rfl hrow Tryz.underlying25 rfl (by kernel_rfl)) rfl ⟨_, _, _, rfl, hG, hw⟩
end Go.Proofs.YtlppomkpmnpmcaaGreat
end

section
/- Plain: the examples of lines. No condition. -/
set_option linter.unusedVariables false
set_option linter.unusedSimpArgs false
namespace Go.Proofs.YtlppomkpmnpmcaaGreat

theorem ex_choose : choose 5 2 = 10 ∧ choose 4 2 = 6 ∧ choose 3 1 = 3 ∧ choose 0 0 = 1 := by
  rw [choose_fast, choose_fast, choose_fast, choose_fast]; decide
theorem ex_gameA : gameE (smallG 2 5 0 0) = 0 := by decide
theorem ex_gameB : gameE (smallG 2 4 1 3) = 0 := by decide
theorem ex_countA : countP (smallG 2 5 0 0) = (10, 0) := by
  unfold countP
  rw [if_pos ex_gameA]
  have : countG (smallG 2 5 0 0) = choose 5 2 * choose 0 0 := rfl
  rw [this, ex_choose.1, ex_choose.2.2.2]; rfl
theorem ex_countB : countP (smallG 2 4 1 3) = (18, 0) := by
  unfold countP
  rw [if_pos ex_gameB]
  have : countG (smallG 2 4 1 3) = choose 4 2 * choose 3 1 := rfl
  rw [this, ex_choose.2.1, ex_choose.2.2.1]; rfl
theorem ex_sort1 : sortI [5, 1] = [1, 5] := (sortI_eq (by decide) (by decide)).symm
theorem ex_sort2 : sortI [1, 3] = [1, 3] := sortI_of (by decide)
theorem ex_sort3 : sortI [2] = [2] := sortI_of (by decide)
theorem ex_lineA : lineE (smallG 2 5 0 0) [5, 1] [] = 0 := by decide
theorem ex_lineB : lineE (smallG 2 4 1 3) [1, 3] [2] = 0 := by decide
theorem ex_line1 : lineE (smallG 2 5 0 0) [1] [] = 3 := by decide
theorem ex_line2 : lineE (smallG 2 5 0 0) [6, 6] [] = 2 := by decide
theorem ex_line3 : lineE (smallG 2 5 0 0) [3, 3] [] = 6 := by decide
theorem ex_rankA : rankP (smallG 2 5 0 0) [5, 1] [] = (3, 0) := by
  unfold rankP
  rw [if_pos ex_lineA]
  have : rankG (smallG 2 5 0 0) [5, 1] [] = ((rankL 5 0 (sortI [5, 1]) * choose 0 0 + rankL 0 0 (sortI []) : Nat) : Int) := rfl
  rw [this, ex_sort1, sortI_nil, ex_choose.2.2.2]
  have e : rankL 5 0 [1, 5] = 3 := by simp [rankL, sumC, choose_fast, chooseF]
  rw [e]; rfl
theorem ex_rankB : rankP (smallG 2 4 1 3) [1, 3] [2] = (4, 0) := by
  unfold rankP
  rw [if_pos ex_lineB]
  have : rankG (smallG 2 4 1 3) [1, 3] [2] = ((rankL 4 0 (sortI [1, 3]) * choose 3 1 + rankL 3 0 (sortI [2]) : Nat) : Int) := rfl
  rw [this, ex_sort2, ex_sort3, ex_choose.2.2.1]
  have e : rankL 4 0 [1, 3] = 1 := by simp [rankL, sumC, choose_fast, chooseF]
  have e2 : rankL 3 0 [2] = 1 := by simp [rankL, sumC, choose_fast, chooseF]
  rw [e, e2]; rfl
theorem ex_unrankB : unrankP (smallG 2 4 1 3) 17 = (([3, 4], [3]), 0) := by
  unfold unrankP
  have hc : countG (smallG 2 4 1 3) = 18 := by
    have : countG (smallG 2 4 1 3) = choose 4 2 * choose 3 1 := rfl
    rw [this, ex_choose.2.1, ex_choose.2.2.1]
  rw [if_neg (by simpa using ex_gameB), hc, if_neg (by omega)]
  have : unrankG (smallG 2 4 1 3) (17 : Int).toNat = (unrankL 4 1 (17 / choose 3 1) 2, unrankL 3 1 (17 % choose 3 1) 1) := rfl
  rw [this, ex_choose.2.2.1]
  simp [unrankL, choose_fast, chooseF]
end Go.Proofs.YtlppomkpmnpmcaaGreat
end

section
/- matrix.Unrank. No condition. -/
open Go.RowKit
set_option linter.unusedVariables false
set_option linter.unusedSimpArgs false
namespace Go.Proofs.YtlppomkpmnpmcaaGreat

/-- A line and a code. -/
def LineC (a b : List Int) (c : Int) (w : World) (e : Ending) (w' : World) : Prop := ∃ u v, e = .returned (.tuple #[lineVal u v, .int .i64 c]) ∧ LineR w' u v a b ∧ Below w.heap.size w w'

set_option maxHeartbeats 2000000 in
set_option maxRecDepth 100000 in
theorem munrank_bad (g : GameD) (av tv : Value) (ms : List AddonM) (r : Int) (w : World) (h : GameR w av tv ms g) (he : gameE g ≠ 0) :
    Calls Tryz.prog 10 #[gameVal g av tv, .int .i64 r] w (LineC [] [] (gameE g) w) := by
  have hc := hide (fun X (hX : GameR X av tv ms g) => mcount_any g av tv ms X hX)
  have hcp : countP g = (0, gameE g) := if_neg he
  rw [hcp] at hc
  have hh := hide h
  obtain ⟨aa, ac, rfl, hal, ham⟩ := h.1.1.shape
  obtain ⟨ta, tc, rfl, htl, htm⟩ := h.2.2.shape
  clear h
  obtain ⟨c, hcc⟩ : ∃ c, c = gameE g := ⟨_, rfl⟩
  rw [← hcc] at hc he ⊢
  clear hcc hcp
  have hcb : (c != 0) = true := by simpa using he
  replace he := hide he
  unfold gameVal
  go_enter Tryz.func10, Tryz.ntmps10
  go_upto_region 1 with (fail)
  obtain ⟨W, hW⟩ : ∃ W, W = ((w.alloc (Obj.cells #[.string g.name, .int .i64 g.kind, .int .i64 g.price, .int .i64 g.main, .int .i64 g.of, .int .i64 g.bonus, .int .i64 g.bonusOf, .int .i64 g.extra, .int .i64 g.draws, .int .i64 g.system, .int .i64 g.days, .int .i64 g.at_, .int .i64 g.close, .int .i64 g.cancel, .int .i64 g.expiry, .int .i64 g.pool, .int .i64 g.reserve, .int .i64 g.round, .int .i64 g.cap, .int .i64 g.rolls, (.slice aa ms.length ac), (.slice ta g.tiers.length tc)] 25)).alloc (Obj.cells #[(.slice none 0 0), (.slice none 0 0)] 28)) := ⟨_, rfl⟩
  have bW : Below w.heap.size w W := by rw [hW]; exact Bel.al (Bel.al (Below.refl _ _) _) _
  have r0 : GameAt W (w.heap.size) g ((.slice aa ms.length ac)) ((.slice ta g.tiers.length tc)) := by rw [hW]; exact Row.alloc (Row.new _ _ _) _
  have r1 : LineAt W (w.heap.size + 1) ((.slice none 0 0)) ((.slice none 0 0)) := by rw [hW]; exact Row.at2 _ _ _ _
  have sW : w.heap.size + 1 < W.heap.size := by rw [hW]; simp
  rw [← hW]
  clear hW
  go_wp2_with (first | (refine wpList_load_row rfl 25 _ rfl _ rfl _ _ _ _ r0 Tryz.underlying25 rfl (by kernel_rfl) ?_) | fail)
  refine (hc.out _ (hh.out.below bW)).mono ?_
  rintro e w1 ⟨rfl, hb1⟩
  have B1 := Bel.to bW hb1
  have r0 := r0.keep hb1
  have r1 := r1.keep hb1
  have z1 : w.heap.size + 1 < w1.heap.size := by have := hb1.size; omega
  clear hb1
  have x0 := LineAt.main r1
  have x1 := LineAt.bonus r1
  have x2 := Row.frozen r1 0
  have x3 := Row.frozen r1 1
  have rL : LineAt ((w1.setCell ⟨w.heap.size + 1, 0, none⟩ (.slice none 0 0)).setCell ⟨w.heap.size + 1, 1, none⟩ (.slice none 0 0)) (w.heap.size + 1) (.slice none 0 0) (.slice none 0 0) := LineAt.store r1 _ _
  have y0 := hide rL.main
  have y1 := hide rL.bonus
  have B9 := Bel.st (Bel.st B1 (p := ⟨w.heap.size + 1, 0, none⟩) (by simp) (.slice none 0 0)) (p := ⟨w.heap.size + 1, 1, none⟩) (by simp) (.slice none 0 0)
  clear rL
  go_wp2
  exact bodyPost_ret (v := .tuple #[.agg #[.slice none 0 0, .slice none 0 0], .int .i64 c]) (by simp [results, Tryz.results10, go_sem, y0.out, y1.out]) rfl ⟨_, _, rfl, ⟨Rd.nil, Rd.nil⟩, B9⟩

set_option maxHeartbeats 2000000 in
set_option maxRecDepth 100000 in
theorem munrank_range (g : GameD) (av tv : Value) (ms : List AddonM) (r : Int) (w : World) (h : GameR w av tv ms g) (he : gameE g = 0) (hr : r < 0 ∨ (countG g : Int) ≤ r) :
    Calls Tryz.prog 10 #[gameVal g av tv, .int .i64 r] w (LineC [] [] 2 w) := by
  have hc := hide (fun X (hX : GameR X av tv ms g) => mcount_any g av tv ms X hX)
  have hcp : countP g = ((countG g : Int), 0) := if_pos he
  rw [hcp] at hc
  have hh := hide h
  obtain ⟨aa, ac, rfl, hal, ham⟩ := h.1.1.shape
  obtain ⟨ta, tc, rfl, htl, htm⟩ := h.2.2.shape
  clear h
  obtain ⟨c, hcc⟩ : ∃ c, c = countG g := ⟨_, rfl⟩
  rw [← hcc] at hc hr
  clear hcc hcp he
  have hcase : r < 0 ∨ (¬ r < 0 ∧ (c : Int) ≤ r) := by omega
  clear hr
  rcases hcase with hr | ⟨hr, hr2⟩
  all_goals
    unfold gameVal
    go_enter Tryz.func10, Tryz.ntmps10
    go_upto_region 1 with (fail)
    obtain ⟨W, hW⟩ : ∃ W, W = ((w.alloc (Obj.cells #[.string g.name, .int .i64 g.kind, .int .i64 g.price, .int .i64 g.main, .int .i64 g.of, .int .i64 g.bonus, .int .i64 g.bonusOf, .int .i64 g.extra, .int .i64 g.draws, .int .i64 g.system, .int .i64 g.days, .int .i64 g.at_, .int .i64 g.close, .int .i64 g.cancel, .int .i64 g.expiry, .int .i64 g.pool, .int .i64 g.reserve, .int .i64 g.round, .int .i64 g.cap, .int .i64 g.rolls, (.slice aa ms.length ac), (.slice ta g.tiers.length tc)] 25)).alloc (Obj.cells #[(.slice none 0 0), (.slice none 0 0)] 28)) := ⟨_, rfl⟩
    have bW : Below w.heap.size w W := by rw [hW]; exact Bel.al (Bel.al (Below.refl _ _) _) _
    have r0 : GameAt W (w.heap.size) g ((.slice aa ms.length ac)) ((.slice ta g.tiers.length tc)) := by rw [hW]; exact Row.alloc (Row.new _ _ _) _
    have r1 : LineAt W (w.heap.size + 1) ((.slice none 0 0)) ((.slice none 0 0)) := by rw [hW]; exact Row.at2 _ _ _ _
    have sW : w.heap.size + 1 < W.heap.size := by rw [hW]; simp
    rw [← hW]
    clear hW
    go_wp2_with (first | (refine wpList_load_row rfl 25 _ rfl _ rfl _ _ _ _ r0 Tryz.underlying25 rfl (by kernel_rfl) ?_) | fail)
    refine (hc.out _ (hh.out.below bW)).mono ?_
    rintro e w1 ⟨rfl, hb1⟩
    have B1 := Bel.to bW hb1
    have r0 := r0.keep hb1
    have r1 := r1.keep hb1
    have z1 : w.heap.size + 1 < w1.heap.size := by have := hb1.size; omega
    clear hb1
    have x0 := LineAt.main r1
    have x1 := LineAt.bonus r1
    have x2 := Row.frozen r1 0
    have x3 := Row.frozen r1 1
    have rL : LineAt ((w1.setCell ⟨w.heap.size + 1, 0, none⟩ (.slice none 0 0)).setCell ⟨w.heap.size + 1, 1, none⟩ (.slice none 0 0)) (w.heap.size + 1) (.slice none 0 0) (.slice none 0 0) := LineAt.store r1 _ _
    have y0 := hide rL.main
    have y1 := hide rL.bonus
    have B9 := Bel.st (Bel.st B1 (p := ⟨w.heap.size + 1, 0, none⟩) (by simp) (.slice none 0 0)) (p := ⟨w.heap.size + 1, 1, none⟩) (by simp) (.slice none 0 0)
    clear rL
    go_wp2
    exact bodyPost_ret (v := .tuple #[.agg #[.slice none 0 0, .slice none 0 0], .int .i64 2]) (by simp [results, Tryz.results10, go_sem, y0.out, y1.out]) rfl ⟨_, _, rfl, ⟨Rd.nil, Rd.nil⟩, B9⟩

set_option maxHeartbeats 4000000 in
set_option maxRecDepth 100000 in
theorem munrank_digits (g : GameD) (av tv : Value) (ms : List AddonM) (r : Nat) (w : World) (h : GameR w av tv ms g) (he : gameE g = 0) (hk : g.kind = 2) (hr : r < countG g) :
    Calls Tryz.prog 10 #[gameVal g av tv, .int .i64 (r : Int)] w (LineC (digitsL g.of.toNat g.main.toNat r) [] 0 w) := by
  have hc := hide (fun X (hX : GameR X av tv ms g) => mcount_any g av tv ms X hX)
  have hcp : countP g = ((countG g : Int), 0) := if_pos he
  rw [hcp] at hc
  have hh := hide h
  obtain ⟨aa, ac, rfl, hal, ham⟩ := h.1.1.shape
  obtain ⟨ta, tc, rfl, htl, htm⟩ := h.2.2.shape
  clear h
  have hf := mat_facts (game_mat he)
  obtain ⟨f1, f2, f3, f4, f5, f6, f7, f8, f9, f10, f11⟩ := hf
  obtain ⟨e1, e2⟩ := f7 hk
  have hcg : countG g ≤ 10000000000 := by
    have : countG g = g.of.toNat ^ g.main.toNat := if_pos hk
    rw [this]
    exact pow_ten (by omega) (by omega)
  obtain ⟨c, hcc⟩ : ∃ c, c = countG g := ⟨_, rfl⟩
  rw [← hcc] at hc hr hcg
  have hkb : (g.kind == 2) = true := by simpa using hk
  obtain ⟨n, hn⟩ : ∃ n : Nat, g.main = n := ⟨g.main.toNat, by omega⟩
  obtain ⟨q, hq⟩ : ∃ n : Nat, g.of = n := ⟨g.of.toNat, by omega⟩
  rw [hn, hq, Int.toNat_natCast, Int.toNat_natCast]
  have hq2 : 2 ≤ q := by omega
  have hq10 : q ≤ 10 := by omega
  have hn1 : 1 ≤ n := by omega
  have hn10 : n ≤ 10 := by omega
  have hrc : (r : Int) < (c : Int) := by omega
  replace hn := hide hn
  replace hq := hide hq
  replace hk := hide hk
  clear hcc hcp he f1 f2 f3 f4 f5 f6 f7 f8 f9 f10 f11 e1 e2
  unfold gameVal
  go_enter Tryz.func10, Tryz.ntmps10
  go_upto_region 1 with (fail)
  obtain ⟨W, hW⟩ : ∃ W, W = ((w.alloc (Obj.cells #[.string g.name, .int .i64 g.kind, .int .i64 g.price, .int .i64 g.main, .int .i64 g.of, .int .i64 g.bonus, .int .i64 g.bonusOf, .int .i64 g.extra, .int .i64 g.draws, .int .i64 g.system, .int .i64 g.days, .int .i64 g.at_, .int .i64 g.close, .int .i64 g.cancel, .int .i64 g.expiry, .int .i64 g.pool, .int .i64 g.reserve, .int .i64 g.round, .int .i64 g.cap, .int .i64 g.rolls, (.slice aa ms.length ac), (.slice ta g.tiers.length tc)] 25)).alloc (Obj.cells #[(.slice none 0 0), (.slice none 0 0)] 28)) := ⟨_, rfl⟩
  have bW : Below w.heap.size w W := by rw [hW]; exact Bel.al (Bel.al (Below.refl _ _) _) _
  have r0 : GameAt W (w.heap.size) g ((.slice aa ms.length ac)) ((.slice ta g.tiers.length tc)) := by rw [hW]; exact Row.alloc (Row.new _ _ _) _
  have r1 : LineAt W (w.heap.size + 1) ((.slice none 0 0)) ((.slice none 0 0)) := by rw [hW]; exact Row.at2 _ _ _ _
  have sW : w.heap.size + 1 < W.heap.size := by rw [hW]; simp
  rw [← hW]
  clear hW
  go_wp2_with (first | (refine wpList_load_row rfl 25 _ rfl _ rfl _ _ _ _ r0 Tryz.underlying25 rfl (by kernel_rfl) ?_) | fail)
  refine (hc.out _ (hh.out.below bW)).mono ?_
  rintro e w1 ⟨rfl, hb1⟩
  have B1 := Bel.to bW hb1
  have r0 := r0.keep hb1
  have r1 := r1.keep hb1
  have z1 : w.heap.size + 1 < w1.heap.size := by have := hb1.size; omega
  clear hb1
  have d1 := r0.kind
  have d3 := r0.main
  have d4 := r0.of
  rw [hn.out] at d3
  rw [hq.out] at d4
  clear r0 bW hh hc
  go_wp2_with (with_reducible refine wpList_make_row _ rfl _ _ 26 rfl 3 (.int .i64 0) 8 Tryz.underlying26 infoInt rfl .i64 .i64 _ _ n n rfl rfl rfl rfl (Nat.le_refl _) (by omega) (by omega) ?_; intro w2 hrow hb2 hz2; have d4 := Bel.cellOf hb2 d4; have d3 := Bel.cellOf hb2 d3)
  have r1 := r1.keep hb2
  have B2 := Bel.to B1 hb2
  have hrow0 : Row w2 w1.heap.size 3 ((List.replicate n (0 : Int) ++ []).map I64) := by
    rw [List.append_nil, List.map_replicate]; exact hrow
  have z2 : w1.heap.size < w2.heap.size := by omega
  have hG0 := Gb.refl w2 (some w1.heap.size)
  obtain ⟨gb, hgb⟩ : ∃ gb, gb = w1.heap.size := ⟨_, rfl⟩
  rw [← hgb] at hrow0 hG0 z1 z2 ⊢
  have hgw : w.heap.size ≤ gb := by omega
  clear hrow hb2 hz2 B1 hgb d1
  go_wp2
  go_loopg [1, 9] (n + 1) (fun gh rr t wr => ∃ (k R : Nat) (D : List Int) (x : Int), gh = k + 1 ∧ k ≤ n ∧ rr = .int .i64 (R : Int) ∧ t = .int .i64 x ∧ R ≤ 10000000000 ∧ w2.grownBy wr (some gb) ∧ Row wr gb 3 ((List.replicate k (0 : Int) ++ D).map I64) ∧ Hid (x = (k : Int) - 1) ∧ Hid (digitsL q k R ++ D = digitsL q n r))
  case atStart =>
    refine ⟨n, r, [], (n : Int) - 1, rfl, Nat.le_refl _, rfl, rfl, by omega, hG0, hrow0, rfl, ?_⟩
    show _ = _
    rw [List.append_nil]
  case round =>
    obtain ⟨k, R, D, x, hg, hkn, rfl, rfl, hR, hgr, hrow, hx, hD⟩ := hrel
    replace hg := hide hg
    have d4 := Gb.cellOf hgr d4 (by omega)
    cases k with
    | zero =>
      have hx0 : x = -1 := by have := hx.out; omega
      subst hx0
      have hD0 : D = digitsL q n r := by have := hD.out; rw [digitsL, List.nil_append] at this; exact this
      have hrd : Rd I64 wr (.slice (some ⟨gb, 0, none⟩) n n) D := by
        rw [List.replicate_zero, List.nil_append] at hrow
        exact hrow.rdAll (by rw [hD0, digitsL_len]) (Nat.le_refl _) (by omega)
      have r1 := Row.grown r1 hgr (by intro e; injection e with e; omega)
      have B3 := Gb.bel B2 hgr hgw
      replace hD0 := hide hD0
      replace hD := hide hD
      have x0 := LineAt.main r1
      have x1 := LineAt.bonus r1
      have x2 := Row.frozen r1 0
      have x3 := Row.frozen r1 1
      have rL : LineAt ((wr.setCell ⟨w.heap.size + 1, 0, none⟩ (.slice (some ⟨gb, 0, none⟩) n n)).setCell ⟨w.heap.size + 1, 1, none⟩ (.slice none 0 0)) (w.heap.size + 1) (.slice (some ⟨gb, 0, none⟩) n n) (.slice none 0 0) := LineAt.store r1 _ _
      have y0 := hide rL.main
      have y1 := hide rL.bonus
      have B9 := Bel.st (Bel.st B3 (p := ⟨w.heap.size + 1, 0, none⟩) (by simp) (.slice (some ⟨gb, 0, none⟩) n n)) (p := ⟨w.heap.size + 1, 1, none⟩) (by simp) (.slice none 0 0)
      clear rL
      go_wp2
      have hrd2 := (hrd.setCell (p := ⟨w.heap.size + 1, 0, none⟩) (by simp [Value.ownBlock]; omega) (.slice (some ⟨gb, 0, none⟩) n n)).setCell (p := ⟨w.heap.size + 1, 1, none⟩) (by simp [Value.ownBlock]; omega) (.slice none 0 0)
      rw [hD0.out] at hrd2
      exact bodyPost_ret (v := .tuple #[.agg #[.slice (some ⟨gb, 0, none⟩) n n, .slice none 0 0], .int .i64 0]) (by simp [results, Tryz.results10, go_sem, y0.out, y1.out]) rfl ⟨_, _, rfl, ⟨hrd2, Rd.nil⟩, B9⟩
    | succ j =>
      have hxj : x = (j : Int) := by have := hx.out; omega
      subst hxj
      have hD1 : digitsL q j (R / q) ++ (((R % q : Nat) : Int) :: D) = digitsL q n r := by
        have := hD.out; rw [digitsL, List.append_assoc] at this; exact this
      have hset : (List.replicate (j + 1) (0 : Int) ++ D).set j ((R % q : Nat) : Int) = List.replicate j 0 ++ (((R % q : Nat) : Int) :: D) := by
        rw [List.replicate_succ', List.append_assoc, List.set_append_right _ _ (by simp)]
        simp
      have hrow2 := hrow.setV j (((R % q : Nat) : Int))
      rw [hset] at hrow2
      have hgr2 := Gb.set (g := gb) hgr (p := ⟨gb, j, none⟩) (.inl rfl) (I64 ((R % q : Nat) : Int))
      have hlen : ((List.replicate (j + 1) (0 : Int) ++ D).map I64).length = n := by
        have := congrArg List.length hD.out
        rw [List.length_append, digitsL_len, digitsL_len] at this
        rw [List.length_map, List.length_append, List.length_replicate]; exact this
      have ce := Row.cell hrow (i := j) (by omega)
      have cf := Row.frozen hrow j
      have j1 : (0 : Int) ≤ (j : Int) := by omega
      have j2 : (j : Int) < (n : Int) := by omega
      have m1 : (R : Int) % (q : Int) = ((R % q : Nat) : Int) := by simp
      have m2 : (R : Int) / (q : Int) = ((R / q : Nat) : Int) := by simp
      have m3 : R / q ≤ 10000000000 := Nat.le_trans (Nat.div_le_self _ _) hR
      obtain ⟨R2, hR2⟩ : ∃ R2, R2 = R / q := ⟨_, rfl⟩
      rw [← hR2] at m2 m3 hD1
      have q0 : ((q : Int) == 0) = false := by simp; omega
      have q1 : (q : Int) ≠ 0 := by omega
      rw [show I64 ((R % q : Nat) : Int) = .int .i64 ((R : Int) % (q : Int)) by rw [m1]] at hrow2 hgr2
      replace m1 := hide m1
      replace m2 := hide m2
      replace hR2 := hide hR2
      replace m3 := hide m3
      replace hD1 := hide hD1
      replace hset := hide hset
      replace hlen := hide hlen
      go_wp2
      go_roundg (j + 1)
      case measure => have := hg.out; omega
      case rel => exact ⟨j, R2, _ :: D, (j : Int) - 1, rfl, by omega, by rw [m2.out]; first | rfl | (rw [IntWalk.wrap64_in _ (by have := m3.out; omega)]), rfl, m3.out, hgr2, hrow2, rfl, hD1⟩

/-- What the two parts of a rank come to. -/
theorem unrank_facts {g : GameD} {r : Nat} (he : gameE g = 0) (hk : g.kind ≠ 2) (hr : r < countG g) :
    0 < bonusN g ∧ bonusN g ≤ 1581580 ∧ r / bonusN g < choose g.of.toNat g.main.toNat ∧ r % bonusN g < bonusN g ∧ choose g.of.toNat g.main.toNat ≤ 1646492110120 ∧
    g.of = ((g.of.toNat : Nat) : Int) ∧ g.main = ((g.main.toNat : Nat) : Int) ∧ g.bonusOf = ((g.bonusOf.toNat : Nat) : Int) ∧ g.bonus = ((g.bonus.toNat : Nat) : Int) ∧
    g.of.toNat ≤ 80 ∧ g.bonusOf.toNat ≤ 80 ∧ g.main.toNat ≤ g.of.toNat ∧ g.bonus.toNat ≤ g.bonusOf.toNat ∧ r ≤ 2604058991523589600 := by
  have hf := mat_facts (game_mat he)
  have hc : countG g = choose g.of.toNat g.main.toNat * bonusN g := if_neg hk
  rw [hc] at hr
  have hN : 0 < bonusN g := choose_pos (by omega)
  have b1 : choose g.of.toNat g.main.toNat ≤ 1646492110120 := choose_main (by omega) (by omega)
  have b2 : bonusN g ≤ 1581580 := choose_bonus (by omega) (by omega)
  have b3 := Nat.mul_le_mul b1 b2
  refine ⟨hN, b2, ?_, Nat.mod_lt _ hN, b1, by omega, by omega, by omega, by omega, by omega, by omega, by omega, by omega, by omega⟩
  exact Nat.div_lt_of_lt_mul (by rw [Nat.mul_comm]; exact hr)

theorem unrankV_in {r n k : Nat} (hn : n ≤ 80) (hk : k ≤ n) (hx : choose n k ≤ 9223372036854775807) (hr : r < choose n k) (x a b : Int) (e1 : x = r) (e2 : a = n) (e3 : b = k) : unrankV x a b = (unrankL n 1 r k, 0) := by
  subst e1 e2 e3
  unfold unrankV
  rw [if_pos ⟨by omega, by omega, by omega, by omega⟩]
  simp only [Int.toNat_natCast]
  rw [if_pos hx, if_pos ⟨by omega, by omega⟩]

set_option maxHeartbeats 4000000 in
set_option maxRecDepth 100000 in
theorem munrank_choose (g : GameD) (av tv : Value) (ms : List AddonM) (r : Nat) (w : World) (h : GameR w av tv ms g) (he : gameE g = 0) (hk : g.kind ≠ 2) (hr : r < countG g) :
    Calls Tryz.prog 10 #[gameVal g av tv, .int .i64 (r : Int)] w (LineC (unrankG g r).1 (unrankG g r).2 0 w) := by
  have hc := hide (fun X (hX : GameR X av tv ms g) => mcount_any g av tv ms X hX)
  have hcp : countP g = ((countG g : Int), 0) := if_pos he
  rw [hcp] at hc
  have hh := hide h
  obtain ⟨aa, ac, rfl, hal, ham⟩ := h.1.1.shape
  obtain ⟨ta, tc, rfl, htl, htm⟩ := h.2.2.shape
  clear h
  obtain ⟨n1, n2, f1, f2, f3, o1, o2, o3, o4, m1, m2, m3, m4, hrb⟩ := unrank_facts he hk hr
  have hug : unrankG g r = (unrankL g.of.toNat 1 (r / bonusN g) g.main.toNat, unrankL g.bonusOf.toNat 1 (r % bonusN g) g.bonus.toNat) := if_neg hk
  rw [hug]
  have cN := hide (count_any g.bonusOf g.bonus)
  rw [countV_fit o3 o4 m2 (Nat.le_trans n2 (by omega))] at cN
  obtain ⟨N, hN⟩ : ∃ N, N = bonusN g := ⟨_, rfl⟩
  rw [show choose g.bonusOf.toNat g.bonus.toNat = N from hN.symm] at cN
  rw [← hN] at n1 n2 f1 f2 ⊢
  obtain ⟨a, ha⟩ : ∃ a, a = r / N := ⟨_, rfl⟩
  obtain ⟨b, hb⟩ : ∃ b, b = r % N := ⟨_, rfl⟩
  rw [← ha] at f1 ⊢
  rw [← hb] at f2 ⊢
  have cU := hide (unrank_any (a : Int) g.of g.main)
  rw [unrankV_in m1 m3 (by omega) f1 _ _ _ rfl o1 o2] at cU
  have cV := hide (unrank_any (b : Int) g.bonusOf g.bonus)
  rw [unrankV_in m2 m4 (show choose g.bonusOf.toNat g.bonus.toNat ≤ 9223372036854775807 by rw [show choose g.bonusOf.toNat g.bonus.toNat = N from hN.symm]; omega) (by rw [show choose g.bonusOf.toNat g.bonus.toNat = N from hN.symm]; exact f2) _ _ _ rfl o3 o4] at cV
  have t1 : Int.tdiv (r : Int) (N : Int) = (a : Int) := by rw [Int.tdiv_eq_ediv_of_nonneg (by omega), ha]; simp
  have t2 : Int.tmod (r : Int) (N : Int) = (b : Int) := by rw [Int.tmod_eq_emod_of_nonneg (by omega), hb]; simp
  have t3 : (r : Int) / (N : Int) = (a : Int) := by rw [ha]; simp
  have t4 : (r : Int) % (N : Int) = (b : Int) := by rw [hb]; simp
  have ba : a ≤ 1646492110120 := by omega
  have bb : b ≤ 1581580 := by omega
  have q0 : ((N : Int) == 0) = false := by simp; omega
  have q1 : (N : Int) ≠ 0 := by omega
  have q2 : N ≠ 0 := by omega
  have q3 : (N == 0) = false := by simp; omega
  have t5 : IntKind.i64.wrap (a : Int) = (a : Int) := IntWalk.i64_in _ (by omega)
  have t6 : IntKind.i64.wrap (b : Int) = (b : Int) := IntWalk.i64_in _ (by omega)
  obtain ⟨c, hcc⟩ : ∃ c, c = countG g := ⟨_, rfl⟩
  rw [← hcc] at hc hr
  have hrc : (r : Int) < (c : Int) := by omega
  have hkb : (g.kind == 2) = false := by simpa using hk
  obtain ⟨L1, hL1⟩ : ∃ L, L = unrankL g.of.toNat 1 a g.main.toNat := ⟨_, rfl⟩
  obtain ⟨L2, hL2⟩ : ∃ L, L = unrankL g.bonusOf.toNat 1 b g.bonus.toNat := ⟨_, rfl⟩
  rw [← hL1] at cU ⊢
  rw [← hL2] at cV ⊢
  replace hk := hide hk
  clear hcc hcp he hN ha hb hL1 hL2 o1 o2 o3 o4 m1 m2 m3 m4 f1 f2 f3 hug
  unfold gameVal
  go_enter Tryz.func10, Tryz.ntmps10
  go_upto_region 1 with (fail)
  obtain ⟨W, hW⟩ : ∃ W, W = ((w.alloc (Obj.cells #[.string g.name, .int .i64 g.kind, .int .i64 g.price, .int .i64 g.main, .int .i64 g.of, .int .i64 g.bonus, .int .i64 g.bonusOf, .int .i64 g.extra, .int .i64 g.draws, .int .i64 g.system, .int .i64 g.days, .int .i64 g.at_, .int .i64 g.close, .int .i64 g.cancel, .int .i64 g.expiry, .int .i64 g.pool, .int .i64 g.reserve, .int .i64 g.round, .int .i64 g.cap, .int .i64 g.rolls, (.slice aa ms.length ac), (.slice ta g.tiers.length tc)] 25)).alloc (Obj.cells #[(.slice none 0 0), (.slice none 0 0)] 28)) := ⟨_, rfl⟩
  have bW : Below w.heap.size w W := by rw [hW]; exact Bel.al (Bel.al (Below.refl _ _) _) _
  have r0 : GameAt W (w.heap.size) g ((.slice aa ms.length ac)) ((.slice ta g.tiers.length tc)) := by rw [hW]; exact Row.alloc (Row.new _ _ _) _
  have r1 : LineAt W (w.heap.size + 1) ((.slice none 0 0)) ((.slice none 0 0)) := by rw [hW]; exact Row.at2 _ _ _ _
  have sW : w.heap.size + 1 < W.heap.size := by rw [hW]; simp
  rw [← hW]
  clear hW
  go_wp2_with (first | (refine wpList_load_row rfl 25 _ rfl _ rfl _ _ _ _ r0 Tryz.underlying25 rfl (by kernel_rfl) ?_) | fail)
  refine (hc.out _ (hh.out.below bW)).mono ?_
  rintro e w1 ⟨rfl, hb1⟩
  have B1 := Bel.to bW hb1
  have r0 := r0.keep hb1
  have r1 := r1.keep hb1
  have d1 := r0.kind
  have d3 := r0.main
  have d4 := r0.of
  have d5 := r0.bonus
  have d6 := r0.bonusOf
  clear hb1 hh hc bW
  go_wp2_with fail
  refine (cN.out _).mono ?_
  rintro e w2 ⟨rfl, hb2⟩
  have B2 := Bel.to B1 hb2
  have r1 := r1.keep hb2
  have d3 := Bel.cellOf hb2 d3
  have d4 := Bel.cellOf hb2 d4
  have d5 := Bel.cellOf hb2 d5
  have d6 := Bel.cellOf hb2 d6
  clear hb2 B1 d1 r0
  go_wp2
  go_region_held3 (fun X => X.cell? ⟨w.heap.size, 4, none⟩ = some (.int .i64 g.of) ∧ X.cell? ⟨w.heap.size, 3, none⟩ = some (.int .i64 g.main)) (go_keep) (first
    | (go_at_call 23; (with_reducible refine (cU.out _).mono ?_); rintro e w3 ⟨u1, rfl, hu1, hb3⟩; obtain ⟨s1, k1, p1, rfl⟩ := Rd.shape hu1; have d3 : w3.cell? ⟨w.heap.size, 3, none⟩ = some (.int .i64 g.main) := Bel.cellOf hb3 d3; have d4 : w3.cell? ⟨w.heap.size, 4, none⟩ = some (.int .i64 g.of) := Bel.cellOf hb3 d4))
  have B3 := Bel.to B2 (Bel.to (Below.drew (Below.refl _ _)) hb3)
  have d5 : w3.cell? ⟨w.heap.size, 5, none⟩ = some (.int .i64 g.bonus) := Bel.cellOf hb3 d5
  have d6 : w3.cell? ⟨w.heap.size, 6, none⟩ = some (.int .i64 g.bonusOf) := Bel.cellOf hb3 d6
  have r1 : LineAt w3 (w.heap.size + 1) (.slice none 0 0) (.slice none 0 0) := (show LineAt w2.drew _ _ _ from r1).keep hb3
  clear hb3 B2
  go_wp2
  go_region_held3 (fun X => X.cell? ⟨w.heap.size, 6, none⟩ = some (.int .i64 g.bonusOf) ∧ X.cell? ⟨w.heap.size, 5, none⟩ = some (.int .i64 g.bonus)) (go_keep) (first
    | (go_at_call 23; (with_reducible refine (cV.out _).mono ?_); rintro e w4 ⟨u2, rfl, hu2, hb4⟩; obtain ⟨s2, k2, p2, rfl⟩ := Rd.shape hu2; have d5 : w4.cell? ⟨w.heap.size, 5, none⟩ = some (.int .i64 g.bonus) := Bel.cellOf hb4 d5; have d6 : w4.cell? ⟨w.heap.size, 6, none⟩ = some (.int .i64 g.bonusOf) := Bel.cellOf hb4 d6))
  have B4 := Bel.to B3 (Bel.to (Below.drew (Below.refl _ _)) hb4)
  have r1 : LineAt w4 (w.heap.size + 1) (.slice none 0 0) (.slice none 0 0) := (show LineAt w3.drew _ _ _ from r1).keep hb4
  have hu1 := Rd.below (Rd.drew hu1) hb4
  clear hb4 B3 d3 d4 d5 d6
  have x0 := LineAt.main r1
  have x1 := LineAt.bonus r1
  have x2 := Row.frozen r1 0
  have x3 := Row.frozen r1 1
  have rL : LineAt ((w4.setCell ⟨w.heap.size + 1, 0, none⟩ (.slice s1 k1 p1)).setCell ⟨w.heap.size + 1, 1, none⟩ (.slice s2 k2 p2)) (w.heap.size + 1) (.slice s1 k1 p1) (.slice s2 k2 p2) := LineAt.store r1 _ _
  have y0 := hide rL.main
  have y1 := hide rL.bonus
  have B9 := Bel.st (Bel.st B4 (p := ⟨w.heap.size + 1, 0, none⟩) (by simp) (.slice s1 k1 p1)) (p := ⟨w.heap.size + 1, 1, none⟩) (by simp) (.slice s2 k2 p2)
  have hv1 := (hu1.setNe x0 (fun _ h => by cases h) (.slice s1 k1 p1)).setNe (p := ⟨w.heap.size + 1, 1, none⟩) (c := .slice none 0 0) (by go_simp) (fun _ h => by cases h) (.slice s2 k2 p2)
  have hv2 := (hu2.setNe x0 (fun _ h => by cases h) (.slice s1 k1 p1)).setNe (p := ⟨w.heap.size + 1, 1, none⟩) (c := .slice none 0 0) (by go_simp) (fun _ h => by cases h) (.slice s2 k2 p2)
  clear rL
  go_wp2
  exact bodyPost_ret (v := .tuple #[.agg #[.slice s1 k1 p1, .slice s2 k2 p2], .int .i64 0]) (by simp [results, Tryz.results10, go_sem, y0.out, y1.out]) rfl ⟨_, _, rfl, ⟨hv1, hv2⟩, B9⟩

theorem munrank_any (g : GameD) (av tv : Value) (ms : List AddonM) (r : Int) (w : World) (h : GameR w av tv ms g) :
    Calls Tryz.prog 10 #[gameVal g av tv, .int .i64 r] w (LineC (unrankP g r).1.1 (unrankP g r).1.2 (unrankP g r).2 w) := by
  unfold unrankP
  by_cases he : gameE g = 0
  · rw [if_neg (by simpa using he)]
    by_cases hr : r < 0 ∨ (countG g : Int) ≤ r
    · rw [if_pos hr]
      exact munrank_range g av tv ms r w h he hr
    · rw [if_neg hr]
      obtain ⟨R, rfl⟩ := Int.eq_ofNat_of_zero_le (show 0 ≤ r by omega)
      rw [Int.toNat_natCast]
      by_cases hk : g.kind = 2
      · have := munrank_digits g av tv ms R w h he hk (by omega)
        have e : unrankG g R = (digitsL g.of.toNat g.main.toNat R, []) := if_pos hk
        rw [e]; exact this
      · exact munrank_choose g av tv ms R w h he hk (by omega)
  · rw [if_pos (by simpa using he)]
    exact munrank_bad g av tv ms r w h he
end Go.Proofs.YtlppomkpmnpmcaaGreat
end

section
/- lotteryref15.SameInts, lotteryref13.Ints. -/
open Go.RowKit
set_option linter.unusedVariables false
set_option linter.unusedSimpArgs false
namespace Go.Proofs.YtlppomkpmnpmcaaGreat

theorem take_snoc3 {α : Type} (l : List α) (k : Nat) (h : k < l.length) : l.take (k + 1) = l.take k ++ [l[k]] := by rw [List.take_succ_eq_append_getElem h]

set_option maxHeartbeats 1000000 in
set_option maxRecDepth 100000 in
theorem ints13 (va vb : Value) (la lb : List Int) (w : World) (ha : Rd I64 w va la) (hb : Rd I64 w vb lb) :
    Calls Tryz.prog 24 #[va, vb] w (BoolB (decide (la = lb)) w) := by
  obtain ⟨aa, ca, rfl, hla, hca, hra⟩ := Rd.form ha
  obtain ⟨ab, cb, rfl, hlb, hcb, hrb⟩ := Rd.form hb
  have hca' : ca ≤ 9223372036854775807 := by unfold maxLen at hca; omega
  have hcb' : cb ≤ 9223372036854775807 := by unfold maxLen at hcb; omega
  by_cases hl : la.length = lb.length
  · have l3 : ((la.length : Int) != lb.length) = false := by simp; omega
    have l1 : la.length ≤ lb.length := by omega
    have l2 : lb.length ≤ la.length := by omega
    replace hl := hide hl
    go_enter Tryz.func24, Tryz.ntmps24
    go_wp2
    go_loopw [5] (fun i wr => ∃ (k d : Nat), k ≤ la.length ∧ i = .int .i64 k ∧ wr = w.drewN d ∧ Hid (la.take k = lb.take k)) (fun i _ => la.length - (intOf i).toNat)
    case atStart => exact ⟨0, 0, Nat.zero_le _, rfl, rfl, rfl⟩
    case round =>
      obtain ⟨k, d, hk, rfl, rfl, htk⟩ := hrel
      by_cases hkl : k < la.length
      · have hk2 : k < lb.length := by omega
        obtain ⟨ba, offa, rfl, hba, hcella⟩ := hra.at_ hkl
        obtain ⟨bb, offb, rfl, hbb, hcellb⟩ := hrb.at_ hk2
        have c1 := hcella _ hkl
        have c2 := hcellb _ hk2
        clear hcella hcellb
        have i1 : (0 : Int) ≤ (k : Int) := by omega
        have i2 : (k : Int) < (la.length : Int) := by omega
        have i3 : (k : Int) < (lb.length : Int) := by omega
        by_cases he : la[k] = lb[k]
        · have hb1 : (la[k] != lb[k]) = false := by simpa using he
          replace he := hide he
          go_wp2
          go_quiet (fail)
          go_wp2
          go_roundw
          case rel =>
            refine ⟨k + 1, _, by omega, by go_num, rfl, ?_⟩
            show _ = _
            rw [take_snoc3 la k hkl, take_snoc3 lb k hk2, he.out, htk.out]
          case measure => simp [intOf]; omega
        · have hb1 : (la[k] != lb[k]) = true := by simpa using he
          have hne : decide (la = lb) = false := by
            apply decide_eq_false
            intro h
            subst h
            exact he rfl
          replace hne := hide hne
          go_wp2
          go_quiet (fail)
          go_wp2
          go_ret
          exact ⟨by rw [hne.out]; rfl, Bel.drN (Bel.drN (Below.refl _ _) _) _⟩
      · have hkk : k = la.length := by omega
        have heq : decide (la = lb) = true := by
          apply decide_eq_true
          have := htk.out
          rw [List.take_of_length_le (by omega), List.take_of_length_le (by omega)] at this
          exact this
        replace heq := hide heq
        replace hkk := hide hkk
        go_wp2
        go_ret
        exact ⟨by rw [heq.out]; rfl, Bel.drN (Below.refl _ _) _⟩
  · have l3 : ((la.length : Int) != lb.length) = true := by simp; omega
    have hne : decide (la = lb) = false := by
      apply decide_eq_false
      intro h
      exact hl (by rw [h])
    rw [hne]
    clear hl hne
    go_enter Tryz.func24, Tryz.ntmps24
    go_wp2
    go_ret
    exact ⟨rfl, Below.refl _ _⟩

end Go.Proofs.YtlppomkpmnpmcaaGreat
end

section
/- lotteryref13.Same, lotterylaw13.few: two lines; a line of at most 40 numbers. -/
open Go.RowKit
set_option linter.unusedVariables false
set_option linter.unusedSimpArgs false
namespace Go.Proofs.YtlppomkpmnpmcaaGreat

set_option maxHeartbeats 2000000 in
set_option maxRecDepth 100000 in
theorem same13_any (m1 b1 m2 b2 : Value) (a b c d : List Int) (w : World) (h1 : LineR w m1 b1 a b) (h2 : LineR w m2 b2 c d) :
    Calls Tryz.prog 11 #[lineVal m1 b1, lineVal m2 b2] w (BoolB (decide (a = c ∧ b = d)) w) := by
  have cA := hide (fun X (hX : Below w.heap.size w X) => ints13 m1 m2 a c X (h1.1.below hX) (h2.1.below hX))
  have cB := hide (fun X (hX : Below w.heap.size w X) => ints13 b1 b2 b d X (h1.2.below hX) (h2.2.below hX))
  obtain ⟨s1, n1, k1, rfl⟩ := Rd.shape h1.1
  obtain ⟨s2, n2, k2, rfl⟩ := Rd.shape h1.2
  obtain ⟨s3, n3, k3, rfl⟩ := Rd.shape h2.1
  obtain ⟨s4, n4, k4, rfl⟩ := Rd.shape h2.2
  clear h1 h2
  obtain ⟨p, hp⟩ : ∃ p, p = decide (a = c) := ⟨_, rfl⟩
  obtain ⟨q, hq⟩ : ∃ q, q = decide (b = d) := ⟨_, rfl⟩
  have hr : decide (a = c ∧ b = d) = (p && q) := by rw [hp, hq, Bool.decide_and]
  rw [hr]
  rw [← hp] at cA
  rw [← hq] at cB
  clear hp hq hr
  unfold lineVal
  go_enter Tryz.func11, Tryz.ntmps11
  go_upto_region 1 with (fail)
  obtain ⟨W, hW⟩ : ∃ W, W = ((w.alloc (Obj.cells #[(.slice s1 n1 k1), (.slice s2 n2 k2)] 28)).alloc (Obj.cells #[(.slice s3 n3 k3), (.slice s4 n4 k4)] 28)) := ⟨_, rfl⟩
  have bW : Below w.heap.size w W := by rw [hW]; exact Bel.al (Bel.al (Below.refl _ _) _) _
  have r0 : LineAt W (w.heap.size) ((.slice s1 n1 k1)) ((.slice s2 n2 k2)) := by rw [hW]; exact Row.alloc (Row.new _ _ _) _
  have r1 : LineAt W (w.heap.size + 1) ((.slice s3 n3 k3)) ((.slice s4 n4 k4)) := by rw [hW]; exact Row.at2 _ _ _ _
  have sW : w.heap.size + 1 < W.heap.size := by rw [hW]; simp
  rw [← hW]
  clear hW
  have c0 := r0.main
  have c2 := r1.main
  go_wp2_with fail
  refine (cA.out _ bW).mono ?_
  rintro e w1 ⟨rfl, hb1⟩
  have d1 := (r0.keep hb1).bonus
  have d3 := (r1.keep hb1).bonus
  have B1 := Bel.to bW hb1
  clear c0 c2 r0 r1 hb1
  cases p
  · go_wp2
    go_ret
    exact ⟨rfl, B1⟩
  · go_wp2_with fail
    refine (cB.out _ B1).mono ?_
    rintro e w2 ⟨rfl, hb2⟩
    go_wp2
    go_ret
    exact ⟨rfl, Bel.to B1 hb2⟩

/-- Two lines of the same numbers. -/
theorem same13_self (m1 b1 m2 b2 : Value) (a b : List Int) (w : World) (h1 : LineR w m1 b1 a b) (h2 : LineR w m2 b2 a b) :
    Calls Tryz.prog 11 #[lineVal m1 b1, lineVal m2 b2] w (BoolB true w) := by
  have := same13_any m1 b1 m2 b2 a b a b w h1 h2
  rwa [show decide (a = a ∧ b = b) = true by simp] at this

/-- At most 40 numbers in each list? -/
def fewB (a b : List Int) : Bool := decide (a.length ≤ 40) && decide (b.length ≤ 40)

set_option maxRecDepth 100000 in
theorem few13_any (mv bv : Value) (a b : List Int) (w : World) (h : LineR w mv bv a b) :
    Calls Tryz.prog 4 #[lineVal mv bv] w (BoolB (fewB a b) w) := by
  obtain ⟨ma, mc, rfl, hma, hmc, -⟩ := h.1.form
  obtain ⟨ba, bc, rfl, hba, hbc, -⟩ := h.2.form
  clear h
  unfold lineVal fewB
  by_cases h1 : a.length ≤ 40
  · have e1 : decide ((a.length : Int) ≤ 40) = true := decide_eq_true (by omega)
    have e2 : decide (a.length ≤ 40) = true := decide_eq_true h1
    rw [e2]
    by_cases h2 : b.length ≤ 40
    · have e3 : decide ((b.length : Int) ≤ 40) = true := decide_eq_true (by omega)
      have e4 : decide (b.length ≤ 40) = true := decide_eq_true h2
      rw [e4]
      clear h1 h2
      go_enter Tryz.func4, Tryz.ntmps4
      go_wp2
      go_ret
      exact ⟨rfl, Bel.al (Below.refl _ _) _⟩
    · have e3 : decide ((b.length : Int) ≤ 40) = false := decide_eq_false (by omega)
      have e4 : decide (b.length ≤ 40) = false := decide_eq_false h2
      rw [e4]
      clear h1 h2
      go_enter Tryz.func4, Tryz.ntmps4
      go_wp2
      go_ret
      exact ⟨rfl, Bel.al (Below.refl _ _) _⟩
  · have e1 : decide ((a.length : Int) ≤ 40) = false := decide_eq_false (by omega)
    have e2 : decide (a.length ≤ 40) = false := decide_eq_false h1
    rw [e2]
    clear h1
    go_enter Tryz.func4, Tryz.ntmps4
    go_wp2
    go_ret
    exact ⟨rfl, Bel.al (Below.refl _ _) _⟩
end Go.Proofs.YtlppomkpmnpmcaaGreat
end

/- Lemmas, merged out of smaller texts (wip/tools/merge.py). No condition. -/
import Derived.Deep.Cut
import Derived.Deep.DeepCutAuto
import Derived.Outline
import Derived.Laws.Bits64
import Derived.Lib.SliceRun
import Derived.BigQuiet
import Derived.Deep.MidRow
import Derived.Test.YtmocomkobbiflaaGreatGLine
import Derived.Test.YtmocomkobbiflaaGreatGRef
import Derived.Test.YtmocomkobbiflaaGreatGCore
import Derived.Test.YtmocomkobbiflaaGreatGNat
import Derived.Test.YtmocomkobbiflaaGreatGRule

section
/- system.valid, lotteryref15.game. -/
open Go.RowKit
set_option linter.unusedVariables false
set_option linter.unusedSimpArgs false
namespace Go.Proofs.YtmocomkobbiflaaGreat

/-- The code of a game for system bets. -/
def gameS (g : GameD) : Int := if gameE g ≠ 0 then gameE g else if g.kind ≠ 1 then 7 else 0

set_option maxHeartbeats 2000000 in
set_option maxRecDepth 100000 in
theorem valid_any (g : GameD) (av tv : Value) (ms : List AddonM) (w : World) (h : GameR w av tv ms g) :
    Calls Tryz.prog 179 #[gameVal g av tv] w (IntB (gameS g) w) := by
  have hc := hide (fun X (hX : GameR X av tv ms g) => show Calls Tryz.prog 36 #[gameVal g av tv] X (IntC (if gameE g = 0 then (countG g : Int) else 0) (gameE g) X) from by
    by_cases he : gameE g = 0
    · rw [if_pos he, he]; exact mcount_ok g av tv ms X hX he
    · rw [if_neg he]; exact mcount_bad g av tv ms X hX he)
  obtain ⟨cn, hcn⟩ : ∃ c, c = (if gameE g = 0 then (countG g : Int) else 0) := ⟨_, rfl⟩
  rw [← hcn] at hc
  clear hcn
  have hh := hide h
  obtain ⟨aa, ac, rfl, hal, ham⟩ := h.1.1.shape
  obtain ⟨ta, tc, rfl, htl, htm⟩ := h.2.2.shape
  clear h
  obtain ⟨r, hr⟩ : ∃ r, r = gameS g := ⟨_, rfl⟩
  rw [← hr]
  unfold gameS at hr
  obtain ⟨c, hcc⟩ : ∃ c, c = gameE g := ⟨_, rfl⟩
  rw [← hcc] at hc hr
  clear hcc
  obtain ⟨gname, gkind, gprice, gmain, gof, gbonus, gbonusOf, gextra, gdraws, gsystem, gdays, gat, gclose, gcancel, gexpiry, gpool, greserve, ground, gcap, grolls, ga, gt⟩ := g
  unfold gameVal at hc ⊢
  (try simp only [] at hc hr ⊢)
  replace hr := hide hr
  have hbel := hide (fun W (bW : Below w.heap.size w W) => hc.out W (hh.out.below bW))
  clear hc hh
  go_enter Tryz.func179, Tryz.ntmps179
  go_upto_region 1 with (fail)
  obtain ⟨W, hW⟩ : ∃ W, W = (w.alloc (Obj.cells #[.string gname, .int .i64 gkind, .int .i64 gprice, .int .i64 gmain, .int .i64 gof, .int .i64 gbonus, .int .i64 gbonusOf, .int .i64 gextra, .int .i64 gdraws, .int .i64 gsystem, .int .i64 gdays, .int .i64 gat, .int .i64 gclose, .int .i64 gcancel, .int .i64 gexpiry, .int .i64 gpool, .int .i64 greserve, .int .i64 ground, .int .i64 gcap, .int .i64 grolls, (.slice aa ms.length ac), (.slice ta gt.length tc)] 25)) := ⟨_, rfl⟩
  have bW : Below w.heap.size w W := by rw [hW]; exact Bel.al (Below.refl _ _) _
  have r0 : Row W (w.heap.size) 25 [.string gname, .int .i64 gkind, .int .i64 gprice, .int .i64 gmain, .int .i64 gof, .int .i64 gbonus, .int .i64 gbonusOf, .int .i64 gextra, .int .i64 gdraws, .int .i64 gsystem, .int .i64 gdays, .int .i64 gat, .int .i64 gclose, .int .i64 gcancel, .int .i64 gexpiry, .int .i64 gpool, .int .i64 greserve, .int .i64 ground, .int .i64 gcap, .int .i64 grolls, (.slice aa ms.length ac), (.slice ta gt.length tc)] := by rw [hW]; exact Row.new _ _ _
  have c0_1 : W.cell? ⟨w.heap.size, 1, none⟩ = some (.int .i64 gkind) := Row.cell r0 (i := 1) (by simp)
  have sW : w.heap.size < W.heap.size := by rw [hW]; simp
  rw [← hW]
  clear hW
  go_wp2_with (first | (refine wpList_load_row rfl 25 _ rfl _ rfl _ _ _ _ r0 Tryz.underlying25 rfl (by kernel_rfl) ?_) | fail)
  refine (hbel.out _ bW).mono ?_
  rintro e w1 ⟨rfl, hb1⟩
  have d1 := Bel.cellOf hb1 c0_1
  have B1 := Bel.to bW hb1
  clear c0_1 r0 hb1 hbel
  by_cases hc0 : c = 0
  · subst hc0
    by_cases hk : gkind = 1
    · have hr2 : r = 0 := by rw [hr.out, if_neg (by simp), if_neg (by simpa using hk)]
      replace hr2 := hide hr2
      subst hk
      clear hr
      go_wp2
      go_ret
      rw [hr2.out]
      exact ⟨rfl, B1⟩
    · have hr2 : r = 7 := by rw [hr.out, if_neg (by simp), if_pos hk]
      have hkb : (gkind != 1) = true := by simpa using hk
      replace hr2 := hide hr2
      replace hk := hide hk
      clear hr
      go_wp2
      go_ret
      rw [hr2.out]
      exact ⟨rfl, B1⟩
  · have hr2 : r = c := by rw [hr.out, if_pos hc0]
    have hcb : (c != 0) = true := by simpa using hc0
    have hcb2 : (c == 0) = false := by simpa using hc0
    replace hr2 := hide hr2
    replace hc0 := hide hc0
    clear hr
    go_wp2
    go_ret
    rw [hr2.out]
    exact ⟨rfl, B1⟩

end Go.Proofs.YtmocomkobbiflaaGreat
end

section
/- append at an operation of a region that draws its order; elements of one cell. -/
open Go.RowKit
set_option linter.unusedVariables false
set_option linter.unusedSimpArgs false
namespace Go.Proofs.YtmocomkobbiflaaGreat

theorem wp_append_rd {P : Program} {w : World} {α : Type} {V : α → Value} {o : Oper} {a : Act} {K : Act → World → Prop} {Q : Exit → Act → World → Prop} (s x : Operand) (t : TypeId)
    (ho : o.op = .call { callee := .builtin .append, args := #[s, x], argTypes := #[t, t] })
    (hone : ∀ x, (V x).oneCell' = true) (base : Nat) (e : TypeId) (z : Value) (bytes : Nat) (ht : P.underlying t = some (.slice e)) (hi : (P.info? e).map (fun i => (i.zero, i.size, i.bytes)) = some (some z, 1, bytes)) (hzs : z.cells.size = 1)
    (v : Value) (l : List α) (hs : a.eval s = v) (hown : Own V w base e v l) (u : Value) (l2 : List α) (hx : a.eval x = u) (hr : Rd V w u l2)
    (h63 : l.length + l2.length ≤ 9223372036854775807) (hbytes : (l.length + l2.length) * bytes ≤ 140737488355328) (hbase : base ≤ w.heap.size)
    (h : ∀ v' w', Own V w' base e v' (l ++ l2) → w.grownBy w' v.ownBlock → K (a.put o.dst v') w') : o.wp P a w K Q := by
  obtain ⟨v', w', hr, h2, h3, h4⟩ := run_append_rd (P := P) w hone base t o.type e z bytes ht hi hzs v l hown u l2 hr h63 hbytes hbase
  unfold Oper.wp execOp
  simp only [ho, resolve, invoke, builtin, Sem.run_bind, Sem.run_pure, Result.andThen_ok, List.map_toArray, List.map_cons, List.map_nil, hs, hx, hr]
  exact h v' w' h2 h3
end Go.Proofs.YtmocomkobbiflaaGreat
end

section
/- lotteryref15.Choose: Pascal's triangle. Condition: n from 0 to 14. -/
open Go.RowKit
set_option linter.unusedVariables false
set_option linter.unusedSimpArgs false
namespace Go.Proofs.YtmocomkobbiflaaGreat

/-- Row i of the triangle. -/
def rowL (i : Nat) : List Int := (List.range (i + 1)).map fun k => ((choose i k : Nat) : Int)
theorem rowL_len (i : Nat) : (rowL i).length = i + 1 := by unfold rowL; simp
theorem rowL_at {i k : Nat} (h : k < i + 1) : (rowL i)[k]? = some ((choose i k : Nat) : Int) := by
  unfold rowL
  rw [List.getElem?_map, List.getElem?_range h]; rfl
theorem rowL_get {i k : Nat} (h : k < (rowL i).length) : (rowL i)[k] = ((choose i k : Nat) : Int) := by
  have h1 := rowL_at (i := i) (k := k) (by rw [rowL_len] at h; exact h)
  rw [List.getElem?_eq_getElem h] at h1
  injection h1
theorem rowL_take {i k : Nat} (h : k < i + 1) : (rowL i).take (k + 1) = (rowL i).take k ++ [((choose i k : Nat) : Int)] := by
  rw [List.take_succ_eq_append_getElem (by rw [rowL_len]; exact h), rowL_get]
theorem rowL_zero : rowL 0 = [1] := by unfold rowL; simp [choose_zero]
theorem rowL_one (i : Nat) : (rowL i).take 1 = [1] := by
  have := rowL_take (i := i) (k := 0) (by omega)
  rw [this, choose_zero]; rfl
theorem rowL_all (i : Nat) : (rowL (i + 1)).take (i + 1) ++ [1] = rowL (i + 1) := by
  have := rowL_take (i := i + 1) (k := i + 1) (by omega)
  rw [choose_self] at this
  have e : (rowL (i + 1)).take (i + 1 + 1) = rowL (i + 1) := List.take_of_length_le (by rw [rowL_len]; omega)
  rw [e] at this
  exact this.symm
theorem choose_small {n k : Nat} (h : n ≤ 14) : choose n k ≤ 3432 := by
  refine Nat.le_trans (choose_mono_n h) ?_
  rw [choose_fast]
  rcases Nat.lt_or_ge 14 k with h | h
  · rw [← choose_fast, choose_gt h]; omega
  · have : k = 0 ∨ k = 1 ∨ k = 2 ∨ k = 3 ∨ k = 4 ∨ k = 5 ∨ k = 6 ∨ k = 7 ∨ k = 8 ∨ k = 9 ∨ k = 10 ∨ k = 11 ∨ k = 12 ∨ k = 13 ∨ k = 14 := by omega
    rcases this with rfl | rfl | rfl | rfl | rfl | rfl | rfl | rfl | rfl | rfl | rfl | rfl | rfl | rfl | rfl <;> decide

end Go.Proofs.YtmocomkobbiflaaGreat
end

section
/- system.Spread, lotteryref15.Spread: the ways that give an error; what they give else. No condition. -/
open Go.RowKit
set_option linter.unusedVariables false
set_option linter.unusedSimpArgs false
namespace Go.Proofs.YtmocomkobbiflaaGreat

/-- The code of Spread. -/
def spreadE (g : GameD) (s d : Int) : Int := if gameS g ≠ 0 then gameS g else if s < g.main ∨ g.system < s ∨ d < 0 ∨ s < d ∨ g.main < d then 2 else 0
def spreadN (g : GameD) (s d : Int) (h : Nat) : Nat := chooseI d h * chooseI (s - d) (g.main - h)
/-- How many lines have how many hits. -/
def spreadL (g : GameD) (s d : Int) (m : Nat) : List Int := (List.range m).map fun h => ((spreadN g s d h : Nat) : Int)
theorem spreadL_len (g : GameD) (s d : Int) (m : Nat) : (spreadL g s d m).length = m := by unfold spreadL; simp
theorem spreadL_succ (g : GameD) (s d : Int) (m : Nat) : spreadL g s d (m + 1) = spreadL g s d m ++ [((spreadN g s d m : Nat) : Int)] := by
  unfold spreadL; rw [List.range_succ, List.map_append]; rfl

theorem mat_system {g : GameD} (h : matB g = true) : g.system ≤ 14 := by
  unfold matB at h
  simp only [Bool.and_eq_true] at h
  obtain ⟨⟨⟨⟨⟨⟨⟨h1, h2⟩, h3⟩, h4⟩, h5⟩, h6⟩, h7⟩, h8⟩ := h
  have a2 := inB_iff.1 h2
  by_cases hk : g.kind = 2
  · rw [if_pos hk] at h8
    have := inB_iff.1 h8
    omega
  · rw [if_neg hk] at h8
    simp only [Bool.and_eq_true] at h8
    have := inB_iff.1 h8.1
    omega

theorem gameS_ok {g : GameD} (h : gameS g = 0) : gameE g = 0 ∧ g.kind = 1 := by
  unfold gameS at h
  split at h
  · rename_i h1; exact absurd h h1
  · rename_i h1
    split at h
    · omega
    · rename_i h2
      exact ⟨by simpa using h1, by simpa using h2⟩

theorem spreadE_ok {g : GameD} {s d : Int} (h : spreadE g s d = 0) : gameS g = 0 ∧ g.main ≤ s ∧ s ≤ g.system ∧ 0 ≤ d ∧ d ≤ s ∧ d ≤ g.main ∧ 1 ≤ g.main ∧ g.main ≤ 10 ∧ s ≤ 14 := by
  unfold spreadE at h
  by_cases h1 : gameS g = 0
  · rw [if_neg (by simpa using h1)] at h
    by_cases h2 : s < g.main ∨ g.system < s ∨ d < 0 ∨ s < d ∨ g.main < d
    · rw [if_pos h2] at h; omega
    · have hm := game_mat (gameS_ok h1).1
      have hf := mat_facts hm
      have hs := mat_system hm
      exact ⟨h1, by omega, by omega, by omega, by omega, by omega, by omega, by omega, by omega⟩
  · rw [if_pos (by simpa using h1)] at h
    exact absurd h h1

theorem chooseI_small {n k : Int} (h0 : 0 ≤ n) (h : n ≤ 14) : chooseI n k ≤ 3432 := by
  unfold chooseI
  split
  · omega
  · exact choose_small (by omega)
theorem spreadN_le {g : GameD} {s d : Int} (h : spreadE g s d = 0) (k : Nat) : spreadN g s d k ≤ 11778624 := by
  obtain ⟨-, a1, a2, a3, a4, a5, a6, a7, a8⟩ := spreadE_ok h
  have b1 := chooseI_small (n := d) (k := k) (by omega) (by omega)
  have b2 := chooseI_small (n := s - d) (k := g.main - k) (by omega) (by omega)
  exact Nat.mul_le_mul b1 b2
theorem hits_spread {g : GameD} {s d : Int} (h : spreadE g s d = 0) (k : Nat) (hk : (k : Int) ≤ g.main) : hitsV s g.main d k = (((spreadN g s d k : Nat) : Int), 0) := by
  obtain ⟨-, a1, a2, a3, a4, a5, a6, a7, a8⟩ := spreadE_ok h
  have hN : hitsN s g.main d k = spreadN g s d k := by
    unfold hitsN spreadN
    by_cases hd : d < (k : Int)
    · rw [if_pos (by omega)]
      have : chooseI d k = 0 := by
        unfold chooseI
        rw [if_neg (by omega)]
        exact choose_gt (by omega)
      rw [this, Nat.zero_mul]
    · rw [if_neg (by omega)]
  unfold hitsV
  rw [if_pos ⟨by omega, by omega, by omega, by omega⟩, hN, if_pos (by have := spreadN_le h k; omega)]

end Go.Proofs.YtmocomkobbiflaaGreat
end

section
/- system.inside, repeated, lotteryref15.in, twice. Condition of repeated: numbers from 1 to 80. -/
open Go.RowKit
set_option linter.unusedVariables false
set_option linter.unusedSimpArgs false
namespace Go.Proofs.YtmocomkobbiflaaGreat

set_option maxHeartbeats 1000000 in
theorem inside15_any (v : Value) (l : List Int) (hi : Int) (w : World) (h : Rd I64 w v l) :
    Calls Tryz.prog 180 #[v, .int .i64 hi] w (Pure (.bool (allB l 1 hi)) w) := by
  obtain ⟨ao, cap, rfl, hle, hmax, hrd⟩ := Rd.form h
  have hmax2 : cap ≤ 9223372036854775807 := by unfold maxLen at hmax; omega
  go_enter Tryz.func180, Tryz.ntmps180
  go_wp2
  go_loopg [9] l.length (fun g t wr => ∃ (i : Nat), g = l.length - i ∧ i ≤ l.length ∧ t = .int .i64 i ∧ w = wr ∧ ∀ k (hk : k < l.length), k < i → inB l[k] 1 hi = true)
  case atStart => exact ⟨0, rfl, Nat.zero_le _, rfl, rfl, fun k hk hki => absurd hki (Nat.not_lt_zero _)⟩
  case round =>
    obtain ⟨i, hg, hi', rfl, rfl, hall⟩ := hrel
    replace hg := hide hg
    replace hall := hide hall
    by_cases hlt : i < l.length
    · have hlt2 := hide hlt
      obtain ⟨b, off, rfl, hbb, hcell⟩ := hrd.at_ hlt
      have i1 : (0 : Int) ≤ (i : Int) := by omega
      have i2 : (i : Int) < (l.length : Int) := by omega
      obtain ⟨x, hx, c1⟩ : ∃ x, x = l[i] ∧ w.cell? ⟨b, off + i, none⟩ = some (.int .i64 x) := ⟨_, rfl, hcell _ hlt⟩
      clear hcell
      by_cases hlo : x < 1
      · have hr := hide (allB_at hlt (by have h9 := inB_lo (hi := hi) hlo; rw [hx] at h9; exact h9) : allB l 1 hi = false)
        replace hx := hide hx
        go_wp2
        go_ret
        rw [hr.out]
        exact ⟨rfl, rfl⟩
      · by_cases hhi : hi < x
        · have hr := hide (allB_at hlt (by have h9 := inB_hi (lo := 1) hhi; rw [hx] at h9; exact h9) : allB l 1 hi = false)
          replace hx := hide hx
          go_wp2
          go_ret
          rw [hr.out]
          exact ⟨rfl, rfl⟩
        · have hnext : ∀ k (hk : k < l.length), k < i + 1 → inB l[k] 1 hi = true := by
            intro k hk hki
            rcases Nat.lt_succ_iff_lt_or_eq.1 hki with h | rfl
            · exact hall.out k hk h
            · have h9 := inB_yes (x := x) (lo := 1) (hi := hi) (by omega) (by omega); rw [hx] at h9; exact h9
          replace hnext := hide hnext
          replace hx := hide hx
          go_wp2
          go_roundg (l.length - (i + 1))
          case measure => have := hg.out; omega
          case rel => exact ⟨i + 1, rfl, by have := hlt2.out; omega, by go_num, rfl, hnext.out⟩
    · have hr := hide (allB_yes (lo := 1) (hi := hi) (fun k hk => hall.out k hk (by omega)))
      go_wp2
      go_ret
      rw [hr.out]
      exact ⟨rfl, rfl⟩

/-- Which numbers have been seen. -/
def seenL (l : List Int) (i : Nat) : List Bool := (List.range 81).map fun (j : Nat) => decide ((j : Int) ∈ l.take i)
theorem seenL_len (l : List Int) (i : Nat) : (seenL l i).length = 81 := by unfold seenL; simp
theorem seenL_at (l : List Int) (i j : Nat) (h : j < (seenL l i).length) : (seenL l i)[j] = decide ((j : Int) ∈ l.take i) := by
  have e : (seenL l i)[j]? = some (decide ((j : Int) ∈ l.take i)) := by
    have : j < 81 := by rw [seenL_len] at h; exact h
    unfold seenL
    rw [List.getElem?_map, List.getElem?_range this]; rfl
  rw [List.getElem?_eq_getElem h] at e
  injection e
theorem seenL_zero (l : List Int) : seenL l 0 = List.replicate 81 false := by
  apply List.ext_getElem
  · rw [seenL_len, List.length_replicate]
  · intro i h1 h2
    rw [seenL_at, List.getElem_replicate, List.take_zero]
    exact decide_eq_false (by simp)
theorem seenL_set {l : List Int} {i x : Nat} (hi : i < l.length) (hx : l[i] = (x : Int)) : (seenL l i).set x true = seenL l (i + 1) := by
  apply List.ext_getElem
  · rw [List.length_set, seenL_len, seenL_len]
  · intro j h1 h2
    rw [List.getElem_set, seenL_at, seenL_at, List.take_succ_eq_append_getElem hi]
    by_cases hj : x = j
    · subst hj
      rw [if_pos rfl, hx]
      symm
      simp
    · rw [if_neg hj, hx]
      have : ((j : Int) ∈ l.take i ++ [(x : Int)]) ↔ (j : Int) ∈ l.take i := by
        rw [List.mem_append, List.mem_singleton]
        constructor
        · rintro (h | h)
          · exact h
          · omega
        · exact .inl
      rw [decide_eq_decide]
      exact this.symm
theorem dup_seen {l : List Int} {i : Nat} (hi : i < l.length) (h : l[i] ∈ l.take i) : dupB l = true := by
  obtain ⟨k, hk, e⟩ := List.getElem_of_mem h
  rw [List.length_take] at hk
  rw [List.getElem_take] at e
  exact dupB_at hi (by omega) e.symm
theorem dup_unseen {l : List Int} (h : ∀ i (hi : i < l.length), l[i] ∉ l.take i) : dupB l = false := by
  refine dupB_none (fun i hi k hk e => h i hi ?_)
  rw [e]
  exact List.mem_iff_getElem.2 ⟨k, by rw [List.length_take]; omega, by rw [List.getElem_take]⟩

theorem zero81 : Tryz.zeroCells193.toList = List.replicate 81 (.bool false) := by kernel_rfl

set_option maxHeartbeats 2000000 in
set_option maxRecDepth 100000 in
theorem repeated15_any (v : Value) (l : List Int) (w : World) (h : Rd I64 w v l) (hall : ∀ x ∈ l, 1 ≤ x ∧ x ≤ 80) :
    Calls Tryz.prog 181 #[v] w (BoolB (dupB l) w) := by
  obtain ⟨ao, cap, rfl, hle, hmax, hrd⟩ := Rd.form h
  have hmax2 : cap ≤ 9223372036854775807 := by unfold maxLen at hmax; omega
  replace hall := hide hall
  clear h
  go_enter Tryz.func181, Tryz.ntmps181
  go_upto_region 2 with (fail)
  obtain ⟨W, hW⟩ : ∃ W, W = w.alloc (.cells Tryz.zeroCells193 193) := ⟨_, rfl⟩
  have bW : Below w.heap.size w W := by rw [hW]; exact Bel.al (Below.refl _ _) _
  have r0 : Row W w.heap.size 193 ((seenL l 0).map Value.bool) := by
    rw [hW, seenL_zero, List.map_replicate]
    exact Row.newOf _ zero81
  rw [← hW]
  clear hW
  go_wp2
  go_loopg [8] l.length (fun gh t wr => ∃ i : Nat, gh = l.length - i ∧ i ≤ l.length ∧ t = .int .i64 (i : Int) ∧ Row wr w.heap.size 193 ((seenL l i).map Value.bool) ∧ Below w.heap.size w wr ∧ Hid (∀ k (hk : k < l.length), k < i → l[k] ∉ l.take k))
  case atStart => exact ⟨0, rfl, Nat.zero_le _, rfl, r0, bW, fun k hk h => absurd h (Nat.not_lt_zero _)⟩
  case round =>
    obtain ⟨i, hg, hi, rfl, hR, hB, hno⟩ := hrel
    replace hg := hide hg
    by_cases hlt : i < l.length
    · have hlt2 := hide hlt
      obtain ⟨b, off, rfl, hbb, hcell⟩ := hrd.at_ hlt
      have i1 : (0 : Int) ≤ (i : Int) := by omega
      have i2 : (i : Int) < (l.length : Int) := by omega
      obtain ⟨y, hy, c0⟩ : ∃ y, y = l[i] ∧ w.cell? ⟨b, off + i, none⟩ = some (.int .i64 y) := ⟨_, rfl, hcell _ hlt⟩
      obtain ⟨x1, x2⟩ := hall.out y (by rw [hy]; exact List.getElem_mem _)
      obtain ⟨x, rfl⟩ := Int.eq_ofNat_of_zero_le (show 0 ≤ y by omega)
      have hx : l[i] = (x : Int) := hy.symm
      have c1 := Bel.cellOf hB c0
      have x3 : x < (seenL l i).length := by rw [seenL_len]; omega
      have c2 := hR.cellV x3
      rw [seenL_at, hy] at c2
      have f2 := Row.frozen hR x
      have j1 : (0 : Int) ≤ (x : Int) := by omega
      have j2 : (x : Int) < 81 := by omega
      clear hcell c0
      by_cases hin : l[i] ∈ l.take i
      · rw [decide_eq_true hin] at c2
        have hd := hide (dup_seen hlt hin)
        replace hin := hide hin
        replace hx := hide hx
        replace hy := hide hy
        clear hlt
        go_wp2
        go_ret
        rw [hd.out]
        exact ⟨rfl, hB⟩
      · rw [decide_eq_false hin] at c2
        have hset := seenL_set hlt hx
        have hR2 := hR.setV x true
        rw [hset] at hR2
        have hB2 := Bel.st hB (p := ⟨w.heap.size, x, none⟩) (Nat.le_refl _) (.bool true)
        have hno2 : Hid (∀ k (hk : k < l.length), k < i + 1 → l[k] ∉ l.take k) := by
          intro k hk hki
          rcases Nat.lt_succ_iff_lt_or_eq.1 hki with h | rfl
          · exact hno.out k hk h
          · exact hin
        replace hR2 := hide hR2
        replace hin := hide hin
        replace hx := hide hx
        replace hy := hide hy
        clear hset hB hlt x3
        go_wp2
        go_roundg (l.length - (i + 1))
        case measure => have := hg.out; have := hlt2.out; omega
        case rel => exact ⟨i + 1, rfl, by have := hlt2.out; omega, by go_num, hR2.out, hB2, hno2⟩
    · have hd := hide (dup_unseen (l := l) (fun k hk => hno.out k hk (by omega)))
      go_wp2
      go_ret
      rw [hd.out]
      exact ⟨rfl, hB⟩
end Go.Proofs.YtmocomkobbiflaaGreat
end

section
/- system.Check, Count; lotteryref15.Check, Count: system lines. No condition. -/
open Go.RowKit
set_option linter.unusedVariables false
set_option linter.unusedSimpArgs false
namespace Go.Proofs.YtmocomkobbiflaaGreat

/-- The code of a system line. -/
def sysE (g : GameD) (a b : List Int) : Int :=
  if gameS g ≠ 0 then gameS g
  else if (a.length : Int) < g.main + 1 ∨ g.system < (a.length : Int) ∨ (b.length : Int) ≠ g.bonus then 3
  else if allB a 1 g.of = false ∨ allB b 1 g.bonusOf = false then 2
  else if dupB a = true ∨ dupB b = true then 6
  else 0
theorem sysE_ok {g : GameD} {a b : List Int} (h : sysE g a b = 0) : gameS g = 0 ∧ ¬ (a.length : Int) < g.main + 1 ∧ ¬ g.system < (a.length : Int) ∧ (b.length : Int) = g.bonus ∧ allB a 1 g.of = true ∧ allB b 1 g.bonusOf = true ∧ dupB a = false ∧ dupB b = false := by
  unfold sysE at h
  by_cases h1 : gameS g = 0
  · rw [if_neg (by simpa using h1)] at h
    by_cases h2 : (a.length : Int) < g.main + 1 ∨ g.system < (a.length : Int) ∨ (b.length : Int) ≠ g.bonus
    · rw [if_pos h2] at h; omega
    · rw [if_neg h2] at h
      by_cases h3 : allB a 1 g.of = false ∨ allB b 1 g.bonusOf = false
      · rw [if_pos h3] at h; omega
      · rw [if_neg h3] at h
        by_cases h4 : dupB a = true ∨ dupB b = true
        · rw [if_pos h4] at h; omega
        · refine ⟨h1, by omega, by omega, by omega, ?_, ?_, ?_, ?_⟩
          · cases hx : allB a 1 g.of
            · exact absurd (.inl hx) h3
            · rfl
          · cases hx : allB b 1 g.bonusOf
            · exact absurd (.inr hx) h3
            · rfl
          · cases hx : dupB a
            · rfl
            · exact absurd (.inl hx) h4
          · cases hx : dupB b
            · rfl
            · exact absurd (.inr hx) h4
  · rw [if_pos (by simpa using h1)] at h; exact absurd h h1
theorem sys_bounds {g : GameD} (h : gameS g = 0) : 1 ≤ g.main ∧ g.main ≤ 10 ∧ 0 ≤ g.of ∧ g.of ≤ 80 ∧ 0 ≤ g.bonusOf ∧ g.bonusOf ≤ 80 ∧ g.system ≤ 14 ∧ 0 ≤ g.bonus ∧ g.bonus ≤ 4 := by
  have hm := game_mat (gameS_ok h).1
  obtain ⟨f1, f2, f3, f4, f5, f6, f7, f8, f9, f10, f11⟩ := mat_facts hm
  exact ⟨f1, f2, f5, f6, f10, f11, mat_system hm, f3, f4⟩
theorem all_80 {l : List Int} {hi : Int} (h : allB l 1 hi = true) (h8 : hi ≤ 80) : ∀ x ∈ l, 1 ≤ x ∧ x ≤ 80 := fun x hx => by have := allB_iff.1 h x hx; omega

/-- What Count returns. -/
def sysP (g : GameD) (a b : List Int) : Int × Int := if sysE g a b = 0 then (((choose a.length g.main.toNat : Nat) : Int), 0) else (0, sysE g a b)

set_option maxHeartbeats 2000000 in
set_option maxRecDepth 100000 in
theorem scheck15_s1 (g : GameD) (av tv mv bv : Value) (ms : List AddonM) (a b : List Int) (w : World) (h : GameR w av tv ms g) (hl : LineR w mv bv a b) (he : gameS g ≠ 0) :
    Calls Tryz.prog 146 #[gameVal g av tv, lineVal mv bv] w (IntB (gameS g) w) := by
  have cV := hide (fun X (hX : GameR X av tv ms g) => valid_any g av tv ms X hX)
  obtain ⟨c, hcc⟩ : ∃ c, c = gameS g := ⟨_, rfl⟩
  rw [← hcc] at cV he ⊢
  clear hcc
  have hcb : (c != 0) = true := by simpa using he
  replace he := hide he
  have hh := hide h
  have hl' := hide hl
  obtain ⟨aa, ac, rfl, hal, ham⟩ := h.1.1.shape
  obtain ⟨ta, tc, rfl, htl, htm⟩ := h.2.2.shape
  obtain ⟨ma, mc, rfl, hma, hmc, -⟩ := hl.1.form
  obtain ⟨ba, bc, rfl, hba, hbc, -⟩ := hl.2.form
  unfold maxLen at hmc hbc
  clear h hl
  unfold gameVal lineVal
  go_enter Tryz.func146, Tryz.ntmps146
  go_upto_region 1 with (fail)
  obtain ⟨W, hW⟩ : ∃ W, W = ((w.alloc (Obj.cells #[.string g.name, .int .i64 g.kind, .int .i64 g.price, .int .i64 g.main, .int .i64 g.of, .int .i64 g.bonus, .int .i64 g.bonusOf, .int .i64 g.extra, .int .i64 g.draws, .int .i64 g.system, .int .i64 g.days, .int .i64 g.at_, .int .i64 g.close, .int .i64 g.cancel, .int .i64 g.expiry, .int .i64 g.pool, .int .i64 g.reserve, .int .i64 g.round, .int .i64 g.cap, .int .i64 g.rolls, (.slice aa ms.length ac), (.slice ta g.tiers.length tc)] 25)).alloc (Obj.cells #[(.slice ma a.length mc), (.slice ba b.length bc)] 41)) := ⟨_, rfl⟩
  have bW : Below w.heap.size w W := by rw [hW]; exact Bel.al (Bel.al (Below.refl _ _) _) _
  have r0 : GameAt W (w.heap.size) g ((.slice aa ms.length ac)) ((.slice ta g.tiers.length tc)) := by rw [hW]; exact Row.alloc (Row.new _ _ _) _
  have r1 : LineAt W (w.heap.size + 1) ((.slice ma a.length mc)) ((.slice ba b.length bc)) := by rw [hW]; exact Row.at2 _ _ _ _
  have sW : w.heap.size + 1 < W.heap.size := by rw [hW]; simp
  rw [← hW]
  clear hW
  go_wp2_with (first | (refine wpList_load_row rfl 25 _ rfl _ rfl _ _ _ _ r0 Tryz.underlying25 rfl (by kernel_rfl) ?_) | fail)
  refine (cV.out _ (hh.out.below bW)).mono ?_
  rintro e w1 ⟨rfl, hb1⟩
  have B1 := Bel.to bW hb1
  have r0 := r0.keep hb1
  have r1 := r1.keep hb1
  have d3 := r0.main
  have d4 := r0.of
  have d5 := r0.bonus
  have d6 := r0.bonusOf
  have d9 := r0.system
  have x0 := r1.main
  have x1 := r1.bonus
  clear hb1 bW sW cV
  go_wp2
  go_ret
  exact ⟨rfl, B1⟩

set_option maxHeartbeats 2000000 in
set_option maxRecDepth 100000 in
theorem scheck15_s2 (g : GameD) (av tv mv bv : Value) (ms : List AddonM) (a b : List Int) (w : World) (h : GameR w av tv ms g) (hl : LineR w mv bv a b) (he : gameS g = 0) (n1 : (a.length : Int) ≤ g.main) :
    Calls Tryz.prog 146 #[gameVal g av tv, lineVal mv bv] w (IntB 3 w) := by
  have cV := hide (fun X (hX : GameR X av tv ms g) => valid_any g av tv ms X hX)
  obtain ⟨f1, f2, f3, f4, f5, f6, f7, f8, f9⟩ := sys_bounds he
  rw [he] at cV
  replace he := hide he
  have hh := hide h
  have hl' := hide hl
  obtain ⟨aa, ac, rfl, hal, ham⟩ := h.1.1.shape
  obtain ⟨ta, tc, rfl, htl, htm⟩ := h.2.2.shape
  obtain ⟨ma, mc, rfl, hma, hmc, -⟩ := hl.1.form
  obtain ⟨ba, bc, rfl, hba, hbc, -⟩ := hl.2.form
  unfold maxLen at hmc hbc
  clear h hl
  unfold gameVal lineVal
  go_enter Tryz.func146, Tryz.ntmps146
  go_upto_region 1 with (fail)
  obtain ⟨W, hW⟩ : ∃ W, W = ((w.alloc (Obj.cells #[.string g.name, .int .i64 g.kind, .int .i64 g.price, .int .i64 g.main, .int .i64 g.of, .int .i64 g.bonus, .int .i64 g.bonusOf, .int .i64 g.extra, .int .i64 g.draws, .int .i64 g.system, .int .i64 g.days, .int .i64 g.at_, .int .i64 g.close, .int .i64 g.cancel, .int .i64 g.expiry, .int .i64 g.pool, .int .i64 g.reserve, .int .i64 g.round, .int .i64 g.cap, .int .i64 g.rolls, (.slice aa ms.length ac), (.slice ta g.tiers.length tc)] 25)).alloc (Obj.cells #[(.slice ma a.length mc), (.slice ba b.length bc)] 41)) := ⟨_, rfl⟩
  have bW : Below w.heap.size w W := by rw [hW]; exact Bel.al (Bel.al (Below.refl _ _) _) _
  have r0 : GameAt W (w.heap.size) g ((.slice aa ms.length ac)) ((.slice ta g.tiers.length tc)) := by rw [hW]; exact Row.alloc (Row.new _ _ _) _
  have r1 : LineAt W (w.heap.size + 1) ((.slice ma a.length mc)) ((.slice ba b.length bc)) := by rw [hW]; exact Row.at2 _ _ _ _
  have sW : w.heap.size + 1 < W.heap.size := by rw [hW]; simp
  rw [← hW]
  clear hW
  go_wp2_with (first | (refine wpList_load_row rfl 25 _ rfl _ rfl _ _ _ _ r0 Tryz.underlying25 rfl (by kernel_rfl) ?_) | fail)
  refine (cV.out _ (hh.out.below bW)).mono ?_
  rintro e w1 ⟨rfl, hb1⟩
  have B1 := Bel.to bW hb1
  have r0 := r0.keep hb1
  have r1 := r1.keep hb1
  have d3 := r0.main
  have d4 := r0.of
  have d5 := r0.bonus
  have d6 := r0.bonusOf
  have d9 := r0.system
  have x0 := r1.main
  have x1 := r1.bonus
  clear hb1 bW sW cV
  go_wp2
  go_ret
  exact ⟨rfl, B1⟩

set_option maxHeartbeats 2000000 in
set_option maxRecDepth 100000 in
theorem scheck15_s3 (g : GameD) (av tv mv bv : Value) (ms : List AddonM) (a b : List Int) (w : World) (h : GameR w av tv ms g) (hl : LineR w mv bv a b) (he : gameS g = 0) (n1 : g.main < (a.length : Int)) (n2 : g.system < (a.length : Int)) :
    Calls Tryz.prog 146 #[gameVal g av tv, lineVal mv bv] w (IntB 3 w) := by
  have cV := hide (fun X (hX : GameR X av tv ms g) => valid_any g av tv ms X hX)
  obtain ⟨f1, f2, f3, f4, f5, f6, f7, f8, f9⟩ := sys_bounds he
  rw [he] at cV
  replace he := hide he
  have hh := hide h
  have hl' := hide hl
  obtain ⟨aa, ac, rfl, hal, ham⟩ := h.1.1.shape
  obtain ⟨ta, tc, rfl, htl, htm⟩ := h.2.2.shape
  obtain ⟨ma, mc, rfl, hma, hmc, -⟩ := hl.1.form
  obtain ⟨ba, bc, rfl, hba, hbc, -⟩ := hl.2.form
  unfold maxLen at hmc hbc
  clear h hl
  unfold gameVal lineVal
  go_enter Tryz.func146, Tryz.ntmps146
  go_upto_region 1 with (fail)
  obtain ⟨W, hW⟩ : ∃ W, W = ((w.alloc (Obj.cells #[.string g.name, .int .i64 g.kind, .int .i64 g.price, .int .i64 g.main, .int .i64 g.of, .int .i64 g.bonus, .int .i64 g.bonusOf, .int .i64 g.extra, .int .i64 g.draws, .int .i64 g.system, .int .i64 g.days, .int .i64 g.at_, .int .i64 g.close, .int .i64 g.cancel, .int .i64 g.expiry, .int .i64 g.pool, .int .i64 g.reserve, .int .i64 g.round, .int .i64 g.cap, .int .i64 g.rolls, (.slice aa ms.length ac), (.slice ta g.tiers.length tc)] 25)).alloc (Obj.cells #[(.slice ma a.length mc), (.slice ba b.length bc)] 41)) := ⟨_, rfl⟩
  have bW : Below w.heap.size w W := by rw [hW]; exact Bel.al (Bel.al (Below.refl _ _) _) _
  have r0 : GameAt W (w.heap.size) g ((.slice aa ms.length ac)) ((.slice ta g.tiers.length tc)) := by rw [hW]; exact Row.alloc (Row.new _ _ _) _
  have r1 : LineAt W (w.heap.size + 1) ((.slice ma a.length mc)) ((.slice ba b.length bc)) := by rw [hW]; exact Row.at2 _ _ _ _
  have sW : w.heap.size + 1 < W.heap.size := by rw [hW]; simp
  rw [← hW]
  clear hW
  go_wp2_with (first | (refine wpList_load_row rfl 25 _ rfl _ rfl _ _ _ _ r0 Tryz.underlying25 rfl (by kernel_rfl) ?_) | fail)
  refine (cV.out _ (hh.out.below bW)).mono ?_
  rintro e w1 ⟨rfl, hb1⟩
  have B1 := Bel.to bW hb1
  have r0 := r0.keep hb1
  have r1 := r1.keep hb1
  have d3 := r0.main
  have d4 := r0.of
  have d5 := r0.bonus
  have d6 := r0.bonusOf
  have d9 := r0.system
  have x0 := r1.main
  have x1 := r1.bonus
  clear hb1 bW sW cV
  go_wp2
  go_ret
  exact ⟨rfl, B1⟩

set_option maxHeartbeats 2000000 in
set_option maxRecDepth 100000 in
theorem scheck15_s4 (g : GameD) (av tv mv bv : Value) (ms : List AddonM) (a b : List Int) (w : World) (h : GameR w av tv ms g) (hl : LineR w mv bv a b) (he : gameS g = 0) (n1 : g.main < (a.length : Int)) (n2 : (a.length : Int) ≤ g.system) (n3 : (b.length : Int) ≠ g.bonus) :
    Calls Tryz.prog 146 #[gameVal g av tv, lineVal mv bv] w (IntB 3 w) := by
  have cV := hide (fun X (hX : GameR X av tv ms g) => valid_any g av tv ms X hX)
  obtain ⟨f1, f2, f3, f4, f5, f6, f7, f8, f9⟩ := sys_bounds he
  rw [he] at cV
  have n3b : ((b.length : Int) != g.bonus) = true := by simpa using n3
  replace n3 := hide n3
  replace he := hide he
  have hh := hide h
  have hl' := hide hl
  obtain ⟨aa, ac, rfl, hal, ham⟩ := h.1.1.shape
  obtain ⟨ta, tc, rfl, htl, htm⟩ := h.2.2.shape
  obtain ⟨ma, mc, rfl, hma, hmc, -⟩ := hl.1.form
  obtain ⟨ba, bc, rfl, hba, hbc, -⟩ := hl.2.form
  unfold maxLen at hmc hbc
  clear h hl
  unfold gameVal lineVal
  go_enter Tryz.func146, Tryz.ntmps146
  go_upto_region 1 with (fail)
  obtain ⟨W, hW⟩ : ∃ W, W = ((w.alloc (Obj.cells #[.string g.name, .int .i64 g.kind, .int .i64 g.price, .int .i64 g.main, .int .i64 g.of, .int .i64 g.bonus, .int .i64 g.bonusOf, .int .i64 g.extra, .int .i64 g.draws, .int .i64 g.system, .int .i64 g.days, .int .i64 g.at_, .int .i64 g.close, .int .i64 g.cancel, .int .i64 g.expiry, .int .i64 g.pool, .int .i64 g.reserve, .int .i64 g.round, .int .i64 g.cap, .int .i64 g.rolls, (.slice aa ms.length ac), (.slice ta g.tiers.length tc)] 25)).alloc (Obj.cells #[(.slice ma a.length mc), (.slice ba b.length bc)] 41)) := ⟨_, rfl⟩
  have bW : Below w.heap.size w W := by rw [hW]; exact Bel.al (Bel.al (Below.refl _ _) _) _
  have r0 : GameAt W (w.heap.size) g ((.slice aa ms.length ac)) ((.slice ta g.tiers.length tc)) := by rw [hW]; exact Row.alloc (Row.new _ _ _) _
  have r1 : LineAt W (w.heap.size + 1) ((.slice ma a.length mc)) ((.slice ba b.length bc)) := by rw [hW]; exact Row.at2 _ _ _ _
  have sW : w.heap.size + 1 < W.heap.size := by rw [hW]; simp
  rw [← hW]
  clear hW
  go_wp2_with (first | (refine wpList_load_row rfl 25 _ rfl _ rfl _ _ _ _ r0 Tryz.underlying25 rfl (by kernel_rfl) ?_) | fail)
  refine (cV.out _ (hh.out.below bW)).mono ?_
  rintro e w1 ⟨rfl, hb1⟩
  have B1 := Bel.to bW hb1
  have r0 := r0.keep hb1
  have r1 := r1.keep hb1
  have d3 := r0.main
  have d4 := r0.of
  have d5 := r0.bonus
  have d6 := r0.bonusOf
  have d9 := r0.system
  have x0 := r1.main
  have x1 := r1.bonus
  clear hb1 bW sW cV
  go_wp2
  go_ret
  exact ⟨rfl, B1⟩

set_option maxHeartbeats 2000000 in
set_option maxRecDepth 100000 in
theorem scheck15_s5 (g : GameD) (av tv mv bv : Value) (ms : List AddonM) (a b : List Int) (w : World) (h : GameR w av tv ms g) (hl : LineR w mv bv a b) (he : gameS g = 0) (n1 : g.main < (a.length : Int)) (n2 : (a.length : Int) ≤ g.system) (n3 : (b.length : Int) = g.bonus) (ia : allB a 1 g.of = false) :
    Calls Tryz.prog 146 #[gameVal g av tv, lineVal mv bv] w (IntB 2 w) := by
  have cV := hide (fun X (hX : GameR X av tv ms g) => valid_any g av tv ms X hX)
  obtain ⟨f1, f2, f3, f4, f5, f6, f7, f8, f9⟩ := sys_bounds he
  rw [he] at cV
  have cIA := hide (fun X (hX : Below w.heap.size w X) => inside15_any mv a g.of X (hl.1.below hX))
  rw [ia] at cIA
  have n3b : ((b.length : Int) != g.bonus) = false := by simpa using n3
  replace n3 := hide n3
  replace ia := hide ia
  replace he := hide he
  have hh := hide h
  have hl' := hide hl
  obtain ⟨aa, ac, rfl, hal, ham⟩ := h.1.1.shape
  obtain ⟨ta, tc, rfl, htl, htm⟩ := h.2.2.shape
  obtain ⟨ma, mc, rfl, hma, hmc, -⟩ := hl.1.form
  obtain ⟨ba, bc, rfl, hba, hbc, -⟩ := hl.2.form
  unfold maxLen at hmc hbc
  clear h hl
  unfold gameVal lineVal
  go_enter Tryz.func146, Tryz.ntmps146
  go_upto_region 1 with (fail)
  obtain ⟨W, hW⟩ : ∃ W, W = ((w.alloc (Obj.cells #[.string g.name, .int .i64 g.kind, .int .i64 g.price, .int .i64 g.main, .int .i64 g.of, .int .i64 g.bonus, .int .i64 g.bonusOf, .int .i64 g.extra, .int .i64 g.draws, .int .i64 g.system, .int .i64 g.days, .int .i64 g.at_, .int .i64 g.close, .int .i64 g.cancel, .int .i64 g.expiry, .int .i64 g.pool, .int .i64 g.reserve, .int .i64 g.round, .int .i64 g.cap, .int .i64 g.rolls, (.slice aa ms.length ac), (.slice ta g.tiers.length tc)] 25)).alloc (Obj.cells #[(.slice ma a.length mc), (.slice ba b.length bc)] 41)) := ⟨_, rfl⟩
  have bW : Below w.heap.size w W := by rw [hW]; exact Bel.al (Bel.al (Below.refl _ _) _) _
  have r0 : GameAt W (w.heap.size) g ((.slice aa ms.length ac)) ((.slice ta g.tiers.length tc)) := by rw [hW]; exact Row.alloc (Row.new _ _ _) _
  have r1 : LineAt W (w.heap.size + 1) ((.slice ma a.length mc)) ((.slice ba b.length bc)) := by rw [hW]; exact Row.at2 _ _ _ _
  have sW : w.heap.size + 1 < W.heap.size := by rw [hW]; simp
  rw [← hW]
  clear hW
  go_wp2_with (first | (refine wpList_load_row rfl 25 _ rfl _ rfl _ _ _ _ r0 Tryz.underlying25 rfl (by kernel_rfl) ?_) | fail)
  refine (cV.out _ (hh.out.below bW)).mono ?_
  rintro e w1 ⟨rfl, hb1⟩
  have B1 := Bel.to bW hb1
  have r0 := r0.keep hb1
  have r1 := r1.keep hb1
  have d3 := r0.main
  have d4 := r0.of
  have d5 := r0.bonus
  have d6 := r0.bonusOf
  have d9 := r0.system
  have x0 := r1.main
  have x1 := r1.bonus
  clear hb1 bW sW cV
  go_wp2_with fail
  refine (cIA.out _ B1).mono ?_
  rintro e w' ⟨rfl, rfl⟩
  go_wp2
  go_ret
  exact ⟨rfl, B1⟩

set_option maxHeartbeats 2000000 in
set_option maxRecDepth 100000 in
theorem scheck15_s6 (g : GameD) (av tv mv bv : Value) (ms : List AddonM) (a b : List Int) (w : World) (h : GameR w av tv ms g) (hl : LineR w mv bv a b) (he : gameS g = 0) (n1 : g.main < (a.length : Int)) (n2 : (a.length : Int) ≤ g.system) (n3 : (b.length : Int) = g.bonus) (ia : allB a 1 g.of = true) (ib : allB b 1 g.bonusOf = false) :
    Calls Tryz.prog 146 #[gameVal g av tv, lineVal mv bv] w (IntB 2 w) := by
  have cV := hide (fun X (hX : GameR X av tv ms g) => valid_any g av tv ms X hX)
  obtain ⟨f1, f2, f3, f4, f5, f6, f7, f8, f9⟩ := sys_bounds he
  rw [he] at cV
  have cIA := hide (fun X (hX : Below w.heap.size w X) => inside15_any mv a g.of X (hl.1.below hX))
  rw [ia] at cIA
  have cIB := hide (fun X (hX : Below w.heap.size w X) => inside15_any bv b g.bonusOf X (hl.2.below hX))
  rw [ib] at cIB
  have n3b : ((b.length : Int) != g.bonus) = false := by simpa using n3
  replace n3 := hide n3
  replace ia := hide ia
  replace ib := hide ib
  replace he := hide he
  have hh := hide h
  have hl' := hide hl
  obtain ⟨aa, ac, rfl, hal, ham⟩ := h.1.1.shape
  obtain ⟨ta, tc, rfl, htl, htm⟩ := h.2.2.shape
  obtain ⟨ma, mc, rfl, hma, hmc, -⟩ := hl.1.form
  obtain ⟨ba, bc, rfl, hba, hbc, -⟩ := hl.2.form
  unfold maxLen at hmc hbc
  clear h hl
  unfold gameVal lineVal
  go_enter Tryz.func146, Tryz.ntmps146
  go_upto_region 1 with (fail)
  obtain ⟨W, hW⟩ : ∃ W, W = ((w.alloc (Obj.cells #[.string g.name, .int .i64 g.kind, .int .i64 g.price, .int .i64 g.main, .int .i64 g.of, .int .i64 g.bonus, .int .i64 g.bonusOf, .int .i64 g.extra, .int .i64 g.draws, .int .i64 g.system, .int .i64 g.days, .int .i64 g.at_, .int .i64 g.close, .int .i64 g.cancel, .int .i64 g.expiry, .int .i64 g.pool, .int .i64 g.reserve, .int .i64 g.round, .int .i64 g.cap, .int .i64 g.rolls, (.slice aa ms.length ac), (.slice ta g.tiers.length tc)] 25)).alloc (Obj.cells #[(.slice ma a.length mc), (.slice ba b.length bc)] 41)) := ⟨_, rfl⟩
  have bW : Below w.heap.size w W := by rw [hW]; exact Bel.al (Bel.al (Below.refl _ _) _) _
  have r0 : GameAt W (w.heap.size) g ((.slice aa ms.length ac)) ((.slice ta g.tiers.length tc)) := by rw [hW]; exact Row.alloc (Row.new _ _ _) _
  have r1 : LineAt W (w.heap.size + 1) ((.slice ma a.length mc)) ((.slice ba b.length bc)) := by rw [hW]; exact Row.at2 _ _ _ _
  have sW : w.heap.size + 1 < W.heap.size := by rw [hW]; simp
  rw [← hW]
  clear hW
  go_wp2_with (first | (refine wpList_load_row rfl 25 _ rfl _ rfl _ _ _ _ r0 Tryz.underlying25 rfl (by kernel_rfl) ?_) | fail)
  refine (cV.out _ (hh.out.below bW)).mono ?_
  rintro e w1 ⟨rfl, hb1⟩
  have B1 := Bel.to bW hb1
  have r0 := r0.keep hb1
  have r1 := r1.keep hb1
  have d3 := r0.main
  have d4 := r0.of
  have d5 := r0.bonus
  have d6 := r0.bonusOf
  have d9 := r0.system
  have x0 := r1.main
  have x1 := r1.bonus
  clear hb1 bW sW cV
  go_wp2_with fail
  refine (cIA.out _ B1).mono ?_
  rintro e w' ⟨rfl, rfl⟩
  go_wp2_with fail
  refine (cIB.out _ B1).mono ?_
  rintro e w' ⟨rfl, rfl⟩
  go_wp2
  go_ret
  exact ⟨rfl, B1⟩

set_option maxHeartbeats 2000000 in
set_option maxRecDepth 100000 in
theorem scheck15_s7 (g : GameD) (av tv mv bv : Value) (ms : List AddonM) (a b : List Int) (w : World) (h : GameR w av tv ms g) (hl : LineR w mv bv a b) (he : gameS g = 0) (n1 : g.main < (a.length : Int)) (n2 : (a.length : Int) ≤ g.system) (n3 : (b.length : Int) = g.bonus) (ia : allB a 1 g.of = true) (ib : allB b 1 g.bonusOf = true) (da : dupB a = true) :
    Calls Tryz.prog 146 #[gameVal g av tv, lineVal mv bv] w (IntB 6 w) := by
  have cV := hide (fun X (hX : GameR X av tv ms g) => valid_any g av tv ms X hX)
  obtain ⟨f1, f2, f3, f4, f5, f6, f7, f8, f9⟩ := sys_bounds he
  rw [he] at cV
  have cIA := hide (fun X (hX : Below w.heap.size w X) => inside15_any mv a g.of X (hl.1.below hX))
  rw [ia] at cIA
  have cIB := hide (fun X (hX : Below w.heap.size w X) => inside15_any bv b g.bonusOf X (hl.2.below hX))
  rw [ib] at cIB
  have cDA := hide (fun X (hX : Below w.heap.size w X) => repeated15_any mv a X (hl.1.below hX) (all_80 ia f4))
  rw [da] at cDA
  have n3b : ((b.length : Int) != g.bonus) = false := by simpa using n3
  replace n3 := hide n3
  replace ia := hide ia
  replace ib := hide ib
  replace da := hide da
  replace he := hide he
  have hh := hide h
  have hl' := hide hl
  obtain ⟨aa, ac, rfl, hal, ham⟩ := h.1.1.shape
  obtain ⟨ta, tc, rfl, htl, htm⟩ := h.2.2.shape
  obtain ⟨ma, mc, rfl, hma, hmc, -⟩ := hl.1.form
  obtain ⟨ba, bc, rfl, hba, hbc, -⟩ := hl.2.form
  unfold maxLen at hmc hbc
  clear h hl
  unfold gameVal lineVal
  go_enter Tryz.func146, Tryz.ntmps146
  go_upto_region 1 with (fail)
  obtain ⟨W, hW⟩ : ∃ W, W = ((w.alloc (Obj.cells #[.string g.name, .int .i64 g.kind, .int .i64 g.price, .int .i64 g.main, .int .i64 g.of, .int .i64 g.bonus, .int .i64 g.bonusOf, .int .i64 g.extra, .int .i64 g.draws, .int .i64 g.system, .int .i64 g.days, .int .i64 g.at_, .int .i64 g.close, .int .i64 g.cancel, .int .i64 g.expiry, .int .i64 g.pool, .int .i64 g.reserve, .int .i64 g.round, .int .i64 g.cap, .int .i64 g.rolls, (.slice aa ms.length ac), (.slice ta g.tiers.length tc)] 25)).alloc (Obj.cells #[(.slice ma a.length mc), (.slice ba b.length bc)] 41)) := ⟨_, rfl⟩
  have bW : Below w.heap.size w W := by rw [hW]; exact Bel.al (Bel.al (Below.refl _ _) _) _
  have r0 : GameAt W (w.heap.size) g ((.slice aa ms.length ac)) ((.slice ta g.tiers.length tc)) := by rw [hW]; exact Row.alloc (Row.new _ _ _) _
  have r1 : LineAt W (w.heap.size + 1) ((.slice ma a.length mc)) ((.slice ba b.length bc)) := by rw [hW]; exact Row.at2 _ _ _ _
  have sW : w.heap.size + 1 < W.heap.size := by rw [hW]; simp
  rw [← hW]
  clear hW
  go_wp2_with (first | (refine wpList_load_row rfl 25 _ rfl _ rfl _ _ _ _ r0 Tryz.underlying25 rfl (by kernel_rfl) ?_) | fail)
  refine (cV.out _ (hh.out.below bW)).mono ?_
  rintro e w1 ⟨rfl, hb1⟩
  have B1 := Bel.to bW hb1
  have r0 := r0.keep hb1
  have r1 := r1.keep hb1
  have d3 := r0.main
  have d4 := r0.of
  have d5 := r0.bonus
  have d6 := r0.bonusOf
  have d9 := r0.system
  have x0 := r1.main
  have x1 := r1.bonus
  clear hb1 bW sW cV
  go_wp2_with fail
  refine (cIA.out _ B1).mono ?_
  rintro e w' ⟨rfl, rfl⟩
  go_wp2_with fail
  refine (cIB.out _ B1).mono ?_
  rintro e w' ⟨rfl, rfl⟩
  go_wp2_with fail
  refine (cDA.out _ B1).mono ?_
  rintro e w2 ⟨rfl, hb2⟩
  have B2 := Bel.to B1 hb2
  replace r1 := r1.keep hb2
  have x1 := r1.bonus
  clear hb2
  go_wp2
  go_ret
  exact ⟨rfl, B2⟩

set_option maxHeartbeats 2000000 in
set_option maxRecDepth 100000 in
theorem scheck15_s8 (g : GameD) (av tv mv bv : Value) (ms : List AddonM) (a b : List Int) (w : World) (h : GameR w av tv ms g) (hl : LineR w mv bv a b) (he : gameS g = 0) (n1 : g.main < (a.length : Int)) (n2 : (a.length : Int) ≤ g.system) (n3 : (b.length : Int) = g.bonus) (ia : allB a 1 g.of = true) (ib : allB b 1 g.bonusOf = true) (da : dupB a = false) (db : dupB b = true) :
    Calls Tryz.prog 146 #[gameVal g av tv, lineVal mv bv] w (IntB 6 w) := by
  have cV := hide (fun X (hX : GameR X av tv ms g) => valid_any g av tv ms X hX)
  obtain ⟨f1, f2, f3, f4, f5, f6, f7, f8, f9⟩ := sys_bounds he
  rw [he] at cV
  have cIA := hide (fun X (hX : Below w.heap.size w X) => inside15_any mv a g.of X (hl.1.below hX))
  rw [ia] at cIA
  have cIB := hide (fun X (hX : Below w.heap.size w X) => inside15_any bv b g.bonusOf X (hl.2.below hX))
  rw [ib] at cIB
  have cDA := hide (fun X (hX : Below w.heap.size w X) => repeated15_any mv a X (hl.1.below hX) (all_80 ia f4))
  rw [da] at cDA
  have cDB := hide (fun X (hX : Below w.heap.size w X) => repeated15_any bv b X (hl.2.below hX) (all_80 ib f6))
  rw [db] at cDB
  have n3b : ((b.length : Int) != g.bonus) = false := by simpa using n3
  replace n3 := hide n3
  replace ia := hide ia
  replace ib := hide ib
  replace da := hide da
  replace db := hide db
  replace he := hide he
  have hh := hide h
  have hl' := hide hl
  obtain ⟨aa, ac, rfl, hal, ham⟩ := h.1.1.shape
  obtain ⟨ta, tc, rfl, htl, htm⟩ := h.2.2.shape
  obtain ⟨ma, mc, rfl, hma, hmc, -⟩ := hl.1.form
  obtain ⟨ba, bc, rfl, hba, hbc, -⟩ := hl.2.form
  unfold maxLen at hmc hbc
  clear h hl
  unfold gameVal lineVal
  go_enter Tryz.func146, Tryz.ntmps146
  go_upto_region 1 with (fail)
  obtain ⟨W, hW⟩ : ∃ W, W = ((w.alloc (Obj.cells #[.string g.name, .int .i64 g.kind, .int .i64 g.price, .int .i64 g.main, .int .i64 g.of, .int .i64 g.bonus, .int .i64 g.bonusOf, .int .i64 g.extra, .int .i64 g.draws, .int .i64 g.system, .int .i64 g.days, .int .i64 g.at_, .int .i64 g.close, .int .i64 g.cancel, .int .i64 g.expiry, .int .i64 g.pool, .int .i64 g.reserve, .int .i64 g.round, .int .i64 g.cap, .int .i64 g.rolls, (.slice aa ms.length ac), (.slice ta g.tiers.length tc)] 25)).alloc (Obj.cells #[(.slice ma a.length mc), (.slice ba b.length bc)] 41)) := ⟨_, rfl⟩
  have bW : Below w.heap.size w W := by rw [hW]; exact Bel.al (Bel.al (Below.refl _ _) _) _
  have r0 : GameAt W (w.heap.size) g ((.slice aa ms.length ac)) ((.slice ta g.tiers.length tc)) := by rw [hW]; exact Row.alloc (Row.new _ _ _) _
  have r1 : LineAt W (w.heap.size + 1) ((.slice ma a.length mc)) ((.slice ba b.length bc)) := by rw [hW]; exact Row.at2 _ _ _ _
  have sW : w.heap.size + 1 < W.heap.size := by rw [hW]; simp
  rw [← hW]
  clear hW
  go_wp2_with (first | (refine wpList_load_row rfl 25 _ rfl _ rfl _ _ _ _ r0 Tryz.underlying25 rfl (by kernel_rfl) ?_) | fail)
  refine (cV.out _ (hh.out.below bW)).mono ?_
  rintro e w1 ⟨rfl, hb1⟩
  have B1 := Bel.to bW hb1
  have r0 := r0.keep hb1
  have r1 := r1.keep hb1
  have d3 := r0.main
  have d4 := r0.of
  have d5 := r0.bonus
  have d6 := r0.bonusOf
  have d9 := r0.system
  have x0 := r1.main
  have x1 := r1.bonus
  clear hb1 bW sW cV
  go_wp2_with fail
  refine (cIA.out _ B1).mono ?_
  rintro e w' ⟨rfl, rfl⟩
  go_wp2_with fail
  refine (cIB.out _ B1).mono ?_
  rintro e w' ⟨rfl, rfl⟩
  go_wp2_with fail
  refine (cDA.out _ B1).mono ?_
  rintro e w2 ⟨rfl, hb2⟩
  have B2 := Bel.to B1 hb2
  replace r1 := r1.keep hb2
  have x1 := r1.bonus
  clear hb2
  go_wp2_with fail
  refine (cDB.out _ B2).mono ?_
  rintro e w3 ⟨rfl, hb3⟩
  have B3 := Bel.to B2 hb3
  replace r1 := r1.keep hb3
  have x1 := r1.bonus
  clear hb3
  go_wp2
  go_ret
  exact ⟨rfl, B3⟩

set_option maxHeartbeats 2000000 in
set_option maxRecDepth 100000 in
theorem scheck15_s9 (g : GameD) (av tv mv bv : Value) (ms : List AddonM) (a b : List Int) (w : World) (h : GameR w av tv ms g) (hl : LineR w mv bv a b) (he : gameS g = 0) (n1 : g.main < (a.length : Int)) (n2 : (a.length : Int) ≤ g.system) (n3 : (b.length : Int) = g.bonus) (ia : allB a 1 g.of = true) (ib : allB b 1 g.bonusOf = true) (da : dupB a = false) (db : dupB b = false) :
    Calls Tryz.prog 146 #[gameVal g av tv, lineVal mv bv] w (IntB 0 w) := by
  have cV := hide (fun X (hX : GameR X av tv ms g) => valid_any g av tv ms X hX)
  obtain ⟨f1, f2, f3, f4, f5, f6, f7, f8, f9⟩ := sys_bounds he
  rw [he] at cV
  have cIA := hide (fun X (hX : Below w.heap.size w X) => inside15_any mv a g.of X (hl.1.below hX))
  rw [ia] at cIA
  have cIB := hide (fun X (hX : Below w.heap.size w X) => inside15_any bv b g.bonusOf X (hl.2.below hX))
  rw [ib] at cIB
  have cDA := hide (fun X (hX : Below w.heap.size w X) => repeated15_any mv a X (hl.1.below hX) (all_80 ia f4))
  rw [da] at cDA
  have cDB := hide (fun X (hX : Below w.heap.size w X) => repeated15_any bv b X (hl.2.below hX) (all_80 ib f6))
  rw [db] at cDB
  have n3b : ((b.length : Int) != g.bonus) = false := by simpa using n3
  replace n3 := hide n3
  replace ia := hide ia
  replace ib := hide ib
  replace da := hide da
  replace db := hide db
  replace he := hide he
  have hh := hide h
  have hl' := hide hl
  obtain ⟨aa, ac, rfl, hal, ham⟩ := h.1.1.shape
  obtain ⟨ta, tc, rfl, htl, htm⟩ := h.2.2.shape
  obtain ⟨ma, mc, rfl, hma, hmc, -⟩ := hl.1.form
  obtain ⟨ba, bc, rfl, hba, hbc, -⟩ := hl.2.form
  unfold maxLen at hmc hbc
  clear h hl
  unfold gameVal lineVal
  go_enter Tryz.func146, Tryz.ntmps146
  go_upto_region 1 with (fail)
  obtain ⟨W, hW⟩ : ∃ W, W = ((w.alloc (Obj.cells #[.string g.name, .int .i64 g.kind, .int .i64 g.price, .int .i64 g.main, .int .i64 g.of, .int .i64 g.bonus, .int .i64 g.bonusOf, .int .i64 g.extra, .int .i64 g.draws, .int .i64 g.system, .int .i64 g.days, .int .i64 g.at_, .int .i64 g.close, .int .i64 g.cancel, .int .i64 g.expiry, .int .i64 g.pool, .int .i64 g.reserve, .int .i64 g.round, .int .i64 g.cap, .int .i64 g.rolls, (.slice aa ms.length ac), (.slice ta g.tiers.length tc)] 25)).alloc (Obj.cells #[(.slice ma a.length mc), (.slice ba b.length bc)] 41)) := ⟨_, rfl⟩
  have bW : Below w.heap.size w W := by rw [hW]; exact Bel.al (Bel.al (Below.refl _ _) _) _
  have r0 : GameAt W (w.heap.size) g ((.slice aa ms.length ac)) ((.slice ta g.tiers.length tc)) := by rw [hW]; exact Row.alloc (Row.new _ _ _) _
  have r1 : LineAt W (w.heap.size + 1) ((.slice ma a.length mc)) ((.slice ba b.length bc)) := by rw [hW]; exact Row.at2 _ _ _ _
  have sW : w.heap.size + 1 < W.heap.size := by rw [hW]; simp
  rw [← hW]
  clear hW
  go_wp2_with (first | (refine wpList_load_row rfl 25 _ rfl _ rfl _ _ _ _ r0 Tryz.underlying25 rfl (by kernel_rfl) ?_) | fail)
  refine (cV.out _ (hh.out.below bW)).mono ?_
  rintro e w1 ⟨rfl, hb1⟩
  have B1 := Bel.to bW hb1
  have r0 := r0.keep hb1
  have r1 := r1.keep hb1
  have d3 := r0.main
  have d4 := r0.of
  have d5 := r0.bonus
  have d6 := r0.bonusOf
  have d9 := r0.system
  have x0 := r1.main
  have x1 := r1.bonus
  clear hb1 bW sW cV
  go_wp2_with fail
  refine (cIA.out _ B1).mono ?_
  rintro e w' ⟨rfl, rfl⟩
  go_wp2_with fail
  refine (cIB.out _ B1).mono ?_
  rintro e w' ⟨rfl, rfl⟩
  go_wp2_with fail
  refine (cDA.out _ B1).mono ?_
  rintro e w2 ⟨rfl, hb2⟩
  have B2 := Bel.to B1 hb2
  replace r1 := r1.keep hb2
  have x1 := r1.bonus
  clear hb2
  go_wp2_with fail
  refine (cDB.out _ B2).mono ?_
  rintro e w3 ⟨rfl, hb3⟩
  have B3 := Bel.to B2 hb3
  replace r1 := r1.keep hb3
  have x1 := r1.bonus
  clear hb3
  go_wp2
  go_ret
  exact ⟨rfl, B3⟩

theorem scheck15_any (g : GameD) (av tv mv bv : Value) (ms : List AddonM) (a b : List Int) (w : World) (h : GameR w av tv ms g) (hl : LineR w mv bv a b) :
    Calls Tryz.prog 146 #[gameVal g av tv, lineVal mv bv] w (IntB (sysE g a b) w) := by
  unfold sysE
  by_cases he : gameS g = 0
  · rw [if_neg (by simpa using he)]
    by_cases n1 : (a.length : Int) ≤ g.main
    · rw [if_pos (by omega)]; exact scheck15_s2 g av tv mv bv ms a b w h hl he n1
    · by_cases n2 : g.system < (a.length : Int)
      · rw [if_pos (by omega)]; exact scheck15_s3 g av tv mv bv ms a b w h hl he (by omega) n2
      · by_cases n3 : (b.length : Int) = g.bonus
        · rw [if_neg (by omega)]
          cases ia : allB a 1 g.of
          · rw [if_pos (.inl rfl)]; exact scheck15_s5 g av tv mv bv ms a b w h hl he (by omega) (by omega) n3 ia
          · cases ib : allB b 1 g.bonusOf
            · rw [if_pos (.inr rfl)]; exact scheck15_s6 g av tv mv bv ms a b w h hl he (by omega) (by omega) n3 ia ib
            · rw [if_neg (by simp)]
              cases da : dupB a
              · cases db : dupB b
                · rw [if_neg (by simp)]; exact scheck15_s9 g av tv mv bv ms a b w h hl he (by omega) (by omega) n3 ia ib da db
                · rw [if_pos (.inr rfl)]; exact scheck15_s8 g av tv mv bv ms a b w h hl he (by omega) (by omega) n3 ia ib da db
              · rw [if_pos (.inl rfl)]; exact scheck15_s7 g av tv mv bv ms a b w h hl he (by omega) (by omega) n3 ia ib da
        · rw [if_pos (by omega)]; exact scheck15_s4 g av tv mv bv ms a b w h hl he (by omega) (by omega) n3
  · rw [if_pos (by simpa using he)]; exact scheck15_s1 g av tv mv bv ms a b w h hl he

set_option maxHeartbeats 2000000 in
set_option maxRecDepth 100000 in
theorem scount15_any (g : GameD) (av tv mv bv : Value) (ms : List AddonM) (a b : List Int) (w : World) (h : GameR w av tv ms g) (hl : LineR w mv bv a b) :
    Calls Tryz.prog 107 #[gameVal g av tv, lineVal mv bv] w (IntC (sysP g a b).1 (sysP g a b).2 w) := by
  have cV := hide (fun X (hX : Below w.heap.size w X) => scheck15_any g av tv mv bv ms a b X (h.below hX) (hl.below hX))
  unfold sysP
  by_cases he : sysE g a b = 0
  · rw [if_pos he]
    rw [he] at cV
    obtain ⟨g1, g2, g3, g4, g5, g6, g7, g8⟩ := sysE_ok he
    obtain ⟨f1, f2, f3, f4, f5, f6, f7, f8, f9⟩ := sys_bounds g1
    obtain ⟨K, hK⟩ := Int.eq_ofNat_of_zero_le (show 0 ≤ g.main by omega)
    have hc14 := choose_small (n := a.length) (k := K) (by omega)
    have cC := fun X => count_any (a.length : Int) (K : Int) X
    rw [countV_fit rfl rfl (by omega) (by omega)] at cC
    rw [hK, Int.toNat_natCast]
    obtain ⟨q, hq⟩ : ∃ q, q = choose a.length K := ⟨_, rfl⟩
    rw [← hq] at cC ⊢
    replace cC := hide cC
    clear hq
    replace hK := hide hK
    replace he := hide he
    clear g1 g2 g3 g4 g5 g6 g7 g8 f1 f2 f3 f4 f5 f6 f7 f8 f9 hc14
    have hh := hide h
    have hl' := hide hl
    obtain ⟨aa, ac, rfl, hal, ham⟩ := h.1.1.shape
    obtain ⟨ta, tc, rfl, htl, htm⟩ := h.2.2.shape
    obtain ⟨ma, mc, rfl, hma, hmc, -⟩ := hl.1.form
    obtain ⟨ba, bc, rfl, hba, hbc, -⟩ := hl.2.form
    unfold maxLen at hmc hbc
    clear h hl
    unfold gameVal lineVal
    go_enter Tryz.func107, Tryz.ntmps107
    go_upto_region 1 with (fail)
    obtain ⟨W, hW⟩ : ∃ W, W = ((w.alloc (Obj.cells #[.string g.name, .int .i64 g.kind, .int .i64 g.price, .int .i64 g.main, .int .i64 g.of, .int .i64 g.bonus, .int .i64 g.bonusOf, .int .i64 g.extra, .int .i64 g.draws, .int .i64 g.system, .int .i64 g.days, .int .i64 g.at_, .int .i64 g.close, .int .i64 g.cancel, .int .i64 g.expiry, .int .i64 g.pool, .int .i64 g.reserve, .int .i64 g.round, .int .i64 g.cap, .int .i64 g.rolls, (.slice aa ms.length ac), (.slice ta g.tiers.length tc)] 25)).alloc (Obj.cells #[(.slice ma a.length mc), (.slice ba b.length bc)] 41)) := ⟨_, rfl⟩
    have bW : Below w.heap.size w W := by rw [hW]; exact Bel.al (Bel.al (Below.refl _ _) _) _
    have r0 : GameAt W (w.heap.size) g ((.slice aa ms.length ac)) ((.slice ta g.tiers.length tc)) := by rw [hW]; exact Row.alloc (Row.new _ _ _) _
    have r1 : LineAt W (w.heap.size + 1) ((.slice ma a.length mc)) ((.slice ba b.length bc)) := by rw [hW]; exact Row.at2 _ _ _ _
    have sW : w.heap.size + 1 < W.heap.size := by rw [hW]; simp
    rw [← hW]
    clear hW
    go_wp2_with (first | (refine wpList_load_row rfl 25 _ rfl _ rfl _ _ _ _ r0 Tryz.underlying25 rfl (by kernel_rfl) ?_) | (refine wpList_load_row rfl 41 _ rfl _ rfl _ _ _ _ r1 Tryz.underlying41 rfl (by kernel_rfl) ?_) | fail)
    refine (cV.out _ bW).mono ?_
    rintro e w1 ⟨rfl, hb1⟩
    have B1 := Bel.to bW hb1
    have r0 := r0.keep hb1
    have r1 := r1.keep hb1
    have d3 := r0.main
    have x0 := r1.main
    clear hb1 bW sW cV
    rw [hK.out] at d3
    go_wp2_with fail
    refine (cC.out _).mono ?_
    rintro e w2 ⟨rfl, hb2⟩
    go_wp2
    go_ret2
    exact ⟨rfl, Bel.to B1 hb2⟩
  · rw [if_neg he]
    obtain ⟨c, hcc⟩ : ∃ c, c = sysE g a b := ⟨_, rfl⟩
    rw [← hcc] at cV he ⊢
    clear hcc
    have hcb : (c != 0) = true := by simpa using he
    replace he := hide he
    have hh := hide h
    have hl' := hide hl
    obtain ⟨aa, ac, rfl, hal, ham⟩ := h.1.1.shape
    obtain ⟨ta, tc, rfl, htl, htm⟩ := h.2.2.shape
    obtain ⟨ma, mc, rfl, hma, hmc, -⟩ := hl.1.form
    obtain ⟨ba, bc, rfl, hba, hbc, -⟩ := hl.2.form
    unfold maxLen at hmc hbc
    clear h hl
    unfold gameVal lineVal
    go_enter Tryz.func107, Tryz.ntmps107
    go_upto_region 1 with (fail)
    obtain ⟨W, hW⟩ : ∃ W, W = ((w.alloc (Obj.cells #[.string g.name, .int .i64 g.kind, .int .i64 g.price, .int .i64 g.main, .int .i64 g.of, .int .i64 g.bonus, .int .i64 g.bonusOf, .int .i64 g.extra, .int .i64 g.draws, .int .i64 g.system, .int .i64 g.days, .int .i64 g.at_, .int .i64 g.close, .int .i64 g.cancel, .int .i64 g.expiry, .int .i64 g.pool, .int .i64 g.reserve, .int .i64 g.round, .int .i64 g.cap, .int .i64 g.rolls, (.slice aa ms.length ac), (.slice ta g.tiers.length tc)] 25)).alloc (Obj.cells #[(.slice ma a.length mc), (.slice ba b.length bc)] 41)) := ⟨_, rfl⟩
    have bW : Below w.heap.size w W := by rw [hW]; exact Bel.al (Bel.al (Below.refl _ _) _) _
    have r0 : GameAt W (w.heap.size) g ((.slice aa ms.length ac)) ((.slice ta g.tiers.length tc)) := by rw [hW]; exact Row.alloc (Row.new _ _ _) _
    have r1 : LineAt W (w.heap.size + 1) ((.slice ma a.length mc)) ((.slice ba b.length bc)) := by rw [hW]; exact Row.at2 _ _ _ _
    have sW : w.heap.size + 1 < W.heap.size := by rw [hW]; simp
    rw [← hW]
    clear hW
    go_wp2_with (first | (refine wpList_load_row rfl 25 _ rfl _ rfl _ _ _ _ r0 Tryz.underlying25 rfl (by kernel_rfl) ?_) | (refine wpList_load_row rfl 41 _ rfl _ rfl _ _ _ _ r1 Tryz.underlying41 rfl (by kernel_rfl) ?_) | fail)
    refine (cV.out _ bW).mono ?_
    rintro e w1 ⟨rfl, hb1⟩
    have B1 := Bel.to bW hb1
    have r0 := r0.keep hb1
    have r1 := r1.keep hb1
    have d3 := r0.main
    have x0 := r1.main
    clear hb1 bW sW cV
    go_wp2
    go_ret2
    exact ⟨rfl, B1⟩

end Go.Proofs.YtmocomkobbiflaaGreat
end

section
/- Plain: the random generator, samples, quick picks: plain definitions. No program in sight. No condition. -/
set_option linter.unusedVariables false
set_option linter.unusedSimpArgs false
namespace Go.Proofs.YtmocomkobbiflaaGreat

/-- Below 2^64. -/
def L64 (x : Nat) : Prop := x < 18446744073709551616
theorem L64.lt {x : Nat} (h : L64 x) : x < 18446744073709551616 := h
/-- Mixing. -/
def mixA (x : Nat) : Nat := (x ^^^ x / 1073741824) * 13787848793156543929 % 18446744073709551616
def mixB (x : Nat) : Nat := (x ^^^ x / 134217728) * 10723151780598845931 % 18446744073709551616
def mixN (x : Nat) : Nat := mixB (mixA x) ^^^ mixB (mixA x) / 2147483648

theorem mixA_lt (x : Nat) : mixA x < 18446744073709551616 := Nat.mod_lt _ (by decide)
theorem mixB_lt (x : Nat) : mixB x < 18446744073709551616 := Nat.mod_lt _ (by decide)
theorem mixN_lt (x : Nat) : L64 (mixN x) := by
  have h := mixB_lt (mixA x)
  have h2 : mixB (mixA x) / 2147483648 < 18446744073709551616 := Nat.lt_of_le_of_lt (Nat.div_le_self _ _) h
  exact Nat.xor_lt_two_pow (n := 64) h h2

/-- The state of a generator, and how many values it has made. -/
abbrev St := Nat × Int
def stepN (s : Nat) : Nat := (s + 11400714819323198485) % 18446744073709551616
def stepS (s : St) : St := (stepN s.1, Go.RowKit.wrap64 (s.2 + 1))
def outS (s : St) : Nat := mixN (stepN s.1)
theorem stepN_lt (s : Nat) : L64 (stepN s) := Nat.mod_lt _ (by decide)

/-- Is a value below the greatest multiple of n? -/
def goodB (v n : Nat) : Bool := decide (v ≤ 18446744073709551615 - 18446744073709551616 % n)

/-- A number below n, in at most so many tries: the number, the code; the state. -/
def belowL : Nat → Nat → St → (Nat × Int) × St
  | 0, _, s => ((0, 11), s)
  | k + 1, n, s => if goodB (outS s) n = true then ((outS s % n, 0), stepS s) else belowL k n (stepS s)
def belowS (n : Nat) (s : St) : (Nat × Int) × St := belowL 64 n s

theorem belowL_st {k n : Nat} {s : St} (h : L64 s.1) : L64 (belowL k n s).2.1 := by
  induction k generalizing s with
  | zero => exact h
  | succ k ih =>
    rw [belowL]
    split
    · exact stepN_lt _
    · exact ih (stepN_lt _)
theorem belowL_code (k n : Nat) (s : St) (hn : 0 < n) : ((belowL k n s).1.2 = 0 ∧ (belowL k n s).1.1 < n) ∨ ((belowL k n s).1.2 = 11 ∧ (belowL k n s).1.1 = 0) := by
  induction k generalizing s with
  | zero => exact .inr ⟨rfl, rfl⟩
  | succ k ih =>
    rw [belowL]
    split
    · exact .inl ⟨rfl, Nat.mod_lt _ hn⟩
    · exact ih _
theorem belowS_st {n : Nat} {s : St} (h : L64 s.1) : L64 (belowS n s).2.1 := belowL_st h
theorem belowS_code (n : Nat) (s : St) (hn : 0 < n) : ((belowS n s).1.2 = 0 ∧ (belowS n s).1.1 < n) ∨ ((belowS n s).1.2 = 11 ∧ (belowS n s).1.1 = 0) := belowL_code 64 n s hn

/-- Two places changed for one another. -/
def swapL (l : List Int) (i j : Nat) : List Int := (l.set i (l[j]?.getD 0)).set j (l[i]?.getD 0)
theorem swapL_len (l : List Int) (i j : Nat) : (swapL l i j).length = l.length := by unfold swapL; simp

/-- The numbers 1 to n. -/
def ascL (n : Nat) : List Int := (List.range n).map fun (i : Nat) => (i : Int) + 1
theorem ascL_len (n : Nat) : (ascL n).length = n := by unfold ascL; simp
theorem ascL_succ (n : Nat) : ascL (n + 1) = ascL n ++ [(n : Int) + 1] := by unfold ascL; rw [List.range_succ, List.map_append]; rfl

/-- k steps of a sample from place i on. -/
def sampleL : Nat → Nat → Nat → List Int → St → (List Int × Int) × St
  | 0, _, _, l, s => ((l, 0), s)
  | k + 1, i, n, l, s => if (belowS (n - i) s).1.2 ≠ 0 then (([], (belowS (n - i) s).1.2), (belowS (n - i) s).2) else sampleL k (i + 1) n (swapL l i (i + (belowS (n - i) s).1.1)) (belowS (n - i) s).2
def sampleS (n k : Nat) (s : St) : (List Int × Int) × St := (((sampleL k 0 n (ascL n) s).1.1.take k, (sampleL k 0 n (ascL n) s).1.2), (sampleL k 0 n (ascL n) s).2)

/-- k numbers below n behind acc. -/
def drawL : Nat → Nat → List Int → St → (List Int × Int) × St
  | 0, _, acc, s => ((acc, 0), s)
  | k + 1, n, acc, s => if (belowS n s).1.2 ≠ 0 then (([], (belowS n s).1.2), (belowS n s).2) else drawL k n (acc ++ [((belowS n s).1.1 : Int)]) (belowS n s).2

theorem drawL_st {k n : Nat} {acc : List Int} {s : St} (h : L64 s.1) : L64 (drawL k n acc s).2.1 := by
  induction k generalizing acc s with
  | zero => exact h
  | succ k ih =>
    rw [drawL]
    have h2 := belowS_st (n := n) h
    obtain ⟨R, hR⟩ : ∃ R, R = belowS n s := ⟨_, rfl⟩
    rw [← hR] at h2 ⊢
    clear hR
    by_cases hc : R.1.2 ≠ 0
    · rw [if_pos hc]; exact h2
    · rw [if_neg hc]; exact ih h2
theorem sampleL_st {k i n : Nat} {l : List Int} {s : St} (h : L64 s.1) : L64 (sampleL k i n l s).2.1 := by
  induction k generalizing i l s with
  | zero => exact h
  | succ k ih =>
    rw [sampleL]
    have h2 := belowS_st (n := n - i) h
    obtain ⟨R, hR⟩ : ∃ R, R = belowS (n - i) s := ⟨_, rfl⟩
    rw [← hR] at h2 ⊢
    clear hR
    by_cases hc : R.1.2 ≠ 0
    · rw [if_pos hc]; exact h2
    · rw [if_neg hc]; exact ih h2
theorem sampleS_st {k n : Nat} {s : St} (h : L64 s.1) : L64 (sampleS n k s).2.1 := sampleL_st h

abbrev LineD := List Int × List Int

/-- A quick pick of a valid game: the line, the code; the state. -/
def lineQ (g : GameD) (s : St) : (LineD × Int) × St :=
  if g.kind = 2 then ((((drawL g.main.toNat g.of.toNat [] s).1.1, []), (drawL g.main.toNat g.of.toNat [] s).1.2), (drawL g.main.toNat g.of.toNat [] s).2)
  else if (sampleS g.of.toNat g.main.toNat s).1.2 ≠ 0 then ((([], []), (sampleS g.of.toNat g.main.toNat s).1.2), (sampleS g.of.toNat g.main.toNat s).2)
  else if g.bonus = 0 then (((sortI (sampleS g.of.toNat g.main.toNat s).1.1, []), 0), (sampleS g.of.toNat g.main.toNat s).2)
  else if (sampleS g.bonusOf.toNat g.bonus.toNat (sampleS g.of.toNat g.main.toNat s).2).1.2 ≠ 0 then ((([], []), (sampleS g.bonusOf.toNat g.bonus.toNat (sampleS g.of.toNat g.main.toNat s).2).1.2), (sampleS g.bonusOf.toNat g.bonus.toNat (sampleS g.of.toNat g.main.toNat s).2).2)
  else (((sortI (sampleS g.of.toNat g.main.toNat s).1.1, sortI (sampleS g.bonusOf.toNat g.bonus.toNat (sampleS g.of.toNat g.main.toNat s).2).1.1), 0), (sampleS g.bonusOf.toNat g.bonus.toNat (sampleS g.of.toNat g.main.toNat s).2).2)

theorem lineQ_st {g : GameD} {s : St} (h : L64 s.1) : L64 (lineQ g s).2.1 := by
  unfold lineQ
  have h1 := drawL_st (k := g.main.toNat) (n := g.of.toNat) (acc := []) h
  have h2 := sampleS_st (n := g.of.toNat) (k := g.main.toNat) h
  obtain ⟨R, hR⟩ : ∃ R, R = drawL g.main.toNat g.of.toNat [] s := ⟨_, rfl⟩
  rw [← hR] at h1 ⊢
  clear hR
  obtain ⟨T, hT⟩ : ∃ T, T = sampleS g.of.toNat g.main.toNat s := ⟨_, rfl⟩
  rw [← hT] at h2 ⊢
  clear hT
  have h3 := sampleS_st (n := g.bonusOf.toNat) (k := g.bonus.toNat) h2
  obtain ⟨U, hU⟩ : ∃ U, U = sampleS g.bonusOf.toNat g.bonus.toNat T.2 := ⟨_, rfl⟩
  rw [← hU] at h3 ⊢
  clear hU
  by_cases c1 : g.kind = 2
  · rw [if_pos c1]; exact h1
  · rw [if_neg c1]
    by_cases c2 : T.1.2 ≠ 0
    · rw [if_pos c2]; exact h2
    · rw [if_neg c2]
      by_cases c3 : g.bonus = 0
      · rw [if_pos c3]; exact h2
      · rw [if_neg c3]
        by_cases c4 : U.1.2 ≠ 0
        · rw [if_pos c4]; exact h3
        · rw [if_neg c4]; exact h3

/-- k quick picks behind acc. -/
def linesQ (g : GameD) : Nat → List LineD → St → (List LineD × Int) × St
  | 0, acc, s => ((acc, 0), s)
  | k + 1, acc, s => if (lineQ g s).1.2 ≠ 0 then (([], (lineQ g s).1.2), (lineQ g s).2) else linesQ g k (acc ++ [(lineQ g s).1.1]) (lineQ g s).2

/-- What Line returns. -/
def lineP (g : GameD) (s : St) : (LineD × Int) × St := if gameE g ≠ 0 then ((([], []), gameE g), s) else lineQ g s
/-- What Lines returns. -/
def linesP (g : GameD) (s : Nat) (n : Int) : List LineD × Int := if gameE g ≠ 0 then ([], gameE g) else if n < 0 ∨ 1024 < n then ([], 2) else (linesQ g n.toNat [] (s, 0)).1

/-- The digits of a serial number. -/
def serialP (n : Int) (s : St) : (List Int × Int) × St := if n < 1 ∨ 8 < n then (([], 2), s) else drawL n.toNat 10 [] s
end Go.Proofs.YtmocomkobbiflaaGreat
end

section
/- Words for lists of lines: a slice of lines that reads as a list; one that the call owns; append of one line. No condition but sizes. -/
open Go.RowKit
set_option linter.unusedVariables false
set_option linter.unusedSimpArgs false
namespace Go.Proofs.YtmocomkobbiflaaGreat

/-- A line's two cells. -/
def LnV (p : Value × Value) : List Value := [p.1, p.2]

/-- A slice of lines. -/
def LinesR (w : World) (v : Value) (ls : List LineD) : Prop := ∃ vs : List (Value × Value), RdS 2 LnV w v vs ∧ vs.length = ls.length ∧ ∀ (i : Nat) p x, vs[i]? = some p → ls[i]? = some x → LineR w p.1 p.2 x.1 x.2

/-- Its elements' blocks are not that of v. -/
def Ap (u v : Value) (l : List Int) : Prop := l = [] ∨ u.ownBlock ≠ v.ownBlock

/-- A slice of lines of the call's own. -/
def OwnLn (w : World) (base : Nat) (v : Value) (ls : List LineD) : Prop := ∃ vs : List (Value × Value), w.ownsRow base 41 2 v vs.length (vs.flatMap LnV) ∧ vs.length = ls.length ∧
  ∀ (i : Nat) p x, vs[i]? = some p → ls[i]? = some x → LineR w p.1 p.2 x.1 x.2 ∧ Fr base p.1 x.1 ∧ Fr base p.2 x.2 ∧ Ap p.1 v x.1 ∧ Ap p.2 v x.2

theorem rd_lt {w : World} {u : Value} {l : List Int} (h : Rd I64 w u l) (hl : l ≠ []) : ∃ b, u.ownBlock = some b ∧ b < w.heap.size := by
  obtain ⟨ao, cap, rfl, h1, h2, h3⟩ := h
  obtain ⟨b, off, rfl, hb, -⟩ := h3 (List.length_pos_iff.2 hl)
  exact ⟨b, rfl, hb⟩

theorem Rd.grownA {w w' : World} {u : Value} {l : List Int} {row : Option Nat} (h : Rd I64 w u l) (hg : w.grownBy w' row) (ha : l = [] ∨ u.ownBlock ≠ row) : Rd I64 w' u l := by
  rcases ha with rfl | ha
  · obtain ⟨ao, cap, rfl, h1, h2, h3⟩ := h
    exact ⟨ao, cap, rfl, h1, h2, fun h => absurd h (by simp)⟩
  · exact h.grown hg (.inl ha)

section
variable {w w' : World} {base : Nat} {v : Value} {ls : List LineD}

theorem LinesR.nil : LinesR w (.slice none 0 0) [] := ⟨[], ⟨none, 0, rfl, Nat.le_refl _, Nat.zero_le _, fun h => absurd h (by simp)⟩, rfl, fun i p x h => by simp at h⟩
theorem LinesR.below (h : LinesR w v ls) (hb : Below w.heap.size w w') : LinesR w' v ls := by
  obtain ⟨vs, h1, h2, h3⟩ := h
  exact ⟨vs, h1.below hb, h2, fun i p x hp hx => (h3 i p x hp hx).below hb⟩
theorem LinesR.shape (h : LinesR w v ls) : ∃ ao cap, v = .slice ao ls.length cap ∧ ls.length ≤ cap ∧ cap ≤ maxLen := by
  obtain ⟨vs, h1, h2, h3⟩ := h
  obtain ⟨ao, cap, e, a, b⟩ := h1.shape
  rw [h2] at e a
  exact ⟨ao, cap, e, a, b⟩
/-- The element at a place: its address, its two cells, what they read as. -/
theorem LinesR.at_ {ao : Option Addr} {n cap i : Nat} (h : LinesR w (.slice ao n cap) ls) (hi : i < ls.length) :
    ∃ b off mv bv, ao = some ⟨b, off, none⟩ ∧ b < w.heap.size ∧ w.cell? ⟨b, off + i * 2, none⟩ = some mv ∧ w.cell? ⟨b, off + i * 2 + 1, none⟩ = some bv ∧ LineR w mv bv ls[i].1 ls[i].2 := by
  obtain ⟨vs, h1, h2, h3⟩ := h
  obtain ⟨b, off, e, hb, hc⟩ := h1.at_ (i := i) (by omega)
  have hv : vs[i]? = some (vs[i]'(by omega)) := List.getElem?_eq_getElem (by omega)
  exact ⟨b, off, _, _, e, hb, hc i _ hv 0 _ rfl, hc i _ hv 1 _ rfl, h3 i _ _ hv (List.getElem?_eq_getElem hi)⟩
theorem LinesR.take (h : LinesR w v ls) {ao : Option Addr} {cap n c : Nat} (hv : v = .slice ao ls.length cap) (hn : n ≤ ls.length) (hnc : n ≤ c) (hc : c ≤ maxLen) : LinesR w (.slice ao n c) (ls.take n) := by
  obtain ⟨vs, h1, h2, h3⟩ := h
  refine ⟨vs.take n, h1.take (by rw [h2]; exact hv) (by omega) hnc hc, by simp [h2], fun i p x hp hx => ?_⟩
  rw [List.getElem?_take] at hp hx
  split at hp
  · rename_i hin
    rw [if_pos hin] at hx
    exact h3 i p x hp hx
  · cases hp

theorem OwnLn.nil (w : World) (base : Nat) : OwnLn w base (.slice none 0 0) [] := ⟨[], World.ownsRow_nil w base _ 2, rfl, fun i p x h => by simp at h⟩
theorem OwnLn.lt (h : OwnLn w base v ls) : ∀ k, v.ownBlock = some k → base ≤ k ∧ k < w.heap.size := by
  obtain ⟨vs, h1, -⟩ := h
  exact World.ownsRow.lt h1
theorem OwnLn.shape (h : OwnLn w base v ls) : ∃ ao cap, v = .slice ao ls.length cap := by
  obtain ⟨vs, h1, h2, -⟩ := h
  rcases h1.2 with ⟨rfl, h0⟩ | ⟨g, cap, cur, rfl, _⟩
  · exact ⟨none, 0, by rw [← h2, h0]⟩
  · exact ⟨_, cap, by rw [h2]⟩
/-- A step that turns one block elsewhere, and lays new ones. -/
theorem OwnLn.grown {row : Option Nat} (h : OwnLn w base v ls) (hg : w.grownBy w' row) (hr : ∀ k, row = some k → k < base) : OwnLn w' base v ls := by
  obtain ⟨vs, h1, h2, h3⟩ := h
  have hlt := World.ownsRow.lt h1
  have hne : ∀ {u : Value} {l : List Int}, Fr base u l → l = [] ∨ u.ownBlock ≠ row := by
    intro u l hf
    rcases hf with rfl | ⟨k, hk, hk2⟩
    · exact .inl rfl
    · refine .inr (fun e => ?_)
      rw [hk] at e
      have := hr k e.symm
      omega
  refine ⟨vs, World.ownsRow.kept h1 hg ?_, h2, fun i p x hp hx => ?_⟩
  · cases hv : v.ownBlock with
    | none => exact .inl rfl
    | some k => exact .inr (fun e => by have := hr k e.symm; have := hlt k hv; omega)
  · obtain ⟨⟨a1, a2⟩, b1, b2, c1, c2⟩ := h3 i p x hp hx
    exact ⟨⟨a1.grownA hg (hne b1), a2.grownA hg (hne b2)⟩, b1, b2, c1, c2⟩
theorem OwnLn.keep (h : OwnLn w base v ls) (hb : Below w.heap.size w w') : OwnLn w' base v ls :=
  h.grown (row := none) ⟨hb.os, hb.tape, hb.output, hb.size, fun k hk _ => hb.block k hk⟩ (fun k hk => by cases hk)

theorem flat_at (vs : List (Value × Value)) (i j : Nat) (p : Value × Value) (u : Value) (hp : vs[i]? = some p) (hu : (LnV p)[j]? = some u) : (vs.flatMap LnV)[i * 2 + j]? = some u := by
  induction vs generalizing i with
  | nil => simp at hp
  | cons q r ih =>
    have hj : j < 2 := by have := (List.getElem?_eq_some_iff.1 hu).1; simpa [LnV] using this
    rw [List.flatMap_cons]
    cases i with
    | zero =>
      simp at hp
      subst hp
      rw [Nat.zero_mul, Nat.zero_add, List.getElem?_append_left (by simp [LnV]; omega)]
      exact hu
    | succ i =>
      rw [List.getElem?_append_right (by simp [LnV]; omega)]
      have := ih i (by simpa using hp)
      rw [show (LnV q).length = 2 from rfl, show (i + 1) * 2 + j - 2 = i * 2 + j by omega]
      exact this

theorem OwnLn.rd (h : OwnLn w base v ls) : LinesR w v ls := by
  obtain ⟨vs, h1, h2, h3⟩ := h
  refine ⟨vs, ?_, h2, fun i p x hp hx => (h3 i p x hp hx).1⟩
  have hlt := World.ownsRow.lt h1
  have h1' := h1
  rcases h1.2 with ⟨rfl, h0⟩ | ⟨g, cap, cur, rfl, hb, hh, hnc, hcm, hsz, ht⟩
  · have : vs = [] := List.eq_nil_of_length_eq_zero h0
    subst this
    exact ⟨none, 0, rfl, Nat.le_refl _, Nat.zero_le _, fun h => absurd h (by simp)⟩
  · refine ⟨_, cap, rfl, hnc, hcm, fun hp => ⟨g, 0, rfl, (hlt g rfl).2, fun i x hx j u hu => ?_⟩⟩
    have hj : j < 2 := by have := (List.getElem?_eq_some_iff.1 hu).1; simpa [LnV] using this
    have hi : i < vs.length := (List.getElem?_eq_some_iff.1 hx).1
    have hf := flat_at vs i j x u hx hu
    rw [Nat.zero_add, h1'.cellAt (i * 2 + j) (by omega)]
    exact hf
end

theorem ap_of {w : World} {u v : Value} {l : List Int} {k : Nat} (h : Rd I64 w u l) (hk : v.ownBlock = some w.heap.size) : Ap u v l := by
  by_cases hl : l = []
  · exact .inl hl
  · obtain ⟨b, hb, hlt⟩ := rd_lt h hl
    exact .inr (by rw [hb, hk]; intro e; injection e with e; omega)

section
variable {P : Program} (w : World)
/-- append of one line. -/
theorem run_append_ln (base : Nat) (t ty : TypeId) (z : Value) (bytes : Nat) (ht : P.underlying t = some (.slice 41)) (hi : (P.info? 41).map (fun i => (i.zero, i.size, i.bytes)) = some (some z, 2, bytes)) (hzs : z.cells.size = 2)
    (v : Value) (ls : List LineD) (hown : OwnLn w base v ls) (h : Nat) (c : Nat) (mv bv : Value) (a b : List Int) (hc0 : w.cell? ⟨h, 0, none⟩ = some mv) (hc1 : w.cell? ⟨h, 1, none⟩ = some bv)
    (hm1 : mv.oneCell' = true) (hb1 : bv.oneCell' = true)
    (hl : LineR w mv bv a b) (f1 : Fr base mv a) (f2 : Fr base bv b) (p1 : Ap mv v a) (p2 : Ap bv v b)
    (h63 : ls.length + 1 ≤ 9223372036854775807) (hbytes : (ls.length + 1) * bytes ≤ 140737488355328) (hbase : base ≤ w.heap.size) :
    ∃ v' w', (Builtin.append_ #[t, t] ty #[v, .slice (some ⟨h, 0, none⟩) 1 c]).run P w = .ok v' w' ∧ OwnLn w' base v' (ls ++ [(a, b)]) ∧ w.grownBy w' v.ownBlock := by
  obtain ⟨i, hi, hz, hs, hby⟩ := info_parts hi
  obtain ⟨vs, h1, h2, h3⟩ := hown
  obtain ⟨v', w', e1, e2, e3, _, e5⟩ := run_append_own_at (P := P) w base t ty _ i z 2 bytes ht hi hz hs hby hzs (by omega) v vs.length (vs.flatMap LnV) h1 ⟨h, 0, none⟩ 1 c [mv, bv] rfl
    (by
      intro j u hj
      match j, hj with
      | 0, hj => simp at hj; subst hj; simpa [Addr.add] using hc0
      | 1, hj => simp at hj; subst hj; simpa [Addr.add] using hc1)
    (by intro u hu; simp at hu; rcases hu with rfl | rfl <;> assumption)
    (by unfold maxLen; omega) (by rw [h2]; exact hbytes) hbase
  have hap : ∀ {u : Value} {l : List Int}, Rd I64 w u l → Ap u v l → Rd I64 w' u l ∧ Ap u v' l := by
    intro u l hr ha
    refine ⟨hr.grownA e3 ha, ?_⟩
    rcases e5 with e5 | e5
    · unfold Ap; rw [e5]; exact ha
    · exact ap_of (k := 0) hr e5
  refine ⟨v', w', e1, ⟨vs ++ [(mv, bv)], ?_, by simp [h2], fun i p x hp hx => ?_⟩, e3⟩
  · rw [List.flatMap_append]
    simpa [LnV] using e2
  · by_cases hiv : i < vs.length
    · rw [List.getElem?_append_left hiv] at hp
      rw [List.getElem?_append_left (by omega)] at hx
      obtain ⟨⟨a1, a2⟩, b1, b2, c1, c2⟩ := h3 i p x hp hx
      obtain ⟨q1, q2⟩ := hap a1 c1
      obtain ⟨q3, q4⟩ := hap a2 c2
      exact ⟨⟨q1, q3⟩, b1, b2, q2, q4⟩
    · rw [List.getElem?_append_right (by omega)] at hp hx
      have hi0 : i - vs.length = 0 := by
        have := (List.getElem?_eq_some_iff.1 hp).1
        simpa using this
      rw [hi0] at hp
      rw [show i - ls.length = 0 by omega] at hx
      simp at hp hx
      subst hp hx
      obtain ⟨q1, q2⟩ := hap hl.1 p1
      obtain ⟨q3, q4⟩ := hap hl.2 p2
      exact ⟨⟨q1, q3⟩, f1, f2, q2, q4⟩

theorem wpList_append_ln {ops : Array Oper} {rest : List Oper} {o : Oper} {A : Act} {Q : Exit → Act → World → Prop} (hgd : o.guard = none) (s x : Operand) (t : TypeId)
    (ho : o.op = .call { callee := .builtin .append, args := #[s, x], argTypes := #[t, t] })
    (base : Nat) (z : Value) (bytes : Nat) (ht : P.underlying t = some (.slice 41)) (hi : (P.info? 41).map (fun i => (i.zero, i.size, i.bytes)) = some (some z, 2, bytes)) (hzs : z.cells.size = 2)
    (v : Value) (ls : List LineD) (hs : A.eval s = v) (hown : OwnLn w base v ls) (h : Nat) (c : Nat) (hx : A.eval x = .slice (some ⟨h, 0, none⟩) 1 c) (mv bv : Value) (a b : List Int) (hc0 : w.cell? ⟨h, 0, none⟩ = some mv) (hc1 : w.cell? ⟨h, 1, none⟩ = some bv)
    (hm1 : mv.oneCell' = true) (hb1 : bv.oneCell' = true)
    (hl : LineR w mv bv a b) (f1 : Fr base mv a) (f2 : Fr base bv b) (p1 : Ap mv v a) (p2 : Ap bv v b)
    (h63 : ls.length + 1 ≤ 9223372036854775807) (hbytes : (ls.length + 1) * bytes ≤ 140737488355328) (hbase : base ≤ w.heap.size)
    (hK : ∀ v' w', OwnLn w' base v' (ls ++ [(a, b)]) → w.grownBy w' v.ownBlock → wpList P ops Q rest (A.put o.dst v') w') : wpList P ops Q (o :: rest) A w := by
  refine wpList_plain hgd fun K hK' => ?_
  obtain ⟨v', w', hr, h2, h3⟩ := run_append_ln (P := P) w base t o.type z bytes ht hi hzs v ls hown h c mv bv a b hc0 hc1 hm1 hb1 hl f1 f2 p1 p2 h63 hbytes hbase
  unfold Oper.wp execOp
  simp only [ho, resolve, invoke, builtin, Sem.run_bind, Sem.run_pure, Result.andThen_ok, List.map_toArray, List.map_cons, List.map_nil, hs, hx, hr]
  exact hK' _ _ (hK v' w' h2 h3)
end
end Go.Proofs.YtmocomkobbiflaaGreat
end

section
/- Plain: the lines of a system line. -/
set_option linter.unusedVariables false
set_option linter.unusedSimpArgs false
namespace Go.Proofs.YtmocomkobbiflaaGreat

theorem next_mid {n k r : Nat} (hk : k ≤ n) (hr : r + 1 < choose n k) (hn : n ≤ 80) : nextV (unrankL n 1 r k) n = (unrankL n 1 (r + 1) k, true) := by
  obtain ⟨h1, h2⟩ := next_unrank hk (by omega : r < choose n k) hn
  obtain ⟨a, b, c⟩ := h2 hr
  have h3 := unrank_rankL (n := n) (last := 0) (by omega) a
  rw [b, c] at h3
  refine Prod.ext h3.symm ?_
  rw [h1]
  exact decide_eq_true hr

theorem next_end {n k r : Nat} (hk : k ≤ n) (hr : r < choose n k) (he : ¬ r + 1 < choose n k) (hn : n ≤ 80) : nextV (unrankL n 1 r k) n = ([], false) := by
  obtain ⟨h1, -⟩ := next_unrank hk hr hn
  have h2 : (nextV (unrankL n 1 r k) n).2 = false := by rw [h1]; exact decide_eq_false he
  unfold nextV at h2 ⊢
  split
  · rename_i hc
    rw [if_pos hc] at h2
    generalize nextI (unrankL n 1 r k) n (unrankL n 1 r k).length (unrankL n 1 r k).length = o at h2
    cases o with
    | none => rfl
    | some i => cases h2
  · rfl

/-- The numbers at places from 1 on. -/
def pickL (S : List Int) (p : List Int) : List Int := p.map fun x => S.getD (x - 1).toNat 0
theorem pickL_len (S p : List Int) : (pickL S p).length = p.length := by unfold pickL; simp

/-- The lines' main numbers, by rank. -/
def combS (S : List Int) (k r : Nat) : List Int := pickL S (unrankL S.length 1 r k)

theorem combS_len {S : List Int} {k r : Nat} (h : r < choose S.length k) : (combS S k r).length = k := by
  unfold combS; rw [pickL_len]; exact unrankL_len h

theorem places_at {n k r : Nat} (h : r < choose n k) : ∀ x ∈ unrankL n 1 r k, 1 ≤ x ∧ x ≤ n := by
  intro x hx
  have h2 := check_unrankL (n := n) (m := n) (w := 1) (r := r) (j := k) (by omega) (by omega) h 0 (by omega)
  have := (checkL_pair h2).2 x hx
  omega

/-- The lines of a system line. -/
def expL (S b : List Int) (k : Nat) : List LineD := (List.range (choose S.length k)).map fun r => (combS S k r, b)

theorem expL_len (S b : List Int) (k : Nat) : (expL S b k).length = choose S.length k := by unfold expL; simp
theorem expL_step (S b : List Int) (k r : Nat) : ((List.range (r + 1)).map fun r => (combS S k r, b)) = ((List.range r).map fun r => (combS S k r, b)) ++ [(combS S k r, b)] := by
  rw [List.range_succ, List.map_append]; rfl

/-- What Expand returns. -/
def expP (g : GameD) (a b : List Int) : List LineD × Int :=
  if sysE g a b ≠ 0 then ([], sysE g a b) else if 1024 < choose a.length g.main.toNat then ([], 3) else (expL (sortI a) (sortI b) g.main.toNat, 0)

/-- The reference's places count from 0. -/
def dn (l : List Int) : List Int := l.map fun x => x - 1
theorem dn_len (l : List Int) : (dn l).length = l.length := by unfold dn; simp
theorem dn_at (l : List Int) (i : Nat) (h : i < l.length) : (dn l).getD i 0 = l.getD i 0 - 1 := by
  unfold dn
  rw [List.getD_eq_getElem?_getD, List.getD_eq_getElem?_getD, List.getElem?_map, List.getElem?_eq_getElem h]
  rfl

def stepI (l : List Int) (n : Int) : List Int := l.take ((nextI l n l.length l.length).getD 0) ++ bump (l.getD ((nextI l n l.length l.length).getD 0) 0 + 1) (l.length - (nextI l n l.length l.length).getD 0)

theorem stepI_len {l : List Int} {n : Int} : (stepI l n).length = l.length := by
  unfold stepI
  have : (nextI l n l.length l.length).getD 0 ≤ l.length := by
    cases h : nextI l n l.length l.length with
    | none => simp
    | some i => have := nextI_lt h; simp; omega
  rw [List.length_append, List.length_take, length_bump]
  omega

theorem stepI_mid {n k r : Nat} (hk : k ≤ n) (hr : r + 1 < choose n k) (hn : n ≤ 80) : stepI (unrankL n 1 r k) n = unrankL n 1 (r + 1) k := by
  have h := next_mid hk hr hn
  unfold nextV at h
  split at h
  · unfold stepI
    cases hI : nextI (unrankL n 1 r k) n (unrankL n 1 r k).length (unrankL n 1 r k).length with
    | none => rw [hI] at h; have h2 := congrArg Prod.snd h; cases h2
    | some i =>
      rw [hI] at h
      have h2 := congrArg Prod.fst h
      exact h2
  · have h2 := congrArg Prod.snd h
    cases h2

theorem unrankL_first (n k w : Nat) (h : k ≤ n) : unrankL n w 0 k = bump (w : Int) k := by
  induction k generalizing n w with
  | zero => rw [unrankL_zero]; rfl
  | succ k ih =>
    obtain ⟨n, rfl⟩ := Nat.exists_eq_succ_of_ne_zero (show n ≠ 0 by omega)
    rw [unrankL_succ, if_pos (choose_pos (by omega)), ih n (w + 1) (by omega), bump_cons]
    rfl
end Go.Proofs.YtmocomkobbiflaaGreat
end

section
/- slices.Clone of numbers. Condition: at most 1000 elements. -/
open Go.RowKit
set_option linter.unusedVariables false
set_option linter.unusedSimpArgs false
namespace Go.Proofs.YtmocomkobbiflaaGreat

set_option maxHeartbeats 2000000 in
set_option maxRecDepth 100000 in
theorem sclone15_any (v : Value) (l : List Int) (w : World) (h : Rd I64 w v l) (hl : l.length ≤ 1000) :
    Calls Tryz.prog 39 #[v] w (ListF l w) := by
  have q22 : ∀ (w : World) (a : Option Addr) (n c n' c' : Nat), (binOp .eql 27 (.slice a n c) (.slice none n' c')).run Tryz.prog w = .ok (.bool a.isNone) w := fun w a n c n' c' => Lib.run_eql_slice_nil w _ _ a n c n' c' Tryz.underlying27
  have hh := hide h
  obtain ⟨ao, cap, rfl, hle, hmax, hrd⟩ := Rd.form h
  have hns := hide hl
  have hz : ao = none → l = [] := by
    intro e
    rcases Nat.eq_zero_or_pos l.length with h0 | h0
    · exact List.eq_nil_of_length_eq_zero h0
    · obtain ⟨b, off, e2, -⟩ := hrd.at_ h0
      rw [e] at e2
      cases e2
  clear h hrd hl
  cases ao with
  | none =>
    have hnil := hz rfl
    subst hnil
    have hrd := hh.out
    rw [List.length_nil]
    rw [List.length_nil] at hrd
    clear hz hle hns
    go_enter Tryz.func39, Tryz.ntmps39
    go_wp2
    go_ret
    exact ⟨_, rfl, Rd.nil, .inl rfl, Below.refl _ _⟩
  | some ad =>
    clear hz
    go_enter Tryz.func39, Tryz.ntmps39
    go_wp2_with (with_reducible refine wpList_append_rd _ rfl _ _ 27 rfl (V := I64) (fun _ => rfl) w.heap.size 3 (.int .i64 0) 8 Tryz.underlying27 infoInt rfl _ [] rfl ?_ _ l rfl ?_ ?_ ?_ ?_ ?_)
    case refine_1 => exact Own.ofRow (m := 0) (z := .int .i64 0) (Row.new _ _ _) (Nat.le_refl _) (by omega)
    case refine_2 => exact hh.out.alloc _
    case refine_3 => have := hns.out; simp; omega
    case refine_4 => have := hns.out; simp; omega
    case refine_5 => simp
    intro v2 w2 hown2 hg2w hv2
    have bw2 : Below w.heap.size w w2 := (Bel.al (Below.refl _ _) _).grown hg2w (by simp) (fun g hg => by simp [Value.ownBlock] at hg; omega)
    have hrd : Rd I64 w2 v2 l := by have := hown2.rd; simpa using this
    have hfr : Fr w.heap.size v2 l := by have := hown2.fr; simpa using this
    obtain ⟨a2, n2, c2, rfl⟩ := Rd.shape hrd
    clear hg2w hv2 hown2 hh
    go_wp2
    go_ret
    exact ⟨_, rfl, hrd, hfr, bw2⟩
end Go.Proofs.YtmocomkobbiflaaGreat
end

section
/- lotteryref15.Sorted: a list in ascending order, sorted in place. Condition: at most 1000 elements. -/
open Go.RowKit
set_option linter.unusedVariables false
set_option linter.unusedSimpArgs false
namespace Go.Proofs.YtmocomkobbiflaaGreat

def InsP (P : List Int) (i k : Nat) : Prop := (∀ a b, a < b → b ≤ i → a ≠ k → b ≠ k → P.getD a 0 ≤ P.getD b 0) ∧ (∀ b, k < b → b ≤ i → P.getD k 0 < P.getD b 0)
def SrtP (P : List Int) (i : Nat) : Prop := ∀ a b, a < b → b < i → P.getD a 0 ≤ P.getD b 0

theorem getD_swap {P : List Int} {k m : Nat} (hk : k < P.length) (hm : m < P.length) (x y : Int) (j : Nat) : ((P.set k y).set m x).getD j 0 = if j = m then x else if j = k then y else P.getD j 0 := by
  rw [List.getD_eq_getElem?_getD, List.getElem?_set, List.getElem?_set]
  by_cases h1 : j = m
  · subst h1
    rw [if_pos rfl, if_pos (by simpa using hm), if_pos rfl]
    rfl
  · rw [if_neg (fun h => h1 h.symm), if_neg h1]
    by_cases h2 : j = k
    · subst h2
      rw [if_pos rfl, if_pos hk, if_pos rfl]
      rfl
    · rw [if_neg (fun h => h2 h.symm), if_neg h2, List.getD_eq_getElem?_getD]

theorem insP_start {P : List Int} {i : Nat} (h : SrtP P i) : InsP P i i := ⟨fun a b hab hb _ hbi => h a b hab (by omega), fun b h1 h2 => by omega⟩
theorem insP_stop {P : List Int} {i k : Nat} (h : InsP P i k) (hk : k ≤ i) (hs : k = 0 ∨ P.getD (k - 1) 0 ≤ P.getD k 0) : SrtP P (i + 1) := by
  intro a b hab hb
  by_cases ha : a = k
  · subst ha
    have := h.2 b hab (by omega)
    omega
  · by_cases hbk : b = k
    · subst hbk
      rcases hs with hs | hs
      · omega
      · by_cases hak : a = b - 1
        · rw [hak]; exact hs
        · have := h.1 a (b - 1) (by omega) (by omega) (by omega) (by omega)
          omega
    · exact h.1 a b hab (by omega) ha hbk
theorem insP_step {P : List Int} {i k : Nat} (h : InsP P i k) (hk0 : 0 < k) (hk : k ≤ i) (hi : i < P.length) (hlt : P.getD k 0 < P.getD (k - 1) 0) : InsP ((P.set k (P.getD (k - 1) 0)).set (k - 1) (P.getD k 0)) i (k - 1) := by
  refine ⟨fun a b hab hb ha hbk => ?_, fun b h1 h2 => ?_⟩
  · rw [getD_swap (by omega) (by omega), getD_swap (by omega) (by omega), if_neg ha, if_neg hbk]
    by_cases e1 : a = k
    · subst e1
      rw [if_pos rfl, if_neg (by omega)]
      exact h.1 (a - 1) b (by omega) hb (by omega) (by omega)
    · rw [if_neg e1]
      by_cases e2 : b = k
      · subst e2
        rw [if_pos rfl]
        exact h.1 a (b - 1) (by omega) (by omega) (by omega) (by omega)
      · rw [if_neg e2]
        exact h.1 a b hab hb e1 e2
  · rw [getD_swap (by omega) (by omega), getD_swap (by omega) (by omega), if_pos rfl, if_neg (by omega)]
    by_cases e2 : b = k
    · rw [if_pos e2]; exact hlt
    · rw [if_neg e2]; exact h.2 b (by omega) h2
theorem srt_all {P : List Int} (h : SrtP P P.length) : P.Pairwise (· ≤ ·) := by
  rw [List.pairwise_iff_getElem]
  intro i j hi hj hij
  have := h i j hij hj
  rwa [List.getD_eq_getElem?_getD, List.getD_eq_getElem?_getD, List.getElem?_eq_getElem hi, List.getElem?_eq_getElem hj] at this
theorem swap_perm {P : List Int} {k m : Nat} (hk : k < P.length) (hm : m < P.length) : ((P.set k (P.getD m 0)).set m (P.getD k 0)).Perm P := by
  rw [List.getD_eq_getElem?_getD, List.getD_eq_getElem?_getD, List.getElem?_eq_getElem hk, List.getElem?_eq_getElem hm]
  exact List.set_set_perm hk hm

section
variable {α : Type} {V : α → Value} {w : World} {g : Nat} {t : TypeId} {P : List α} {rest : List Value}
theorem Row.cellA (h : Row w g t (P.map V ++ rest)) {i : Nat} (hi : i < P.length) : w.cell? ⟨g, i, none⟩ = some (V P[i]) := by
  rw [h.cell?, List.getElem?_append_left (by simpa using hi), List.getElem?_map, List.getElem?_eq_getElem hi]; rfl
theorem Row.setA (h : Row w g t (P.map V ++ rest)) {i : Nat} (hi : i < P.length) (x : α) : Row (w.setCell ⟨g, i, none⟩ (V x)) g t ((P.set i x).map V ++ rest) := by
  have := h.set i (V x)
  rw [List.set_append_left _ _ (by simpa using hi), ← List.map_set] at this
  exact this
theorem Row.rdA (h : Row w g t (P.map V ++ rest)) {n c : Nat} (hn : n = P.length) (hc : n ≤ c) (hm : c ≤ maxLen) : Rd V w (.slice (some ⟨g, 0, none⟩) n c) P := by
  subst hn
  refine ⟨_, c, rfl, hc, hm, fun _ => ⟨g, 0, rfl, h.lt, fun i x hx => ?_⟩⟩
  obtain ⟨hi, rfl⟩ := List.getElem?_eq_some_iff.1 hx
  rw [Nat.zero_add]
  exact h.cellA hi
end
theorem Own.row {α : Type} {V : α → Value} {w : World} {base e : Nat} {v : Value} {l : List α} (h : Own V w base e v l) (hl : 0 < l.length) : ∃ g cap rest, v = .slice (some ⟨g, 0, none⟩) l.length cap ∧ base ≤ g ∧ Row w g e (l.map V ++ rest) ∧ l.length ≤ cap ∧ cap ≤ maxLen := by
  rcases h.2 with ⟨rfl, h0⟩ | ⟨g, cap, cur, rfl, hb, hh, hnc, hcm, hsz, ht⟩
  · omega
  · refine ⟨g, cap, cur.toList.drop (l.length * 1), rfl, hb, ?_, hnc, hcm⟩
    rw [← ht, List.take_append_drop]
    exact hh

end Go.Proofs.YtmocomkobbiflaaGreat
end

section
/- lotteryref15.SameLine, Same: lists of lines. No condition. -/
open Go.RowKit
set_option linter.unusedVariables false
set_option linter.unusedSimpArgs false
namespace Go.Proofs.YtmocomkobbiflaaGreat

theorem rangeAt_keep15 {X Y : World} {b off : Nat} {cs : List Value} (h : X.rangeAt b off cs) (hb : Below X.heap.size X Y) : Y.rangeAt b off cs := fun j v hv => Bel.cellOf hb (h j v hv)

end Go.Proofs.YtmocomkobbiflaaGreat
end

section
/- slices.Equal at []int, bet.equal, lotteryref13.Same, slices.IndexFunc and ContainsFunc with bet's closure. No condition. -/
open Go.RowKit
set_option linter.unusedVariables false
set_option linter.unusedSimpArgs false
namespace Go.Proofs.YtmocomkobbiflaaGreat

set_option maxHeartbeats 1000000 in
set_option maxRecDepth 100000 in
theorem sequal_any (va vb : Value) (la lb : List Int) (w : World) (ha : Rd I64 w va la) (hb : Rd I64 w vb lb) :
    Calls Tryz.prog 101 #[va, vb] w (BoolB (decide (la = lb)) w) := by
  obtain ⟨aa, ca, rfl, hla, hca, hra⟩ := Rd.form ha
  obtain ⟨ab, cb, rfl, hlb, hcb, hrb⟩ := Rd.form hb
  have hca' : ca ≤ 9223372036854775807 := by unfold maxLen at hca; omega
  have hcb' : cb ≤ 9223372036854775807 := by unfold maxLen at hcb; omega
  by_cases hl : la.length = lb.length
  · have l3 : ((la.length : Int) != lb.length) = false := by simp; omega
    have l1 : la.length ≤ lb.length := by omega
    have l2 : lb.length ≤ la.length := by omega
    replace hl := hide hl
    go_enter Tryz.func101, Tryz.ntmps101
    go_wp2
    go_loopw [5, 13] (fun _ i wr => ∃ (k d : Nat), k ≤ la.length ∧ i = .int .i64 k ∧ wr = w.drewN d ∧ Hid (la.take k = lb.take k)) (fun _ i _ => la.length - (intOf i).toNat)
    case atStart => exact ⟨0, 0, Nat.zero_le _, rfl, rfl, rfl⟩
    case round =>
      obtain ⟨k, d, hk, rfl, rfl, htk⟩ := hrel
      by_cases hkl : k < la.length
      · have hk2 : k < lb.length := by omega
        obtain ⟨ba, offa, rfl, hba, hcella⟩ := hra.at_ hkl
        obtain ⟨bb, offb, rfl, hbb, hcellb⟩ := hrb.at_ hk2
        have c1 := hcella _ hkl
        have c2 := hcellb _ hk2
        clear hcella hcellb
        have i1 : (0 : Int) ≤ (k : Int) := by omega
        have i2 : (k : Int) < (la.length : Int) := by omega
        have i3 : (k : Int) < (lb.length : Int) := by omega
        by_cases he : la[k] = lb[k]
        · have hb1 : (la[k] != lb[k]) = false := by simpa using he
          replace he := hide he
          go_wp2
          go_quiet (fail)
          go_wp2
          go_roundw
          case rel =>
            refine ⟨k + 1, _, by omega, by go_num, rfl, ?_⟩
            show _ = _
            rw [take_snoc3 la k hkl, take_snoc3 lb k hk2, he.out, htk.out]
          case measure => simp [intOf]; omega
        · have hb1 : (la[k] != lb[k]) = true := by simpa using he
          have hne : decide (la = lb) = false := by
            apply decide_eq_false
            intro h
            subst h
            exact he rfl
          replace hne := hide hne
          go_wp2
          go_quiet (fail)
          go_wp2
          go_ret
          exact ⟨by rw [hne.out]; rfl, Bel.drN (Bel.drN (Below.refl _ _) _) _⟩
      · have hkk : k = la.length := by omega
        have heq : decide (la = lb) = true := by
          apply decide_eq_true
          have := htk.out
          rw [List.take_of_length_le (by omega), List.take_of_length_le (by omega)] at this
          exact this
        replace heq := hide heq
        replace hkk := hide hkk
        go_wp2
        go_ret
        exact ⟨by rw [heq.out]; rfl, Bel.drN (Below.refl _ _) _⟩
  · have l3 : ((la.length : Int) != lb.length) = true := by simp; omega
    have hne : decide (la = lb) = false := by
      apply decide_eq_false
      intro h
      exact hl (by rw [h])
    rw [hne]
    clear hl hne
    go_enter Tryz.func101, Tryz.ntmps101
    go_wp2
    go_ret
    exact ⟨rfl, Below.refl _ _⟩

set_option maxHeartbeats 2000000 in
set_option maxRecDepth 100000 in
theorem bequal_any (m1 b1 m2 b2 : Value) (a b c d : List Int) (w : World) (h1 : LineR w m1 b1 a b) (h2 : LineR w m2 b2 c d) :
    Calls Tryz.prog 109 #[lineVal m1 b1, lineVal m2 b2] w (BoolB (decide (a = c ∧ b = d)) w) := by
  have cA := hide (fun X (hX : Below w.heap.size w X) => sequal_any m1 m2 a c X (h1.1.below hX) (h2.1.below hX))
  have cB := hide (fun X (hX : Below w.heap.size w X) => sequal_any b1 b2 b d X (h1.2.below hX) (h2.2.below hX))
  obtain ⟨s1, n1, k1, rfl⟩ := Rd.shape h1.1
  obtain ⟨s2, n2, k2, rfl⟩ := Rd.shape h1.2
  obtain ⟨s3, n3, k3, rfl⟩ := Rd.shape h2.1
  obtain ⟨s4, n4, k4, rfl⟩ := Rd.shape h2.2
  clear h1 h2
  obtain ⟨p, hp⟩ : ∃ p, p = decide (a = c) := ⟨_, rfl⟩
  obtain ⟨q, hq⟩ : ∃ q, q = decide (b = d) := ⟨_, rfl⟩
  have hr : decide (a = c ∧ b = d) = (p && q) := by rw [hp, hq, Bool.decide_and]
  rw [hr]
  rw [← hp] at cA
  rw [← hq] at cB
  clear hp hq hr
  unfold lineVal
  go_enter Tryz.func109, Tryz.ntmps109
  go_upto_region 1 with (fail)
  obtain ⟨W, hW⟩ : ∃ W, W = ((w.alloc (Obj.cells #[(.slice s1 n1 k1), (.slice s2 n2 k2)] 41)).alloc (Obj.cells #[(.slice s3 n3 k3), (.slice s4 n4 k4)] 41)) := ⟨_, rfl⟩
  have bW : Below w.heap.size w W := by rw [hW]; exact Bel.al (Bel.al (Below.refl _ _) _) _
  have r0 : LineAt W (w.heap.size) ((.slice s1 n1 k1)) ((.slice s2 n2 k2)) := by rw [hW]; exact Row.alloc (Row.new _ _ _) _
  have r1 : LineAt W (w.heap.size + 1) ((.slice s3 n3 k3)) ((.slice s4 n4 k4)) := by rw [hW]; exact Row.at2 _ _ _ _
  have sW : w.heap.size + 1 < W.heap.size := by rw [hW]; simp
  rw [← hW]
  clear hW
  have c0 := r0.main
  have c2 := r1.main
  go_wp2_with fail
  refine (cA.out _ bW).mono ?_
  rintro e w1 ⟨rfl, hb1⟩
  have d1 := (r0.keep hb1).bonus
  have d3 := (r1.keep hb1).bonus
  have B1 := Bel.to bW hb1
  clear c0 c2 r0 r1 hb1
  cases p
  · go_wp2
    go_ret
    exact ⟨rfl, B1⟩
  · go_wp2_with fail
    refine (cB.out _ B1).mono ?_
    rintro e w2 ⟨rfl, hb2⟩
    go_wp2
    go_ret
    exact ⟨rfl, Bel.to B1 hb2⟩

/-- The closure that asks whether a line is the one in the box. -/
theorem same_closure (cb : Nat) (mv bv m1 b1 : Value) (a b c d : List Int) (w : World) (h : LineR w mv bv a b) (hb : LineAt w cb m1 b1) (h1 : LineR w m1 b1 c d) :
    Calls Tryz.prog 108 #[lineVal mv bv, .pointer (some ⟨cb, 0, none⟩)] w (BoolB (decide (a = c ∧ b = d)) w) := by
  have hlt := Row.lt hb
  have cE := hide (fun X (hX : Below w.heap.size w X) => bequal_any mv bv m1 b1 a b c d X (h.below hX) (h1.below hX))
  obtain ⟨s1, n1, k1, rfl⟩ := Rd.shape h.1
  obtain ⟨s2, n2, k2, rfl⟩ := Rd.shape h.2
  obtain ⟨s3, n3, k3, rfl⟩ := Rd.shape h1.1
  obtain ⟨s4, n4, k4, rfl⟩ := Rd.shape h1.2
  obtain ⟨p, hp⟩ : ∃ p, p = decide (a = c ∧ b = d) := ⟨_, rfl⟩
  rw [← hp] at cE ⊢
  have hb := hide hb
  clear hp h h1
  unfold lineVal at cE ⊢
  go_enter Tryz.func108, Tryz.ntmps108
  go_upto_region 1 with (fail)
  obtain ⟨W, hW⟩ : ∃ W, W = w.alloc (Obj.cells #[(.slice s1 n1 k1), (.slice s2 n2 k2)] 41) := ⟨_, rfl⟩
  have bW : Below w.heap.size w W := by rw [hW]; exact Bel.al (Below.refl _ _) _
  have r0 : LineAt W (w.heap.size) ((.slice s1 n1 k1)) ((.slice s2 n2 k2)) := by rw [hW]; exact Row.new _ _ _
  have r1 : LineAt W cb (.slice s3 n3 k3) (.slice s4 n4 k4) := hb.out.keep bW
  rw [← hW]
  clear hW
  go_wp2_with (first | (refine wpList_load_row rfl 41 _ rfl _ rfl _ _ _ _ r0 Tryz.underlying41 rfl (by kernel_rfl) ?_) | (refine wpList_load_row rfl 41 _ rfl _ rfl _ _ _ _ r1 Tryz.underlying41 rfl (by kernel_rfl) ?_) | fail)
  refine (cE.out _ bW).mono ?_
  rintro e w1 ⟨rfl, hb1⟩
  go_wp2
  go_ret
  exact ⟨rfl, Bel.to bW hb1⟩

/-- The first place of a line, or -1. -/
def idxL (c : LineD) : List LineD → Nat → Int
  | [], _ => -1
  | l :: r, k => if l.1 = c.1 ∧ l.2 = c.2 then (k : Int) else idxL c r (k + 1)
theorem idxL_mem (c : LineD) (ls : List LineD) (k : Nat) : decide (0 ≤ idxL c ls k) = decide (c ∈ ls) := by
  induction ls generalizing k with
  | nil => rw [idxL]; simp
  | cons l r ih =>
    rw [idxL]
    by_cases h : l.1 = c.1 ∧ l.2 = c.2
    · rw [if_pos h]
      have : c = l := (Prod.ext h.1 h.2).symm
      rw [decide_eq_true (by omega), decide_eq_true (by rw [this]; exact List.mem_cons_self)]
    · rw [if_neg h, ih (k + 1)]
      refine decide_eq_decide.2 ⟨fun hm => List.mem_cons_of_mem l hm, fun hm => ?_⟩
      rcases List.mem_cons.1 hm with e | e
      · exact absurd ⟨by rw [e], by rw [e]⟩ h
      · exact e

set_option maxHeartbeats 4000000 in
set_option maxRecDepth 100000 in
theorem index16_any (v : Value) (ls : List LineD) (cb : Nat) (m1 b1 : Value) (c : LineD) (w : World) (h : LinesR w v ls) (hb : LineAt w cb m1 b1) (h1 : LineR w m1 b1 c.1 c.2) :
    Calls Tryz.prog 147 #[v, .func (.func 108) #[] #[.pointer (some ⟨cb, 0, none⟩)]] w (IntB (idxL c ls 0) w) := by
  obtain ⟨R, hR⟩ : ∃ R, R = idxL c ls 0 := ⟨_, rfl⟩
  rw [← hR]
  obtain ⟨a1, c1, rfl, hc1, hm1⟩ := h.shape
  unfold maxLen at hm1
  have hh := hide h
  have hc := hide (fun X (mv bv : Value) (l : LineD) (hX : Below w.heap.size w X) (hl : LineR X mv bv l.1 l.2) => same_closure cb mv bv m1 b1 l.1 l.2 c.1 c.2 X hl (hb.keep hX) (h1.below hX))
  have hR0 := hide (show idxL c (ls.drop 0) 0 = R by rw [List.drop_zero, hR])
  obtain ⟨n, hn⟩ : ∃ n, n = ls.length := ⟨_, rfl⟩
  rw [← hn] at hc1 hh ⊢
  have hn9 : n ≤ 9223372036854775807 := by omega
  replace hn := hide hn
  clear h hb h1 hR
  go_enter Tryz.func147, Tryz.ntmps147
  go_wp2
  go_loopg [5, 8] n (fun gh _ t wr => ∃ k : Nat, gh = n - k ∧ k ≤ n ∧ t = .int .i64 (k : Int) ∧ Hid (idxL c (ls.drop k) k = R) ∧ Below w.heap.size w wr)
  case atStart => exact ⟨0, rfl, Nat.zero_le _, rfl, hR0, Below.refl _ _⟩
  case round =>
    obtain ⟨k, hgh, hk, rfl, hI, hB⟩ := hrel
    replace hgh := hide hgh
    by_cases hlt : k < n
    · have hlt2 := hide hlt
      have hlk : k < ls.length := by rw [← hn.out]; exact hlt
      obtain ⟨b0, off0, p, q, rfl, hb0, x1, y1, hl⟩ := (hh.out.below hB).at_ hlk
      have cC := hide (hc.out wr p q ls[k] hB hl)
      have hI2 := hI.out
      rw [List.drop_eq_getElem_cons hlk, idxL] at hI2
      obtain ⟨s1, n1, k1, rfl⟩ := Rd.shape hl.1
      obtain ⟨s2, n2, k2, rfl⟩ := Rd.shape hl.2
      have hrange : wr.rangeAt b0 (off0 + k * 2) [.slice s1 n1 k1, .slice s2 n2 k2] := by
        intro j v hv
        match j, hv with
        | 0, hv => simp at hv; subst hv; exact x1
        | 1, hv => simp at hv; subst hv; exact y1
      obtain ⟨p, hp⟩ : ∃ p, p = decide (ls[k].1 = c.1 ∧ ls[k].2 = c.2) := ⟨_, rfl⟩
      rw [← hp] at cC
      have j1 : (0 : Int) ≤ (k : Int) := by omega
      have j2 : (k : Int) < (n : Int) := by omega
      unfold lineVal at cC
      clear hl x1 y1
      go_wp2_with (first | (refine wpList_load_mid rfl 41 _ rfl b0 (off0 + k * 2) rfl [.slice s1 n1 k1, .slice s2 n2 k2] _ hrange Tryz.underlying41 rfl (by kernel_rfl) ?_) | fail)
      refine cC.out.mono ?_
      rintro e w3 ⟨rfl, hb3⟩
      have B3 := Bel.to hB hb3
      clear hb3 hB cC
      cases p
      · rw [if_neg (of_decide_eq_false hp.symm)] at hI2
        replace hI2 := hide hI2
        replace hp := hide hp
        go_wp2
        go_roundg (n - (k + 1))
        case measure => have := hgh.out; have := hlt2.out; omega
        case rel => exact ⟨k + 1, rfl, by have := hlt2.out; omega, by go_num, hI2, B3⟩
      · rw [if_pos (of_decide_eq_true hp.symm)] at hI2
        replace hI2 := hide hI2
        replace hp := hide hp
        go_wp2
        go_ret
        exact ⟨by rw [← hI2.out]; rfl, B3⟩
    · have hk2 : k = ls.length := by have := hn.out; omega
      have hI2 := hI.out
      rw [hk2, List.drop_length, idxL] at hI2
      replace hI2 := hide hI2
      replace hk2 := hide hk2
      have j2 : ¬ (k : Int) < (n : Int) := by omega
      go_wp2
      go_ret
      exact ⟨by rw [← hI2.out]; rfl, hB⟩

theorem contains16_any (v : Value) (ls : List LineD) (cb : Nat) (m1 b1 : Value) (c : LineD) (w : World) (h : LinesR w v ls) (hb : LineAt w cb m1 b1) (h1 : LineR w m1 b1 c.1 c.2) :
    Calls Tryz.prog 110 #[v, .func (.func 108) #[] #[.pointer (some ⟨cb, 0, none⟩)]] w (BoolB (decide (c ∈ ls)) w) := by
  have hm := idxL_mem c ls 0
  have hc := hide (index16_any v ls cb m1 b1 c w h hb h1)
  obtain ⟨a1, c1, rfl, hc1, hm1⟩ := h.shape
  obtain ⟨R, hR⟩ : ∃ R, R = idxL c ls 0 := ⟨_, rfl⟩
  rw [← hR] at hm hc
  rw [← hm]
  clear hm hR h hb h1
  go_enter Tryz.func110, Tryz.ntmps110
  go_wp2_with fail
  refine hc.out.mono ?_
  rintro e w1 ⟨rfl, hb1⟩
  go_wp2
  go_ret
  exact ⟨rfl, hb1⟩
end Go.Proofs.YtmocomkobbiflaaGreat
end

section
/- Plain: the bets of chapter 16. -/
set_option linter.unusedVariables false
set_option linter.unusedSimpArgs false
namespace Go.Proofs.YtmocomkobbiflaaGreat

/-- The form in which lines are held against each other. -/
def formG (g : GameD) (l : LineD) : LineD := if g.kind = 2 then l else (sortI l.1, sortI l.2)

/-- How many lines a line of a bet stands for, and its error. -/
def sizeB (g : GameD) (sys : Bool) (l : LineD) : Int × Int := if sys then sysP g l.1 l.2 else (1, lineE g l.1 l.2)

/-- The scan of a bet's lines: E holds the forms of the earlier ones, t their number of lines. -/
def scanB (g : GameD) (sys : Bool) : List LineD → List LineD → Int → Int × Int
  | [], _, t => (t, 0)
  | l :: r, E, t => if (sizeB g sys l).2 ≠ 0 then (0, (sizeB g sys l).2) else if formG g l ∈ E then (0, 6) else scanB g sys r (E ++ [formG g l]) (t + (sizeB g sys l).1)

/-- A bet: its lines, whether they are system lines, draws and add-ons. -/
structure BetD where
  lines : List LineD
  sys : Bool
  draws : Int
  addons : Int

/-- The number of expanded lines, and the error. -/
def betP (g : GameD) (b : BetD) : Int × Int :=
  if gameE g ≠ 0 then (0, gameE g)
  else if b.lines.length < 1 ∨ 16 < b.lines.length then (0, 3)
  else if (scanB g b.sys b.lines [] 0).2 ≠ 0 then (0, (scanB g b.sys b.lines [] 0).2)
  else if 1024 < (scanB g b.sys b.lines [] 0).1 then (0, 3)
  else if b.draws < 1 ∨ g.draws < b.draws then (0, 2)
  else if b.addons < 0 ∨ 2 ^ g.addons.length ≤ b.addons then (0, 2)
  else ((scanB g b.sys b.lines [] 0).1, 0)

/-- The lines that a line of a bet stands for. -/
def lineB (g : GameD) (sys : Bool) (l : LineD) : List LineD := if sys then expL (sortI l.1) (sortI l.2) g.main.toNat else [formG g l]
/-- The expanded lines. -/
def linesB (g : GameD) (b : BetD) : List LineD := b.lines.flatMap (lineB g b.sys)

theorem size_lines {g : GameD} {sys : Bool} {l : LineD} (h : (sizeB g sys l).2 = 0) : (sizeB g sys l).1 = ((lineB g sys l).length : Int) ∧ (sizeB g sys l).1 ≤ 4000 := by
  unfold sizeB lineB at *
  cases sys with
  | false => exact ⟨rfl, by simp⟩
  | true =>
    simp only [if_true] at h ⊢
    unfold sysP at h ⊢
    by_cases he : sysE g l.1 l.2 = 0
    · rw [if_pos he] at h ⊢
      rw [expL_len, sortI_len]
      refine ⟨rfl, ?_⟩
      obtain ⟨g1, g2, g3, g4, g5, g6, g7, g8⟩ := sysE_ok he
      obtain ⟨f1, f2, f3, f4, f5, f6, f7, f8, f9⟩ := sys_bounds g1
      have hs := choose_small (n := l.1.length) (k := g.main.toNat) (by omega)
      show ((choose l.1.length g.main.toNat : Nat) : Int) ≤ 4000
      omega
    · rw [if_neg he] at h; exact absurd h he

theorem scan_lines {g : GameD} {sys : Bool} {ls E : List LineD} {t : Int} (h : (scanB g sys ls E t).2 = 0) :
    (scanB g sys ls E t).1 = t + ((ls.flatMap (lineB g sys)).length : Int) ∧ ∀ l ∈ ls, (sizeB g sys l).2 = 0 := by
  induction ls generalizing E t with
  | nil => rw [scanB]; exact ⟨by simp, fun l hl => by cases hl⟩
  | cons l r ih =>
    rw [scanB] at h ⊢
    by_cases h1 : (sizeB g sys l).2 = 0
    · rw [if_neg (by simpa using h1)] at h ⊢
      by_cases h2 : formG g l ∈ E
      · rw [if_pos h2] at h; exact absurd h (by simp)
      · rw [if_neg h2] at h ⊢
        obtain ⟨a, b⟩ := ih h
        refine ⟨?_, fun x hx => ?_⟩
        · rw [a, (size_lines h1).1, List.flatMap_cons, List.length_append]; omega
        · rcases List.mem_cons.1 hx with rfl | hx
          · exact h1
          · exact b x hx
    · rw [if_pos (by simpa using h1)] at h
      exact absurd h h1

/-- What a valid bet is. -/
theorem betP_ok {g : GameD} {b : BetD} (h : (betP g b).2 = 0) : gameE g = 0 ∧ 1 ≤ b.lines.length ∧ b.lines.length ≤ 16 ∧ (betP g b).1 = ((linesB g b).length : Int) ∧ (linesB g b).length ≤ 1024 ∧ 1 ≤ b.draws ∧ b.draws ≤ g.draws ∧ 0 ≤ b.addons ∧ b.addons < 2 ^ g.addons.length ∧ ∀ l ∈ b.lines, (sizeB g b.sys l).2 = 0 := by
  unfold betP at h ⊢
  by_cases h1 : gameE g = 0
  · rw [if_neg (by simpa using h1)] at h ⊢
    by_cases h2 : b.lines.length < 1 ∨ 16 < b.lines.length
    · rw [if_pos h2] at h; exact absurd h (by simp)
    · rw [if_neg h2] at h ⊢
      by_cases h3 : (scanB g b.sys b.lines [] 0).2 = 0
      · rw [if_neg (by simpa using h3)] at h ⊢
        obtain ⟨a, c⟩ := scan_lines h3
        rw [Int.zero_add] at a
        by_cases h4 : 1024 < (scanB g b.sys b.lines [] 0).1
        · rw [if_pos h4] at h; exact absurd h (by simp)
        · rw [if_neg h4] at h ⊢
          by_cases h5 : b.draws < 1 ∨ g.draws < b.draws
          · rw [if_pos h5] at h; exact absurd h (by simp)
          · rw [if_neg h5] at h ⊢
            by_cases h6 : b.addons < 0 ∨ 2 ^ g.addons.length ≤ b.addons
            · rw [if_pos h6] at h; exact absurd h (by simp)
            · rw [if_neg h6]
              exact ⟨h1, by omega, by omega, a, by unfold linesB; omega, by omega, by omega, by omega, by omega, c⟩
      · rw [if_pos (by simpa using h3)] at h; exact absurd h h3
  · rw [if_pos (by simpa using h1)] at h; exact absurd h h1

theorem addonsGo_ok {seen l : List AddonD} (h : addonsGo seen l = 0) : ∀ a ∈ l, addonE a = 0 := by
  induction l generalizing seen with
  | nil => intro a ha; cases ha
  | cons x r ih =>
    rw [addonsGo] at h
    by_cases h1 : addonE x = 0
    · rw [if_neg (by simpa using h1)] at h
      split at h
      · exact absurd h (by simp)
      · intro a ha
        rcases List.mem_cons.1 ha with rfl | ha
        · exact h1
        · exact ih h a ha
    · rw [if_pos (by simpa using h1)] at h; exact absurd h h1
theorem addonE_ok {a : AddonD} (h : addonE a = 0) : (a.kind = 1 ∨ a.kind = 2) ∧ 0 ≤ a.price ∧ a.price ≤ 1000000 := by
  unfold addonE at h
  split at h
  · exact absurd h (by simp)
  · split at h
    · exact absurd h (by simp)
    · split at h
      · exact absurd h (by simp)
      · rename_i h1 h2 h3
        have h4 : inB a.price 0 1000000 = true := by cases hx : inB a.price 0 1000000 <;> simp_all
        unfold inB at h4
        simp at h4
        exact ⟨by omega, by omega, by omega⟩
theorem game_addons {g : GameD} (h : gameE g = 0) : g.addons.length ≤ 4 ∧ ∀ a ∈ g.addons, addonE a = 0 := by
  unfold gameE at h
  repeat (split at h; · exact absurd h (by simp))
  split at h
  · rename_i h1; exact absurd h h1
  · rename_i h1
    have h2 : addonsE g.addons = 0 := by simpa using h1
    unfold addonsE at h2
    split at h2
    · exact absurd h2 (by simp)
    · exact ⟨by omega, addonsGo_ok h2⟩
theorem game_price {g : GameD} (h : gameE g = 0) : 1 ≤ g.price ∧ g.price ≤ 1000000 ∧ 1 ≤ g.draws ∧ g.draws ≤ 32 := by
  have hm := game_mat h
  unfold matB at hm
  simp only [Bool.and_eq_true] at hm
  obtain ⟨⟨⟨⟨⟨⟨⟨p, -⟩, -⟩, -⟩, -⟩, -⟩, d⟩, -⟩ := hm
  unfold inB at p d
  simp at p d
  omega
/-- A mask's bits behind the last add-on. -/
theorem mask_shift {x : Int} {k m : Nat} (h0 : ¬ x < 0) (hm : m = k) (hk : k ≤ 4) : (2 ^ k ≤ x → (x / 2 ^ m != 0) = true) ∧ (¬ 2 ^ k ≤ x → (x / 2 ^ m != 0) = false) := by
  rw [hm]
  have hk2 : (0 : Int) < 2 ^ k := Int.pow_pos (by omega)
  refine ⟨fun h => ?_, fun h => ?_⟩
  · have : x / 2 ^ k ≠ 0 := by
      have := (Int.le_ediv_iff_mul_le (a := 1) (b := x) hk2).2 (by omega)
      omega
    simpa using this
  · have : x / 2 ^ k = 0 := Int.ediv_eq_zero_of_lt (by omega) (by omega)
    simpa using this
end Go.Proofs.YtmocomkobbiflaaGreat
end

/- SystemSpreads: for every input the Go function lotterylaw15.SystemSpreads returns true, and each argument reads afterwards as before. Conditions: none. -/
import Derived.Test.YtlppomkpmnpmcaaRows
import Derived.WalkKit
import Derived.ProofKit
import Derived.OpenShut
import Derived.ChangeOld
import Derived.Below
import Derived.Test.YtlppomkpmnpmcaaGLine
import Derived.Test.YtlppomkpmnpmcaaGRef
import Derived.Test.YtlppomkpmnpmcaaGCore
import Derived.Test.YtlppomkpmnpmcaaGMat
import Derived.Test.YtlppomkpmnpmcaaGNat
import Derived.Test.YtlppomkpmnpmcaaGTrod

section
/- system.valid, lotteryref15.game. -/
open Go.RowKit
set_option linter.unusedVariables false
set_option linter.unusedSimpArgs false
namespace Go.Proofs.Ytlppomkpmnpmcaa

/-- The code of a game for system bets. -/
def gameS (g : GameD) : Int := if gameE g ≠ 0 then gameE g else if g.kind ≠ 1 then 7 else 0

set_option maxHeartbeats 2000000 in
set_option maxRecDepth 100000 in
theorem valid_any (g : GameD) (av tv : Value) (ms : List AddonM) (w : World) (h : GameR w av tv ms g) :
    Calls Try.prog 40 #[gameVal g av tv] w (IntB (gameS g) w) := by
  have hc := hide (fun X (hX : GameR X av tv ms g) => show Calls Try.prog 30 #[gameVal g av tv] X (IntC (if gameE g = 0 then (countG g : Int) else 0) (gameE g) X) from by
    by_cases he : gameE g = 0
    · rw [if_pos he, he]; exact mcount_ok g av tv ms X hX he
    · rw [if_neg he]; exact mcount_bad g av tv ms X hX he)
  obtain ⟨cn, hcn⟩ : ∃ c, c = (if gameE g = 0 then (countG g : Int) else 0) := ⟨_, rfl⟩
  rw [← hcn] at hc
  clear hcn
  have hh := hide h
  obtain ⟨aa, ac, rfl, hal, ham⟩ := h.1.1.shape
  obtain ⟨ta, tc, rfl, htl, htm⟩ := h.2.2.shape
  clear h
  obtain ⟨r, hr⟩ : ∃ r, r = gameS g := ⟨_, rfl⟩
  rw [← hr]
  unfold gameS at hr
  obtain ⟨c, hcc⟩ : ∃ c, c = gameE g := ⟨_, rfl⟩
  rw [← hcc] at hc hr
  clear hcc
  obtain ⟨gname, gkind, gprice, gmain, gof, gbonus, gbonusOf, gextra, gdraws, gsystem, gdays, gat, gclose, gcancel, gexpiry, gpool, greserve, ground, gcap, grolls, ga, gt⟩ := g
  unfold gameVal at hc ⊢
  (try simp only [] at hc hr ⊢)
  replace hr := hide hr
  have hbel := hide (fun W (bW : Below w.heap.size w W) => hc.out W (hh.out.below bW))
  clear hc hh
  go_enter Try.func40, Try.ntmps40
  go_upto_region 1 with (fail)
  obtain ⟨W, hW⟩ : ∃ W, W = (w.alloc (Obj.cells #[.string gname, .int .i64 gkind, .int .i64 gprice, .int .i64 gmain, .int .i64 gof, .int .i64 gbonus, .int .i64 gbonusOf, .int .i64 gextra, .int .i64 gdraws, .int .i64 gsystem, .int .i64 gdays, .int .i64 gat, .int .i64 gclose, .int .i64 gcancel, .int .i64 gexpiry, .int .i64 gpool, .int .i64 greserve, .int .i64 ground, .int .i64 gcap, .int .i64 grolls, (.slice aa ms.length ac), (.slice ta gt.length tc)] 25)) := ⟨_, rfl⟩
  have bW : Below w.heap.size w W := by rw [hW]; exact Bel.al (Below.refl _ _) _
  have r0 : Row W (w.heap.size) 25 [.string gname, .int .i64 gkind, .int .i64 gprice, .int .i64 gmain, .int .i64 gof, .int .i64 gbonus, .int .i64 gbonusOf, .int .i64 gextra, .int .i64 gdraws, .int .i64 gsystem, .int .i64 gdays, .int .i64 gat, .int .i64 gclose, .int .i64 gcancel, .int .i64 gexpiry, .int .i64 gpool, .int .i64 greserve, .int .i64 ground, .int .i64 gcap, .int .i64 grolls, (.slice aa ms.length ac), (.slice ta gt.length tc)] := by rw [hW]; exact Row.new _ _ _
  have c0_1 : W.cell? ⟨w.heap.size, 1, none⟩ = some (.int .i64 gkind) := Row.cell r0 (i := 1) (by simp)
  have sW : w.heap.size < W.heap.size := by rw [hW]; simp
  rw [← hW]
  clear hW
  go_wp2_with (first | (refine wpList_load_row rfl 25 _ rfl _ rfl _ _ _ _ r0 Try.underlying25 rfl (by kernel_rfl) ?_) | fail)
  refine (hbel.out _ bW).mono ?_
  rintro e w1 ⟨rfl, hb1⟩
  have d1 := Bel.cellOf hb1 c0_1
  have B1 := Bel.to bW hb1
  clear c0_1 r0 hb1 hbel
  by_cases hc0 : c = 0
  · subst hc0
    by_cases hk : gkind = 1
    · have hr2 : r = 0 := by rw [hr.out, if_neg (by simp), if_neg (by simpa using hk)]
      replace hr2 := hide hr2
      subst hk
      clear hr
      go_wp2
      go_ret
      rw [hr2.out]
      exact ⟨rfl, B1⟩
    · have hr2 : r = 7 := by rw [hr.out, if_neg (by simp), if_pos hk]
      have hkb : (gkind != 1) = true := by simpa using hk
      replace hr2 := hide hr2
      replace hk := hide hk
      clear hr
      go_wp2
      go_ret
      rw [hr2.out]
      exact ⟨rfl, B1⟩
  · have hr2 : r = c := by rw [hr.out, if_pos hc0]
    have hcb : (c != 0) = true := by simpa using hc0
    have hcb2 : (c == 0) = false := by simpa using hc0
    replace hr2 := hide hr2
    replace hc0 := hide hc0
    clear hr
    go_wp2
    go_ret
    rw [hr2.out]
    exact ⟨rfl, B1⟩

set_option maxHeartbeats 2000000 in
set_option maxRecDepth 100000 in
theorem rgame_any (g : GameD) (av tv : Value) (ms : List AddonM) (w : World) (h : GameR w av tv ms g) :
    Calls Try.prog 42 #[gameVal g av tv] w (IntB (gameS g) w) := by
  have hc := hide (fun X (hX : GameR X av tv ms g) => rcheck_any g av tv ms X hX)
  have hh := hide h
  obtain ⟨aa, ac, rfl, hal, ham⟩ := h.1.1.shape
  obtain ⟨ta, tc, rfl, htl, htm⟩ := h.2.2.shape
  clear h
  obtain ⟨r, hr⟩ : ∃ r, r = gameS g := ⟨_, rfl⟩
  rw [← hr]
  unfold gameS at hr
  obtain ⟨c, hcc⟩ : ∃ c, c = gameE g := ⟨_, rfl⟩
  rw [← hcc] at hc hr
  clear hcc
  obtain ⟨gname, gkind, gprice, gmain, gof, gbonus, gbonusOf, gextra, gdraws, gsystem, gdays, gat, gclose, gcancel, gexpiry, gpool, greserve, ground, gcap, grolls, ga, gt⟩ := g
  unfold gameVal at hc ⊢
  (try simp only [] at hc hr ⊢)
  replace hr := hide hr
  have hbel := hide (fun W (bW : Below w.heap.size w W) => hc.out W (hh.out.below bW))
  clear hc hh
  go_enter Try.func42, Try.ntmps42
  go_upto_region 1 with (fail)
  obtain ⟨W, hW⟩ : ∃ W, W = (w.alloc (Obj.cells #[.string gname, .int .i64 gkind, .int .i64 gprice, .int .i64 gmain, .int .i64 gof, .int .i64 gbonus, .int .i64 gbonusOf, .int .i64 gextra, .int .i64 gdraws, .int .i64 gsystem, .int .i64 gdays, .int .i64 gat, .int .i64 gclose, .int .i64 gcancel, .int .i64 gexpiry, .int .i64 gpool, .int .i64 greserve, .int .i64 ground, .int .i64 gcap, .int .i64 grolls, (.slice aa ms.length ac), (.slice ta gt.length tc)] 25)) := ⟨_, rfl⟩
  have bW : Below w.heap.size w W := by rw [hW]; exact Bel.al (Below.refl _ _) _
  have r0 : Row W (w.heap.size) 25 [.string gname, .int .i64 gkind, .int .i64 gprice, .int .i64 gmain, .int .i64 gof, .int .i64 gbonus, .int .i64 gbonusOf, .int .i64 gextra, .int .i64 gdraws, .int .i64 gsystem, .int .i64 gdays, .int .i64 gat, .int .i64 gclose, .int .i64 gcancel, .int .i64 gexpiry, .int .i64 gpool, .int .i64 greserve, .int .i64 ground, .int .i64 gcap, .int .i64 grolls, (.slice aa ms.length ac), (.slice ta gt.length tc)] := by rw [hW]; exact Row.new _ _ _
  have c0_1 : W.cell? ⟨w.heap.size, 1, none⟩ = some (.int .i64 gkind) := Row.cell r0 (i := 1) (by simp)
  have sW : w.heap.size < W.heap.size := by rw [hW]; simp
  rw [← hW]
  clear hW
  go_wp2_with (first | (refine wpList_load_row rfl 25 _ rfl _ rfl _ _ _ _ r0 Try.underlying25 rfl (by kernel_rfl) ?_) | fail)
  refine (hbel.out _ bW).mono ?_
  rintro e w1 ⟨s, rfl, hb1⟩
  have d1 := Bel.cellOf hb1 c0_1
  have B1 := Bel.to bW hb1
  clear c0_1 r0 hb1 hbel
  by_cases hc0 : c = 0
  · subst hc0
    by_cases hk : gkind = 1
    · have hr2 : r = 0 := by rw [hr.out, if_neg (by simp), if_neg (by simpa using hk)]
      replace hr2 := hide hr2
      subst hk
      clear hr
      go_wp2
      go_ret
      rw [hr2.out]
      exact ⟨rfl, B1⟩
    · have hr2 : r = 7 := by rw [hr.out, if_neg (by simp), if_pos hk]
      have hkb : (gkind != 1) = true := by simpa using hk
      replace hr2 := hide hr2
      replace hk := hide hk
      clear hr
      go_wp2
      go_ret
      rw [hr2.out]
      exact ⟨rfl, B1⟩
  · have hr2 : r = c := by rw [hr.out, if_pos hc0]
    have hcb : (c != 0) = true := by simpa using hc0
    have hcb2 : (c == 0) = false := by simpa using hc0
    replace hr2 := hide hr2
    replace hc0 := hide hc0
    clear hr
    go_wp2
    go_ret
    rw [hr2.out]
    exact ⟨rfl, B1⟩

end Go.Proofs.Ytlppomkpmnpmcaa
end

section
/- append at an operation of a region that draws its order; elements of one cell. -/
open Go.RowKit
set_option linter.unusedVariables false
set_option linter.unusedSimpArgs false
namespace Go.Proofs.Ytlppomkpmnpmcaa

theorem wp_append_rd {P : Program} {w : World} {α : Type} {V : α → Value} {o : Oper} {a : Act} {K : Act → World → Prop} {Q : Exit → Act → World → Prop} (s x : Operand) (t : TypeId)
    (ho : o.op = .call { callee := .builtin .append, args := #[s, x], argTypes := #[t, t] })
    (hone : ∀ x, (V x).oneCell' = true) (base : Nat) (e : TypeId) (z : Value) (bytes : Nat) (ht : P.underlying t = some (.slice e)) (hi : (P.info? e).map (fun i => (i.zero, i.size, i.bytes)) = some (some z, 1, bytes)) (hzs : z.cells.size = 1)
    (v : Value) (l : List α) (hs : a.eval s = v) (hown : Own V w base e v l) (u : Value) (l2 : List α) (hx : a.eval x = u) (hr : Rd V w u l2)
    (h63 : l.length + l2.length ≤ 9223372036854775807) (hbytes : (l.length + l2.length) * bytes ≤ 140737488355328) (hbase : base ≤ w.heap.size)
    (h : ∀ v' w', Own V w' base e v' (l ++ l2) → w.grownBy w' v.ownBlock → K (a.put o.dst v') w') : o.wp P a w K Q := by
  obtain ⟨v', w', hr, h2, h3, h4⟩ := run_append_rd (P := P) w hone base t o.type e z bytes ht hi hzs v l hown u l2 hr h63 hbytes hbase
  unfold Oper.wp execOp
  simp only [ho, resolve, invoke, builtin, Sem.run_bind, Sem.run_pure, Result.andThen_ok, List.map_toArray, List.map_cons, List.map_nil, hs, hx, hr]
  exact h v' w' h2 h3
end Go.Proofs.Ytlppomkpmnpmcaa
end

section
/- lotteryref15.Choose: Pascal's triangle. Condition: n from 0 to 14. -/
open Go.RowKit
set_option linter.unusedVariables false
set_option linter.unusedSimpArgs false
namespace Go.Proofs.Ytlppomkpmnpmcaa

/-- Row i of the triangle. -/
def rowL (i : Nat) : List Int := (List.range (i + 1)).map fun k => ((choose i k : Nat) : Int)
theorem rowL_len (i : Nat) : (rowL i).length = i + 1 := by unfold rowL; simp
theorem rowL_at {i k : Nat} (h : k < i + 1) : (rowL i)[k]? = some ((choose i k : Nat) : Int) := by
  unfold rowL
  rw [List.getElem?_map, List.getElem?_range h]; rfl
theorem rowL_get {i k : Nat} (h : k < (rowL i).length) : (rowL i)[k] = ((choose i k : Nat) : Int) := by
  have h1 := rowL_at (i := i) (k := k) (by rw [rowL_len] at h; exact h)
  rw [List.getElem?_eq_getElem h] at h1
  injection h1
theorem rowL_take {i k : Nat} (h : k < i + 1) : (rowL i).take (k + 1) = (rowL i).take k ++ [((choose i k : Nat) : Int)] := by
  rw [List.take_succ_eq_append_getElem (by rw [rowL_len]; exact h), rowL_get]
theorem rowL_zero : rowL 0 = [1] := by unfold rowL; simp [choose_zero]
theorem rowL_one (i : Nat) : (rowL i).take 1 = [1] := by
  have := rowL_take (i := i) (k := 0) (by omega)
  rw [this, choose_zero]; rfl
theorem rowL_all (i : Nat) : (rowL (i + 1)).take (i + 1) ++ [1] = rowL (i + 1) := by
  have := rowL_take (i := i + 1) (k := i + 1) (by omega)
  rw [choose_self] at this
  have e : (rowL (i + 1)).take (i + 1 + 1) = rowL (i + 1) := List.take_of_length_le (by rw [rowL_len]; omega)
  rw [e] at this
  exact this.symm
theorem choose_small {n k : Nat} (h : n ≤ 14) : choose n k ≤ 3432 := by
  refine Nat.le_trans (choose_mono_n h) ?_
  rw [choose_fast]
  rcases Nat.lt_or_ge 14 k with h | h
  · rw [← choose_fast, choose_gt h]; omega
  · have : k = 0 ∨ k = 1 ∨ k = 2 ∨ k = 3 ∨ k = 4 ∨ k = 5 ∨ k = 6 ∨ k = 7 ∨ k = 8 ∨ k = 9 ∨ k = 10 ∨ k = 11 ∨ k = 12 ∨ k = 13 ∨ k = 14 := by omega
    rcases this with rfl | rfl | rfl | rfl | rfl | rfl | rfl | rfl | rfl | rfl | rfl | rfl | rfl | rfl | rfl <;> decide

set_option maxHeartbeats 4000000 in
set_option maxRecDepth 100000 in
theorem choose15_in (n k : Nat) (w : World) (hn : n ≤ 14) (hk : k ≤ n) : Calls Try.prog 17 #[.int .i64 (n : Int), .int .i64 (k : Int)] w (IntB ((choose n k : Nat) : Int) w) := by
  have k1 : ¬ (n : Int) < (k : Int) := by omega
  obtain ⟨r, hr⟩ : ∃ r, r = choose n k := ⟨_, rfl⟩
  rw [← hr]
  replace hr := hide hr
  go_enter Try.func17, Try.ntmps17
  go_wp2
  obtain ⟨W, hW⟩ : ∃ W, W = w.alloc (.cells #[.int .i64 1] 3) := ⟨_, rfl⟩
  have B0 : Below w.heap.size w W := by rw [hW]; exact Bel.al (Below.refl _ _) _
  have h0 : Rd I64 W (.slice (some ⟨w.heap.size, 0, none⟩) 1 1) [1] := by rw [hW]; exact Rd.new [1] rfl rfl (Nat.le_refl _) (by decide) rfl
  rw [← hW]
  clear hW
  go_loopg [5, 6] n (fun gh rv t wr => ∃ (i : Nat) (so : Option Addr) (sc : Nat), gh = n - i ∧ i ≤ n ∧ rv = .slice so (i + 1) sc ∧ t = .int .i64 i ∧ Rd I64 wr (.slice so (i + 1) sc) (rowL i) ∧ Below w.heap.size w wr)
  case atStart => exact ⟨0, some ⟨w.heap.size, 0, none⟩, 1, rfl, Nat.zero_le _, rfl, rfl, by rw [rowL_zero]; exact h0, B0⟩
  case round =>
    obtain ⟨i, so, sc, hg, hi, rfl, rfl, hrow, hB⟩ := hrel
    replace hg := hide hg
    obtain ⟨so', sc', e, hsc1, hsc2, hrow'⟩ := Rd.form hrow
    rw [rowL_len] at e hsc1
    injection e with e1 _ e3
    subst e1 e3
    have hsc3 : sc ≤ 9223372036854775807 := by unfold maxLen at hsc2; omega
    clear hrow'
    by_cases hlt : i < n
    · have hlt2 := hide hlt
      obtain ⟨b, off, rfl, hbb, hcell⟩ := Rd.at_ hrow (k := i) (by rw [rowL_len]; omega)
      go_wp2
      obtain ⟨wo, hwo⟩ : ∃ wo, wo = wr := ⟨_, rfl⟩
      rw [← hwo] at hrow hB hbb hcell ⊢
      obtain ⟨Z, hZ⟩ : ∃ Z, Z = wo.alloc (.cells #[.int .i64 1] 3) := ⟨_, rfl⟩
      have bZ : Below wo.heap.size wo Z := by rw [hZ]; exact Bel.al (Below.refl _ _) _
      have oZ : Own I64 Z wo.heap.size 3 (.slice (some ⟨wo.heap.size, 0, none⟩) 1 1) [1] := by
        rw [hZ]
        exact ⟨rfl, .inr ⟨wo.heap.size, 1, _, rfl, Nat.le_refl _, Row.newOf (cs := [.int .i64 1]) _ rfl, Nat.le_refl _, by unfold maxLen; omega, rfl, rfl⟩⟩
      rw [← hZ]
      clear hwo hZ
      replace hcell := hide hcell
      go_loopg [7, 8] i (fun gh nv t wr => ∃ (k : Nat) (A : List Int) (ao : Option Addr) (m cap : Nat), gh = i - k ∧ k ≤ i ∧ nv = .slice ao m cap ∧ t = .int .i64 ((k : Int) + 1) ∧ Own I64 wr wo.heap.size 3 (.slice ao m cap) A ∧ Below wo.heap.size wo wr ∧ Hid (A = (rowL (i + 1)).take (k + 1)))
      case atStart => exact ⟨0, [1], some ⟨wo.heap.size, 0, none⟩, 1, 1, rfl, Nat.zero_le _, rfl, rfl, oZ, bZ, (rowL_one _).symm⟩
      case round =>
        obtain ⟨k, A, ao, m, cap, hg2, hk2, rfl, rfl, hown, hbel, hA⟩ := hrel
        replace hg2 := hide hg2
        have hAl : A.length = k + 1 := by rw [hA.out, List.length_take, rowL_len]; omega
        by_cases hki : k < i
        · have hki2 := hide hki
          obtain ⟨x, hx⟩ : ∃ x : Int, x = ((choose i k : Nat) : Int) := ⟨_, rfl⟩
          obtain ⟨y, hy⟩ : ∃ y : Int, y = ((choose i (k + 1) : Nat) : Int) := ⟨_, rfl⟩
          have c1o : wo.cell? ⟨b, off + k, none⟩ = some (.int .i64 x) := by have := hcell.out k (by rw [rowL_len]; omega); rw [this, rowL_get, hx]
          have c2o : wo.cell? ⟨b, off + (k + 1), none⟩ = some (.int .i64 y) := by have := hcell.out (k + 1) (by rw [rowL_len]; omega); rw [this, rowL_get, hy]
          have bx : 0 ≤ x ∧ x ≤ 3432 := by have := choose_small (n := i) (k := k) (by omega); omega
          have by_ : 0 ≤ y ∧ y ≤ 3432 := by have := choose_small (n := i) (k := k + 1) (by omega); omega
          obtain ⟨bx1, bx2⟩ := bx
          obtain ⟨by1, by2⟩ := by_
          have hnext : A ++ [x + y] = (rowL (i + 1)).take (k + 1 + 1) := by
            rw [rowL_take (by omega), ← hA.out, choose_succ, hx, hy]
            simp
          have c1 := Bel.cellOf hbel c1o
          have c2 := Bel.cellOf hbel c2o
          have j1 : (0 : Int) ≤ (k : Int) := by omega
          have j0 : (0 : Int) ≤ (k : Int) + 1 := by omega
          have j2 : (k : Int) + 1 < ((i + 1 : Nat) : Int) := by omega
          have j3 : (k : Int) + 1 < (i : Int) + 1 := by omega
          have j4 : (k : Int) < (i : Int) + 1 := by omega
          have kw : IntKind.i64.wrap (k : Int) = (k : Int) := IntWalk.i64_in _ (by omega)
          have kx : IntKind.i64.wrap (x + y) = x + y := IntWalk.i64_in _ (by omega)
          replace hnext := hide hnext
          replace hx := hide hx
          replace hy := hide hy
          replace hAl := hide hAl
          go_upto_region 11 with (fail)
          refine wp_region_held_drew (S := fun X => X.cell? ⟨b, off + k, none⟩ = some (.int .i64 x) ∧ X.cell? ⟨b, off + (k + 1), none⟩ = some (.int .i64 y)) (by kernel_rfl) ⟨c1, c2⟩ (fun hHeld => ?_)
          refine' wpAnyH_take (i := 0) (oi := _) (v := .slice ao m cap) rfl (by kernel_rfl) (by kernel_rfl) (by kernel_rfl) (fun _ _ _ h => h) (Or.inl ⟨by rfl, fun X _ => by go_simp⟩) hHeld ?_
          try simp only [Act.put, List.setIfInBounds_toArray, List.set_cons_zero, List.set_cons_succ]
          refine' wpAnyH_take (i := 1) (oi := _) (v := .slice (some ⟨b, off, none⟩) (i + 1) sc) rfl (by kernel_rfl) (by kernel_rfl) (by kernel_rfl) (fun _ _ _ h => h) (Or.inl ⟨by rfl, fun X _ => by go_simp⟩) hHeld ?_
          try simp only [Act.put, List.setIfInBounds_toArray, List.set_cons_zero, List.set_cons_succ]
          refine' wpAnyH_take (i := 2) (oi := _) (v := .int .i64 ((k : Int) + 1)) rfl (by kernel_rfl) (by kernel_rfl) (by kernel_rfl) (fun _ _ _ h => h) (Or.inl ⟨by rfl, fun X _ => by go_simp⟩) hHeld ?_
          try simp only [Act.put, List.setIfInBounds_toArray, List.set_cons_zero, List.set_cons_succ]
          refine' wpAnyH_take (i := 3) (oi := _) (v := .int .i64 (k : Int)) rfl (by kernel_rfl) (by kernel_rfl) (by kernel_rfl) (fun _ _ _ h => h) (Or.inl ⟨by rfl, fun X _ => by go_simp⟩) hHeld ?_
          try simp only [Act.put, List.setIfInBounds_toArray, List.set_cons_zero, List.set_cons_succ]
          refine' wpAnyH_take (i := 4) (oi := _) (v := .pointer (some ⟨b, off + k, none⟩)) rfl (by kernel_rfl) (by kernel_rfl) (by kernel_rfl) (fun _ _ _ h => h) (Or.inl ⟨by rfl, fun X _ => by go_simp⟩) hHeld ?_
          try simp only [Act.put, List.setIfInBounds_toArray, List.set_cons_zero, List.set_cons_succ]
          refine' wpAnyH_take (i := 5) (oi := _) (v := .int .i64 x) rfl (by kernel_rfl) (by kernel_rfl) (by kernel_rfl) (fun _ _ _ h => h) (Or.inl ⟨by rfl, fun X hX => by obtain ⟨h1, h2⟩ := hX; go_simp⟩) hHeld ?_
          try simp only [Act.put, List.setIfInBounds_toArray, List.set_cons_zero, List.set_cons_succ]
          refine' wpAnyH_take (i := 6) (oi := _) (v := .slice (some ⟨b, off, none⟩) (i + 1) sc) rfl (by kernel_rfl) (by kernel_rfl) (by kernel_rfl) (fun _ _ _ h => h) (Or.inl ⟨by rfl, fun X _ => by go_simp⟩) hHeld ?_
          try simp only [Act.put, List.setIfInBounds_toArray, List.set_cons_zero, List.set_cons_succ]
          refine' wpAnyH_take (i := 7) (oi := _) (v := .int .i64 ((k : Int) + 1)) rfl (by kernel_rfl) (by kernel_rfl) (by kernel_rfl) (fun _ _ _ h => h) (Or.inl ⟨by rfl, fun X _ => by go_simp⟩) hHeld ?_
          try simp only [Act.put, List.setIfInBounds_toArray, List.set_cons_zero, List.set_cons_succ]
          refine' wpAnyH_take (i := 8) (oi := _) (v := .pointer (some ⟨b, off + (k + 1), none⟩)) rfl (by kernel_rfl) (by kernel_rfl) (by kernel_rfl) (fun _ _ _ h => h) (Or.inl ⟨by rfl, fun X _ => by go_simp⟩) hHeld ?_
          try simp only [Act.put, List.setIfInBounds_toArray, List.set_cons_zero, List.set_cons_succ]
          refine' wpAnyH_take (i := 9) (oi := _) (v := .int .i64 y) rfl (by kernel_rfl) (by kernel_rfl) (by kernel_rfl) (fun _ _ _ h => h) (Or.inl ⟨by rfl, fun X hX => by obtain ⟨h1, h2⟩ := hX; go_simp⟩) hHeld ?_
          try simp only [Act.put, List.setIfInBounds_toArray, List.set_cons_zero, List.set_cons_succ]
          refine' wpAnyH_take (i := 10) (oi := _) (v := .int .i64 (x + y)) rfl (by kernel_rfl) (by kernel_rfl) (by kernel_rfl) (fun _ _ _ h => h) (Or.inl ⟨by rfl, fun X _ => by go_simp⟩) hHeld ?_
          try simp only [Act.put, List.setIfInBounds_toArray, List.set_cons_zero, List.set_cons_succ]
          refine wpAnyH_ready (rs := [11]) (by kernel_rfl) (by simp) ?_
          refine AllReadyH.cons (o := _) rfl (fun K hK => ?_) AllReadyH.nil
          go_simp
          obtain ⟨Y, hY⟩ : ∃ Y, Y = (wr.alloc (.cells #[.int .i64 (x + y)] 3)).drew := ⟨_, rfl⟩
          have bY : Below wr.heap.size wr Y := by rw [hY]; exact Bel.to (Bel.al (Below.refl _ _) _) (Below.drewSelf _)
          have nY : Rd I64 Y (.slice (some ⟨wr.heap.size, 0, none⟩) 1 1) [x + y] := by rw [hY]; exact Rd.drew (Rd.new [x + y] rfl rfl (Nat.le_refl _) (by decide) rfl)
          rw [← hY]
          clear hY
          have c1 := Bel.cellOf bY c1
          have c2 := Bel.cellOf bY c2
          have hown := hown.keep bY
          refine hK.out _ _ ⟨c1, c2⟩ (fun hHeld => ?_)
          clear hK K
          try simp only [Act.put, List.setIfInBounds_toArray, List.set_cons_zero, List.set_cons_succ]
          refine wpAnyH_ready (rs := [12]) (by kernel_rfl) (by simp) ?_
          refine AllReadyH.cons (o := _) rfl (fun K hK => ?_) AllReadyH.nil
          refine wp_append_rd _ _ 26 rfl (V := I64) (fun _ => rfl) wo.heap.size 3 (.int .i64 0) 8 Try.underlying26 infoInt rfl _ A rfl ?_ _ [x + y] rfl ?_ ?_ ?_ ?_ ?_
          case refine_1 => exact hown
          case refine_2 => exact nY
          case refine_3 => have := hAl.out; simp; omega
          case refine_4 => have := hAl.out; simp; omega
          case refine_5 => have := bY.size; have := hbel.size; omega
          intro v4 w4 hown4 hg4
          have b4 : Below wo.heap.size wo w4 := (Bel.to hbel bY).grown hg4 (Bel.to hbel bY).size (fun g hg => (hown.lt g hg).1)
          have c1 := Bel.cellOf b4 c1o
          have c2 := Bel.cellOf b4 c2o
          obtain ⟨a4, n4, k4, rfl⟩ := Rd.shape hown4.rd
          clear hg4 nY bY
          refine hK.out _ _ ⟨c1, c2⟩ (fun hHeld => ?_)
          clear hK K
          try simp only [Act.put, List.setIfInBounds_toArray, List.set_cons_zero, List.set_cons_succ]
          refine' wpAnyH_take (i := 13) (oi := _) (v := .slice a4 n4 k4) rfl (by kernel_rfl) (by kernel_rfl) (by kernel_rfl) (fun _ _ _ h => h) (Or.inl ⟨by rfl, fun X _ => by go_simp⟩) hHeld ?_
          try simp only [Act.put, List.setIfInBounds_toArray, List.set_cons_zero, List.set_cons_succ]
          refine wpAnyH_done (by kernel_rfl) ?_ _
          go_simp
          have hAT : A ++ [x + y] = (rowL (i + 1)).take (k + 1 + 1) := hnext.out
          replace hAT := hide hAT
          go_wp2
          go_roundg (i - (k + 1))
          case measure => have := hg2.out; have := hki2.out; omega
          case rel => exact ⟨k + 1, A ++ [x + y], a4, n4, k4, rfl, by have := hki2.out; omega, rfl, by go_num, hown4, b4, hAT⟩
        · have hki2 : k = i := by omega
          have hA2 := hA.out
          rw [hki2] at hA2
          have hfin : A ++ [1] = rowL (i + 1) := by rw [hA2]; exact rowL_all i
          have j3 : ¬ (k : Int) + 1 < (i : Int) + 1 := by omega
          replace hfin := hide hfin
          replace hki2 := hide hki2
          clear hA2
          go_wp2_with (with_reducible refine wpList_append_rd _ rfl _ _ 26 rfl (V := I64) (fun _ => rfl) wo.heap.size 3 (.int .i64 0) 8 Try.underlying26 infoInt rfl _ A rfl ?_ _ [1] rfl ?_ ?_ ?_ ?_ ?_)
          case refine_1 => exact Own.alloc hown _
          case refine_2 => exact Rd.new [1] rfl rfl (Nat.le_refl _) (by decide) rfl
          case refine_3 => have := hAl; simp; omega
          case refine_4 => have := hAl; simp; omega
          case refine_5 => have := hbel.size; simp; omega
          intro v5 w5 hown5 hg5 hv5
          have b5 := (Bel.al hbel _).grown hg5 (Bel.al hbel _).size (fun g hg => (hown.lt g hg).1)
          have hrd5 := hown5.rd
          rw [hfin.out] at hrd5
          obtain ⟨a5, n5, k5, rfl⟩ := Rd.shape hrd5
          have hn5 := Rd.len_eq hrd5
          rw [rowL_len] at hn5
          subst hn5
          clear hown5 hown hg5 hv5
          go_wp2
          go_roundg (n - (i + 1))
          case measure => have := hg.out; have := hlt2.out; omega
          case rel => exact ⟨i + 1, a5, k5, rfl, by have := hlt2.out; omega, rfl, by go_num, hrd5, Bel.to hB b5⟩
    · have hin : i = n := by omega
      obtain ⟨b, off, rfl, hbb, hcell⟩ := Rd.at_ hrow (k := k) (by rw [rowL_len]; omega)
      have c1 : wr.cell? ⟨b, off + k, none⟩ = some (.int .i64 (r : Int)) := by have := hcell k (by rw [rowL_len]; omega); rw [this, rowL_get, hr.out, hin]
      have j1 : (0 : Int) ≤ (k : Int) := by omega
      have j2 : (k : Int) < (i : Int) + 1 := by omega
      replace hin := hide hin
      clear hcell
      go_wp2
      go_ret
      exact ⟨rfl, hB⟩

theorem choose15_any (n k : Int) (w : World) (h0 : 0 ≤ n) (hn : n ≤ 14) : Calls Try.prog 17 #[.int .i64 n, .int .i64 k] w (IntB ((chooseI n k : Nat) : Int) w) := by
  obtain ⟨n, rfl⟩ := Int.eq_ofNat_of_zero_le h0
  have hz : ∀ X, (k < 0 ∨ (¬ k < 0 ∧ (n : Int) < k)) → Calls Try.prog 17 #[.int .i64 (n : Int), .int .i64 k] X (IntB 0 X) := by
    intro X h
    clear h0
    rcases h with h | ⟨h, h2⟩
    all_goals
      go_enter Try.func17, Try.ntmps17
      go_wp2
      go_ret
      exact ⟨rfl, Below.refl _ _⟩
  by_cases h1 : k < 0
  · unfold chooseI
    rw [if_pos h1]
    exact hz w (.inl h1)
  · obtain ⟨k, rfl⟩ := Int.eq_ofNat_of_zero_le (show 0 ≤ k by omega)
    rw [chooseI_nat n k _ _ rfl rfl]
    by_cases h2 : k ≤ n
    · exact choose15_in n k w (by omega) h2
    · rw [choose_gt (by omega)]
      exact hz w (.inr ⟨by omega, by omega⟩)
end Go.Proofs.Ytlppomkpmnpmcaa
end

section
/- system.Spread, lotteryref15.Spread: the ways that give an error; what they give else. No condition. -/
open Go.RowKit
set_option linter.unusedVariables false
set_option linter.unusedSimpArgs false
namespace Go.Proofs.Ytlppomkpmnpmcaa

/-- The code of Spread. -/
def spreadE (g : GameD) (s d : Int) : Int := if gameS g ≠ 0 then gameS g else if s < g.main ∨ g.system < s ∨ d < 0 ∨ s < d ∨ g.main < d then 2 else 0
def spreadN (g : GameD) (s d : Int) (h : Nat) : Nat := chooseI d h * chooseI (s - d) (g.main - h)
/-- How many lines have how many hits. -/
def spreadL (g : GameD) (s d : Int) (m : Nat) : List Int := (List.range m).map fun h => ((spreadN g s d h : Nat) : Int)
theorem spreadL_len (g : GameD) (s d : Int) (m : Nat) : (spreadL g s d m).length = m := by unfold spreadL; simp
theorem spreadL_succ (g : GameD) (s d : Int) (m : Nat) : spreadL g s d (m + 1) = spreadL g s d m ++ [((spreadN g s d m : Nat) : Int)] := by
  unfold spreadL; rw [List.range_succ, List.map_append]; rfl

theorem mat_system {g : GameD} (h : matB g = true) : g.system ≤ 14 := by
  unfold matB at h
  simp only [Bool.and_eq_true] at h
  obtain ⟨⟨⟨⟨⟨⟨⟨h1, h2⟩, h3⟩, h4⟩, h5⟩, h6⟩, h7⟩, h8⟩ := h
  have a2 := inB_iff.1 h2
  by_cases hk : g.kind = 2
  · rw [if_pos hk] at h8
    have := inB_iff.1 h8
    omega
  · rw [if_neg hk] at h8
    simp only [Bool.and_eq_true] at h8
    have := inB_iff.1 h8.1
    omega

theorem gameS_ok {g : GameD} (h : gameS g = 0) : gameE g = 0 ∧ g.kind = 1 := by
  unfold gameS at h
  split at h
  · rename_i h1; exact absurd h h1
  · rename_i h1
    split at h
    · omega
    · rename_i h2
      exact ⟨by simpa using h1, by simpa using h2⟩

theorem spreadE_ok {g : GameD} {s d : Int} (h : spreadE g s d = 0) : gameS g = 0 ∧ g.main ≤ s ∧ s ≤ g.system ∧ 0 ≤ d ∧ d ≤ s ∧ d ≤ g.main ∧ 1 ≤ g.main ∧ g.main ≤ 10 ∧ s ≤ 14 := by
  unfold spreadE at h
  by_cases h1 : gameS g = 0
  · rw [if_neg (by simpa using h1)] at h
    by_cases h2 : s < g.main ∨ g.system < s ∨ d < 0 ∨ s < d ∨ g.main < d
    · rw [if_pos h2] at h; omega
    · have hm := game_mat (gameS_ok h1).1
      have hf := mat_facts hm
      have hs := mat_system hm
      exact ⟨h1, by omega, by omega, by omega, by omega, by omega, by omega, by omega, by omega⟩
  · rw [if_pos (by simpa using h1)] at h
    exact absurd h h1

theorem chooseI_small {n k : Int} (h0 : 0 ≤ n) (h : n ≤ 14) : chooseI n k ≤ 3432 := by
  unfold chooseI
  split
  · omega
  · exact choose_small (by omega)
theorem spreadN_le {g : GameD} {s d : Int} (h : spreadE g s d = 0) (k : Nat) : spreadN g s d k ≤ 11778624 := by
  obtain ⟨-, a1, a2, a3, a4, a5, a6, a7, a8⟩ := spreadE_ok h
  have b1 := chooseI_small (n := d) (k := k) (by omega) (by omega)
  have b2 := chooseI_small (n := s - d) (k := g.main - k) (by omega) (by omega)
  exact Nat.mul_le_mul b1 b2
theorem hits_spread {g : GameD} {s d : Int} (h : spreadE g s d = 0) (k : Nat) (hk : (k : Int) ≤ g.main) : hitsV s g.main d k = (((spreadN g s d k : Nat) : Int), 0) := by
  obtain ⟨-, a1, a2, a3, a4, a5, a6, a7, a8⟩ := spreadE_ok h
  have hN : hitsN s g.main d k = spreadN g s d k := by
    unfold hitsN spreadN
    by_cases hd : d < (k : Int)
    · rw [if_pos (by omega)]
      have : chooseI d k = 0 := by
        unfold chooseI
        rw [if_neg (by omega)]
        exact choose_gt (by omega)
      rw [this, Nat.zero_mul]
    · rw [if_neg (by omega)]
  unfold hitsV
  rw [if_pos ⟨by omega, by omega, by omega, by omega⟩, hN, if_pos (by have := spreadN_le h k; omega)]

set_option maxHeartbeats 4000000 in
set_option maxRecDepth 100000 in
theorem spread15_bad (g : GameD) (av tv : Value) (ms : List AddonM) (s d : Int) (w : World) (h : GameR w av tv ms g) (he : spreadE g s d ≠ 0) :
    Calls Try.prog 13 #[gameVal g av tv, .int .i64 s, .int .i64 d] w (ListC [] (spreadE g s d) w) := by
  have hc := hide (fun X (hX : GameR X av tv ms g) => valid_any g av tv ms X hX)
  have hh := hide h
  obtain ⟨aa, ac, rfl, hal, ham⟩ := h.1.1.shape
  obtain ⟨ta, tc, rfl, htl, htm⟩ := h.2.2.shape
  clear h
  unfold spreadE at he ⊢
  obtain ⟨c, hcc⟩ : ∃ c, c = gameS g := ⟨_, rfl⟩
  rw [← hcc] at hc he ⊢
  clear hcc
  by_cases h0 : c = 0
  · subst h0
    rw [if_neg (by simp)] at he ⊢
    have hcase : s < g.main ∨ (¬ s < g.main ∧ g.system < s) ∨ (¬ s < g.main ∧ ¬ g.system < s ∧ d < 0) ∨ (¬ s < g.main ∧ ¬ g.system < s ∧ ¬ d < 0 ∧ s < d) ∨ (¬ s < g.main ∧ ¬ g.system < s ∧ ¬ d < 0 ∧ ¬ s < d ∧ g.main < d) := by
      by_cases hx : s < g.main ∨ g.system < s ∨ d < 0 ∨ s < d ∨ g.main < d
      · omega
      · rw [if_neg hx] at he; omega
    rw [if_pos (by omega)]
    clear he
    rcases hcase with q1 | ⟨q1, q2⟩ | ⟨q1, q2, q3⟩ | ⟨q1, q2, q3, q4⟩ | ⟨q1, q2, q3, q4, q5⟩
    all_goals
      unfold gameVal
      go_enter Try.func13, Try.ntmps13
      go_upto_region 1 with (fail)
      obtain ⟨W, hW⟩ : ∃ W, W = (w.alloc (Obj.cells #[.string g.name, .int .i64 g.kind, .int .i64 g.price, .int .i64 g.main, .int .i64 g.of, .int .i64 g.bonus, .int .i64 g.bonusOf, .int .i64 g.extra, .int .i64 g.draws, .int .i64 g.system, .int .i64 g.days, .int .i64 g.at_, .int .i64 g.close, .int .i64 g.cancel, .int .i64 g.expiry, .int .i64 g.pool, .int .i64 g.reserve, .int .i64 g.round, .int .i64 g.cap, .int .i64 g.rolls, (.slice aa ms.length ac), (.slice ta g.tiers.length tc)] 25)) := ⟨_, rfl⟩
      have bW : Below w.heap.size w W := by rw [hW]; exact Bel.al (Below.refl _ _) _
      have r0 : GameAt W (w.heap.size) g ((.slice aa ms.length ac)) ((.slice ta g.tiers.length tc)) := by rw [hW]; exact Row.new _ _ _
      have sW : w.heap.size < W.heap.size := by rw [hW]; simp
      rw [← hW]
      clear hW
      go_wp2_with (first | (refine wpList_load_row rfl 25 _ rfl _ rfl _ _ _ _ r0 Try.underlying25 rfl (by kernel_rfl) ?_) | fail)
      refine (hc.out _ (hh.out.below bW)).mono ?_
      rintro e w1 ⟨rfl, hb1⟩
      have B1 := Bel.to bW hb1
      have r0 := r0.keep hb1
      have d3 := r0.main
      have d9 := r0.system
      clear hb1 bW
      (try have m1 : ¬ g.main < s := by omega)
      go_wp2
      go_ret2
      exact ⟨_, rfl, Rd.nil, B1⟩
  · rw [if_pos h0]
    have hcb : (c != 0) = true := by simpa using h0
    replace h0 := hide h0
    clear he
    unfold gameVal
    go_enter Try.func13, Try.ntmps13
    go_upto_region 1 with (fail)
    obtain ⟨W, hW⟩ : ∃ W, W = (w.alloc (Obj.cells #[.string g.name, .int .i64 g.kind, .int .i64 g.price, .int .i64 g.main, .int .i64 g.of, .int .i64 g.bonus, .int .i64 g.bonusOf, .int .i64 g.extra, .int .i64 g.draws, .int .i64 g.system, .int .i64 g.days, .int .i64 g.at_, .int .i64 g.close, .int .i64 g.cancel, .int .i64 g.expiry, .int .i64 g.pool, .int .i64 g.reserve, .int .i64 g.round, .int .i64 g.cap, .int .i64 g.rolls, (.slice aa ms.length ac), (.slice ta g.tiers.length tc)] 25)) := ⟨_, rfl⟩
    have bW : Below w.heap.size w W := by rw [hW]; exact Bel.al (Below.refl _ _) _
    have r0 : GameAt W (w.heap.size) g ((.slice aa ms.length ac)) ((.slice ta g.tiers.length tc)) := by rw [hW]; exact Row.new _ _ _
    have sW : w.heap.size < W.heap.size := by rw [hW]; simp
    rw [← hW]
    clear hW
    go_wp2_with (first | (refine wpList_load_row rfl 25 _ rfl _ rfl _ _ _ _ r0 Try.underlying25 rfl (by kernel_rfl) ?_) | fail)
    refine (hc.out _ (hh.out.below bW)).mono ?_
    rintro e w1 ⟨rfl, hb1⟩
    have B1 := Bel.to bW hb1
    clear hb1 bW
    go_wp2
    go_ret2
    exact ⟨_, rfl, Rd.nil, B1⟩

set_option maxHeartbeats 4000000 in
set_option maxRecDepth 100000 in
theorem rspread15_bad (g : GameD) (av tv : Value) (ms : List AddonM) (s d : Int) (w : World) (h : GameR w av tv ms g) (he : spreadE g s d ≠ 0) :
    Calls Try.prog 14 #[gameVal g av tv, .int .i64 s, .int .i64 d] w (ListC [] (spreadE g s d) w) := by
  have hc := hide (fun X (hX : GameR X av tv ms g) => rgame_any g av tv ms X hX)
  have hh := hide h
  obtain ⟨aa, ac, rfl, hal, ham⟩ := h.1.1.shape
  obtain ⟨ta, tc, rfl, htl, htm⟩ := h.2.2.shape
  clear h
  unfold spreadE at he ⊢
  obtain ⟨c, hcc⟩ : ∃ c, c = gameS g := ⟨_, rfl⟩
  rw [← hcc] at hc he ⊢
  clear hcc
  by_cases h0 : c = 0
  · subst h0
    rw [if_neg (by simp)] at he ⊢
    have hcase : s < g.main ∨ (¬ s < g.main ∧ g.system < s) ∨ (¬ s < g.main ∧ ¬ g.system < s ∧ d < 0) ∨ (¬ s < g.main ∧ ¬ g.system < s ∧ ¬ d < 0 ∧ s < d) ∨ (¬ s < g.main ∧ ¬ g.system < s ∧ ¬ d < 0 ∧ ¬ s < d ∧ g.main < d) := by
      by_cases hx : s < g.main ∨ g.system < s ∨ d < 0 ∨ s < d ∨ g.main < d
      · omega
      · rw [if_neg hx] at he; omega
    rw [if_pos (by omega)]
    clear he
    rcases hcase with q1 | ⟨q1, q2⟩ | ⟨q1, q2, q3⟩ | ⟨q1, q2, q3, q4⟩ | ⟨q1, q2, q3, q4, q5⟩
    all_goals
      unfold gameVal
      go_enter Try.func14, Try.ntmps14
      go_upto_region 1 with (fail)
      obtain ⟨W, hW⟩ : ∃ W, W = (w.alloc (Obj.cells #[.string g.name, .int .i64 g.kind, .int .i64 g.price, .int .i64 g.main, .int .i64 g.of, .int .i64 g.bonus, .int .i64 g.bonusOf, .int .i64 g.extra, .int .i64 g.draws, .int .i64 g.system, .int .i64 g.days, .int .i64 g.at_, .int .i64 g.close, .int .i64 g.cancel, .int .i64 g.expiry, .int .i64 g.pool, .int .i64 g.reserve, .int .i64 g.round, .int .i64 g.cap, .int .i64 g.rolls, (.slice aa ms.length ac), (.slice ta g.tiers.length tc)] 25)) := ⟨_, rfl⟩
      have bW : Below w.heap.size w W := by rw [hW]; exact Bel.al (Below.refl _ _) _
      have r0 : GameAt W (w.heap.size) g ((.slice aa ms.length ac)) ((.slice ta g.tiers.length tc)) := by rw [hW]; exact Row.new _ _ _
      have sW : w.heap.size < W.heap.size := by rw [hW]; simp
      rw [← hW]
      clear hW
      go_wp2_with (first | (refine wpList_load_row rfl 25 _ rfl _ rfl _ _ _ _ r0 Try.underlying25 rfl (by kernel_rfl) ?_) | fail)
      refine (hc.out _ (hh.out.below bW)).mono ?_
      rintro e w1 ⟨rfl, hb1⟩
      have B1 := Bel.to bW hb1
      have r0 := r0.keep hb1
      have d3 := r0.main
      have d9 := r0.system
      clear hb1 bW
      (try have m1 : ¬ g.main < s := by omega)
      go_wp2
      go_ret2
      exact ⟨_, rfl, Rd.nil, B1⟩
  · rw [if_pos h0]
    have hcb : (c != 0) = true := by simpa using h0
    replace h0 := hide h0
    clear he
    unfold gameVal
    go_enter Try.func14, Try.ntmps14
    go_upto_region 1 with (fail)
    obtain ⟨W, hW⟩ : ∃ W, W = (w.alloc (Obj.cells #[.string g.name, .int .i64 g.kind, .int .i64 g.price, .int .i64 g.main, .int .i64 g.of, .int .i64 g.bonus, .int .i64 g.bonusOf, .int .i64 g.extra, .int .i64 g.draws, .int .i64 g.system, .int .i64 g.days, .int .i64 g.at_, .int .i64 g.close, .int .i64 g.cancel, .int .i64 g.expiry, .int .i64 g.pool, .int .i64 g.reserve, .int .i64 g.round, .int .i64 g.cap, .int .i64 g.rolls, (.slice aa ms.length ac), (.slice ta g.tiers.length tc)] 25)) := ⟨_, rfl⟩
    have bW : Below w.heap.size w W := by rw [hW]; exact Bel.al (Below.refl _ _) _
    have r0 : GameAt W (w.heap.size) g ((.slice aa ms.length ac)) ((.slice ta g.tiers.length tc)) := by rw [hW]; exact Row.new _ _ _
    have sW : w.heap.size < W.heap.size := by rw [hW]; simp
    rw [← hW]
    clear hW
    go_wp2_with (first | (refine wpList_load_row rfl 25 _ rfl _ rfl _ _ _ _ r0 Try.underlying25 rfl (by kernel_rfl) ?_) | fail)
    refine (hc.out _ (hh.out.below bW)).mono ?_
    rintro e w1 ⟨rfl, hb1⟩
    have B1 := Bel.to bW hb1
    clear hb1 bW
    go_wp2
    go_ret2
    exact ⟨_, rfl, Rd.nil, B1⟩
end Go.Proofs.Ytlppomkpmnpmcaa
end

section
/- system.Spread where it gives no error. No condition. -/
open Go.RowKit
set_option linter.unusedVariables false
set_option linter.unusedSimpArgs false
namespace Go.Proofs.Ytlppomkpmnpmcaa

set_option maxHeartbeats 4000000 in
set_option maxRecDepth 100000 in
theorem spread15_ok (g : GameD) (av tv : Value) (ms : List AddonM) (s d : Int) (w : World) (h : GameR w av tv ms g) (he : spreadE g s d = 0) :
    Calls Try.prog 13 #[gameVal g av tv, .int .i64 s, .int .i64 d] w (ListC (spreadL g s d (g.main.toNat + 1)) 0 w) := by
  have hc := hide (fun X (hX : GameR X av tv ms g) => valid_any g av tv ms X hX)
  have hh := hide h
  obtain ⟨aa, ac, rfl, hal, ham⟩ := h.1.1.shape
  obtain ⟨ta, tc, rfl, htl, htm⟩ := h.2.2.shape
  clear h
  obtain ⟨a0, a1, a2, a3, a4, a5, a6, a7, a8⟩ := spreadE_ok he
  rw [a0] at hc
  obtain ⟨n, hn⟩ : ∃ n : Nat, g.main = n := ⟨g.main.toNat, by omega⟩
  have hn10 : n ≤ 10 := by omega
  have hbd := fun k => spreadN_le he k
  replace hbd := hide hbd
  have q1 : ¬ s < g.main := by omega
  have q2 : ¬ g.system < s := by omega
  have q3 : ¬ d < 0 := by omega
  have q4 : ¬ s < d := by omega
  have q5 : ¬ g.main < d := by omega
  have cH := hide (fun (k : Nat) (hk : k ≤ n) X => hits_any s g.main d (k : Int) X)
  have hhv := hide (fun (k : Nat) (hk : k ≤ n) => hits_spread he k (by omega))
  rw [hn, Int.toNat_natCast]
  replace hn := hide hn
  clear a0 a1 a2 a3 a4 a5 a6 a7 a8 he
  unfold gameVal
  go_enter Try.func13, Try.ntmps13
  go_upto_region 1 with (fail)
  obtain ⟨W, hW⟩ : ∃ W, W = (w.alloc (Obj.cells #[.string g.name, .int .i64 g.kind, .int .i64 g.price, .int .i64 g.main, .int .i64 g.of, .int .i64 g.bonus, .int .i64 g.bonusOf, .int .i64 g.extra, .int .i64 g.draws, .int .i64 g.system, .int .i64 g.days, .int .i64 g.at_, .int .i64 g.close, .int .i64 g.cancel, .int .i64 g.expiry, .int .i64 g.pool, .int .i64 g.reserve, .int .i64 g.round, .int .i64 g.cap, .int .i64 g.rolls, (.slice aa ms.length ac), (.slice ta g.tiers.length tc)] 25)) := ⟨_, rfl⟩
  have bW : Below w.heap.size w W := by rw [hW]; exact Bel.al (Below.refl _ _) _
  have r0 : GameAt W (w.heap.size) g ((.slice aa ms.length ac)) ((.slice ta g.tiers.length tc)) := by rw [hW]; exact Row.new _ _ _
  have sW : w.heap.size < W.heap.size := by rw [hW]; simp
  rw [← hW]
  clear hW
  go_wp2_with (first | (refine wpList_load_row rfl 25 _ rfl _ rfl _ _ _ _ r0 Try.underlying25 rfl (by kernel_rfl) ?_) | fail)
  refine (hc.out _ (hh.out.below bW)).mono ?_
  rintro e w1 ⟨rfl, hb1⟩
  have B1 := Bel.to bW hb1
  have r0 := r0.keep hb1
  have d3 := r0.main
  have d9 := r0.system
  have zg : w.heap.size < w1.heap.size := by have := hb1.size; omega
  clear hb1 bW r0 hh hc
  have m1 : IntKind.i64.wrap (g.main + 1) = ((n + 1 : Nat) : Int) := by rw [hn.out]; rw [IntWalk.i64_in _ (by omega)]; simp
  go_upto_region 6 with (fail)
  clear q1 q2 q3 q4 q5 d9
  rw [hn.out] at d3
  go_wp2_with (with_reducible refine wpList_make_row _ rfl _ _ 26 rfl 3 (.int .i64 0) 8 Try.underlying26 infoInt rfl .i64 .i64 _ _ (n + 1) (n + 1) rfl rfl ?_ ?_ (Nat.le_refl _) ?_ ?_ ?_)
  case refine_1 => simp
  case refine_2 => simp
  case refine_3 => omega
  case refine_4 => omega
  intro w2 hrow hb2 hz2
  have d3 := Bel.cellOf hb2 d3
  have B2 := Bel.to B1 hb2
  have hrow0 : Row w2 w1.heap.size 3 ((spreadL g s d 0 ++ List.replicate (n + 1) (0 : Int)).map I64) := by
    rw [show spreadL g s d 0 = [] from rfl, List.nil_append, List.map_replicate]; exact hrow
  have z2 : w1.heap.size < w2.heap.size := by omega
  obtain ⟨gb, hgb⟩ : ∃ gb, gb = w1.heap.size := ⟨_, rfl⟩
  rw [← hgb] at hrow0 z2 zg ⊢
  clear hrow hb2 hz2 B1 hgb
  go_wp2
  go_loopg [46] (n + 1) (fun gh t wr => ∃ (k : Nat), gh = n + 1 - k ∧ k ≤ n + 1 ∧ t = .int .i64 k ∧ Below w.heap.size w wr ∧ wr.cell? ⟨w.heap.size, 3, none⟩ = some (.int .i64 (n : Int)) ∧ Row wr gb 3 ((spreadL g s d k ++ List.replicate (n + 1 - k) (0 : Int)).map I64))
  case atStart => exact ⟨0, rfl, Nat.zero_le _, rfl, B2, d3, hrow0⟩
  case round =>
    obtain ⟨k, hg, hk, rfl, hB, d3, hrow⟩ := hrel
    replace hg := hide hg
    by_cases hkn : k ≤ n
    · have hkn2 := hide hkn
      have cH2 := cH.out k hkn
      rw [hhv.out k hkn, hn.out] at cH2
      replace cH2 := hide cH2
      have hbd2 := hbd.out k
      obtain ⟨x, hx⟩ : ∃ x : Int, x = ((spreadN g s d k : Nat) : Int) := ⟨_, rfl⟩
      have hset : (spreadL g s d k ++ List.replicate (n + 1 - k) (0 : Int)).set k x = spreadL g s d (k + 1) ++ List.replicate (n + 1 - (k + 1)) 0 := by
        obtain ⟨j, hj⟩ : ∃ j, n + 1 - k = j + 1 := ⟨n - k, by omega⟩
        rw [hj, show n + 1 - (k + 1) = j by omega, spreadL_succ, List.set_append_right _ _ (by rw [spreadL_len]; omega), spreadL_len, Nat.sub_self, List.replicate_succ, List.set_cons_zero, hx, List.append_assoc]; rfl
      rw [← hx] at cH2
      have hlen : (spreadL g s d k ++ List.replicate (n + 1 - k) (0 : Int)).length = n + 1 := by rw [List.length_append, spreadL_len, List.length_replicate]; omega
      have j1 : (0 : Int) ≤ (k : Int) := by omega
      have j2 : (k : Int) < (n : Int) + 1 := by omega
      replace hset := hide hset
      replace hlen := hide hlen
      replace hx := hide hx
      go_wp2_with fail
      refine (cH2.out _).mono ?_
      rintro e w3 ⟨rfl, hb3⟩
      have d3 := Bel.cellOf hb3 d3
      have hrow := hrow.keep hb3
      have hB := Bel.to hB hb3
      have ce := Row.cell hrow (i := k) (by rw [List.length_map, hlen.out]; omega)
      have cf := Row.frozen hrow k
      have hrow2 := hrow.setV k x
      rw [hset.out] at hrow2
      have d32 := cell_far d3 (p := ⟨gb, k, none⟩) (by simp; omega) (I64 x)
      have hB2 := Bel.st hB (p := ⟨gb, k, none⟩) (by simp; omega) (I64 x)
      replace d32 := hide d32
      clear hb3
      go_wp2
      go_roundg (n + 1 - (k + 1))
      case measure => have := hg.out; have := hkn2.out; omega
      case rel => exact ⟨k + 1, rfl, by have := hkn2.out; omega, by go_num, hB2, d32.out, hrow2⟩
    · have hkn2 : k = n + 1 := by omega
      have j2 : ¬ (k : Int) < (n : Int) + 1 := by omega
      have hrd : Rd I64 wr (.slice (some ⟨gb, 0, none⟩) (n + 1) (n + 1)) (spreadL g s d (n + 1)) := by
        rw [hkn2, Nat.sub_self, List.replicate_zero, List.append_nil] at hrow
        exact hrow.rdAll (by rw [spreadL_len]) (Nat.le_refl _) (by omega)
      replace hkn2 := hide hkn2
      go_wp2
      go_ret2
      exact ⟨_, rfl, hrd, hB⟩
end Go.Proofs.Ytlppomkpmnpmcaa
end

section
/- lotteryref15.Spread where it gives no error; both together. No condition. -/
open Go.RowKit
set_option linter.unusedVariables false
set_option linter.unusedSimpArgs false
namespace Go.Proofs.Ytlppomkpmnpmcaa

set_option maxHeartbeats 4000000 in
set_option maxRecDepth 100000 in
theorem rspread15_ok (g : GameD) (av tv : Value) (ms : List AddonM) (s d : Int) (w : World) (h : GameR w av tv ms g) (he : spreadE g s d = 0) :
    Calls Try.prog 14 #[gameVal g av tv, .int .i64 s, .int .i64 d] w (ListC (spreadL g s d (g.main.toNat + 1)) 0 w) := by
  have hc := hide (fun X (hX : GameR X av tv ms g) => rgame_any g av tv ms X hX)
  have hh := hide h
  obtain ⟨aa, ac, rfl, hal, ham⟩ := h.1.1.shape
  obtain ⟨ta, tc, rfl, htl, htm⟩ := h.2.2.shape
  clear h
  obtain ⟨a0, a1, a2, a3, a4, a5, a6, a7, a8⟩ := spreadE_ok he
  rw [a0] at hc
  obtain ⟨n, hn⟩ : ∃ n : Nat, g.main = n := ⟨g.main.toNat, by omega⟩
  have hn10 : n ≤ 10 := by omega
  have hbd := fun k => spreadN_le he k
  replace hbd := hide hbd
  have q1 : ¬ s < g.main := by omega
  have q2 : ¬ g.system < s := by omega
  have q3 : ¬ d < 0 := by omega
  have q4 : ¬ s < d := by omega
  have q5 : ¬ g.main < d := by omega
  have u1 : 0 ≤ d := by omega
  have u2 : d ≤ 14 := by omega
  have u3 : 0 ≤ s - d := by omega
  have u4 : s - d ≤ 14 := by omega
  have uw : IntKind.i64.wrap (s - d) = s - d := IntWalk.i64_in _ (by omega)
  have um : 0 ≤ g.main := by omega
  have um2 : g.main ≤ 10 := by omega
  rw [hn, Int.toNat_natCast]
  replace hn := hide hn
  clear a0 a1 a2 a3 a4 a5 a6 a7 a8 he
  unfold gameVal
  go_enter Try.func14, Try.ntmps14
  go_upto_region 1 with (fail)
  obtain ⟨W, hW⟩ : ∃ W, W = (w.alloc (Obj.cells #[.string g.name, .int .i64 g.kind, .int .i64 g.price, .int .i64 g.main, .int .i64 g.of, .int .i64 g.bonus, .int .i64 g.bonusOf, .int .i64 g.extra, .int .i64 g.draws, .int .i64 g.system, .int .i64 g.days, .int .i64 g.at_, .int .i64 g.close, .int .i64 g.cancel, .int .i64 g.expiry, .int .i64 g.pool, .int .i64 g.reserve, .int .i64 g.round, .int .i64 g.cap, .int .i64 g.rolls, (.slice aa ms.length ac), (.slice ta g.tiers.length tc)] 25)) := ⟨_, rfl⟩
  have bW : Below w.heap.size w W := by rw [hW]; exact Bel.al (Below.refl _ _) _
  have r0 : GameAt W (w.heap.size) g ((.slice aa ms.length ac)) ((.slice ta g.tiers.length tc)) := by rw [hW]; exact Row.new _ _ _
  have sW : w.heap.size < W.heap.size := by rw [hW]; simp
  rw [← hW]
  clear hW
  go_wp2_with (first | (refine wpList_load_row rfl 25 _ rfl _ rfl _ _ _ _ r0 Try.underlying25 rfl (by kernel_rfl) ?_) | fail)
  refine (hc.out _ (hh.out.below bW)).mono ?_
  rintro e w1 ⟨rfl, hb1⟩
  have B1 := Bel.to bW hb1
  have r0 := r0.keep hb1
  have d3 := r0.main
  have d9 := r0.system
  clear hb1 bW hh hc
  go_upto_region 6 with (fail)
  clear q1 q2 q3 q4 q5 d9 d3
  go_wp2
  go_loopg [9, 10] (n + 1) (fun gh ov t wr => ∃ (k : Nat) (A : List Int) (ao : Option Addr) (m cap : Nat), gh = n + 1 - k ∧ k ≤ n + 1 ∧ ov = .slice ao m cap ∧ t = .int .i64 k ∧ Own I64 wr w1.heap.size 3 (.slice ao m cap) A ∧ Below w1.heap.size w1 wr ∧ Hid (A = spreadL g s d k))
  case atStart => exact ⟨0, [], none, 0, 0, rfl, Nat.zero_le _, rfl, rfl, Own.nil _ _ _, Below.refl _ _, rfl⟩
  case round =>
    obtain ⟨k, A, ao, m, cap, hg, hk, rfl, rfl, hown, hB, hA⟩ := hrel
    replace hg := hide hg
    have hAl : A.length = k := by rw [hA.out, spreadL_len]
    have d3 : wr.cell? ⟨w.heap.size, 3, none⟩ = some (.int .i64 g.main) := (r0.keep hB).main
    by_cases hkn : k ≤ n
    · have hkn2 := hide hkn
      have g1 : (k : Int) ≤ g.main := by rw [hn.out]; omega
      have g2 : ¬ g.main < (k : Int) := by omega
      have gd : decide ((k : Int) ≤ g.main) = true := decide_eq_true g1
      have uw2 : IntKind.i64.wrap (g.main - (k : Int)) = g.main - (k : Int) := IntWalk.i64_in _ (by omega)
      obtain ⟨x, hx⟩ : ∃ x : Int, x = ((spreadN g s d k : Nat) : Int) := ⟨_, rfl⟩
      have hmul : ((chooseI d (k : Int) : Nat) : Int) * ((chooseI (s - d) (g.main - (k : Int)) : Nat) : Int) = x := by rw [hx]; unfold spreadN; simp
      have hbd2 := hbd.out k
      have wx : IntKind.i64.wrap x = x := IntWalk.i64_in _ (by omega)
      have hnext : A ++ [x] = spreadL g s d (k + 1) := by rw [spreadL_succ, ← hA.out, hx]
      replace hnext := hide hnext
      replace hx := hide hx
      replace hAl := hide hAl
      clear hbd2
      go_upto_region 10 with (fail)
      refine wp_region_held_drew (S := fun X => Rng X [(w.heap.size, gameCells g (.slice aa ms.length ac) (.slice ta g.tiers.length tc))]) (by kernel_rfl) (Rng.drew ((Rng.cons r0 (Rng.nil _)).keep hB)) (fun hHeld => ?_)
      refine' wpAnyH_take (i := 0) (oi := _) (v := .slice ao m cap) rfl (by kernel_rfl) (by kernel_rfl) (by kernel_rfl) (fun _ _ _ h => h) (Or.inl ⟨by rfl, fun X _ => by go_simp⟩) hHeld ?_
      try simp only [Act.put, List.setIfInBounds_toArray, List.set_cons_zero, List.set_cons_succ]
      refine' wpAnyH_take (i := 1) (oi := _) (v := .int .i64 d) rfl (by kernel_rfl) (by kernel_rfl) (by kernel_rfl) (fun _ _ _ h => h) (Or.inl ⟨by rfl, fun X _ => by go_simp⟩) hHeld ?_
      try simp only [Act.put, List.setIfInBounds_toArray, List.set_cons_zero, List.set_cons_succ]
      refine' wpAnyH_take (i := 2) (oi := _) (v := .int .i64 (k : Int)) rfl (by kernel_rfl) (by kernel_rfl) (by kernel_rfl) (fun _ _ _ h => h) (Or.inl ⟨by rfl, fun X _ => by go_simp⟩) hHeld ?_
      try simp only [Act.put, List.setIfInBounds_toArray, List.set_cons_zero, List.set_cons_succ]
      refine' wpAnyH_take (i := 4) (oi := _) (v := .int .i64 s) rfl (by kernel_rfl) (by kernel_rfl) (by kernel_rfl) (fun _ _ _ h => h) (Or.inl ⟨by rfl, fun X _ => by go_simp⟩) hHeld ?_
      try simp only [Act.put, List.setIfInBounds_toArray, List.set_cons_zero, List.set_cons_succ]
      refine' wpAnyH_take (i := 5) (oi := _) (v := .int .i64 d) rfl (by kernel_rfl) (by kernel_rfl) (by kernel_rfl) (fun _ _ _ h => h) (Or.inl ⟨by rfl, fun X _ => by go_simp⟩) hHeld ?_
      try simp only [Act.put, List.setIfInBounds_toArray, List.set_cons_zero, List.set_cons_succ]
      refine' wpAnyH_take (i := 6) (oi := _) (v := .int .i64 (s - d)) rfl (by kernel_rfl) (by kernel_rfl) (by kernel_rfl) (fun _ _ _ h => h) (Or.inl ⟨by rfl, fun X _ => by go_simp⟩) hHeld ?_
      try simp only [Act.put, List.setIfInBounds_toArray, List.set_cons_zero, List.set_cons_succ]
      refine' wpAnyH_take (i := 7) (oi := _) (v := .pointer (some ⟨w.heap.size, 3, none⟩)) rfl (by kernel_rfl) (by kernel_rfl) (by kernel_rfl) (fun _ _ _ h => h) (Or.inl ⟨by rfl, fun X _ => by go_simp⟩) hHeld ?_
      try simp only [Act.put, List.setIfInBounds_toArray, List.set_cons_zero, List.set_cons_succ]
      refine' wpAnyH_take (i := 8) (oi := _) (v := .int .i64 g.main) rfl (by kernel_rfl) (by kernel_rfl) (by kernel_rfl) (fun _ _ _ h => h) (Or.inl ⟨by rfl, fun X hX => by have cX := Rng.cell0 hX 3 _ rfl; go_simp⟩) hHeld ?_
      try simp only [Act.put, List.setIfInBounds_toArray, List.set_cons_zero, List.set_cons_succ]
      refine' wpAnyH_take (i := 9) (oi := _) (v := .int .i64 (k : Int)) rfl (by kernel_rfl) (by kernel_rfl) (by kernel_rfl) (fun _ _ _ h => h) (Or.inl ⟨by rfl, fun X _ => by go_simp⟩) hHeld ?_
      try simp only [Act.put, List.setIfInBounds_toArray, List.set_cons_zero, List.set_cons_succ]
      refine' wpAnyH_take (i := 10) (oi := _) (v := .int .i64 (g.main - (k : Int))) rfl (by kernel_rfl) (by kernel_rfl) (by kernel_rfl) (fun _ _ _ h => h) (Or.inl ⟨by rfl, fun X _ => by go_simp⟩) hHeld ?_
      try simp only [Act.put, List.setIfInBounds_toArray, List.set_cons_zero, List.set_cons_succ]
      refine wpAnyH_ready (rs := [3]) (by kernel_rfl) (by simp) ?_
      refine AllReadyH.cons (o := _) rfl (fun K hK => ?_) AllReadyH.nil
      go_simp
      refine (choose15_any d (k : Int) _ u1 u2).mono ?_
      rintro e w3 ⟨rfl, hb3⟩
      have B3 := Bel.to (Bel.to hB (Below.drewSelf _)) hb3
      have hown := (show Own I64 wr.drew _ _ _ _ from hown).keep hb3
      go_wp2_with fail
      refine hK.out _ _ (hHeld.keep hb3) (fun hHeld => ?_)
      clear hK K
      try simp only [Act.put, List.setIfInBounds_toArray, List.set_cons_zero, List.set_cons_succ]
      refine wpAnyH_ready (rs := [11]) (by kernel_rfl) (by simp) ?_
      refine AllReadyH.cons (o := _) rfl (fun K hK => ?_) AllReadyH.nil
      go_simp
      refine (choose15_any (s - d) (g.main - (k : Int)) _ u3 u4).mono ?_
      rintro e w4 ⟨rfl, hb4⟩
      have B4 := Bel.to B3 hb4
      have hown := hown.keep hb4
      go_wp2_with fail
      refine hK.out _ _ (hHeld.keep hb4) (fun hHeld => ?_)
      clear hK K
      try simp only [Act.put, List.setIfInBounds_toArray, List.set_cons_zero, List.set_cons_succ]
      refine' wpAnyH_take (i := 12) (oi := _) (v := .int .i64 x) rfl (by kernel_rfl) (by kernel_rfl) (by kernel_rfl) (fun _ _ _ h => h) (Or.inl ⟨by rfl, fun X _ => by go_simp⟩) hHeld ?_
      try simp only [Act.put, List.setIfInBounds_toArray, List.set_cons_zero, List.set_cons_succ]
      refine wpAnyH_ready (rs := [13]) (by kernel_rfl) (by simp) ?_
      refine AllReadyH.cons (o := _) rfl (fun K hK => ?_) AllReadyH.nil
      go_simp
      obtain ⟨Y, hY⟩ : ∃ Y, Y = w4.alloc (.cells #[.int .i64 x] 3) := ⟨_, rfl⟩
      have bY : Below w4.heap.size w4 Y := by rw [hY]; exact Bel.al (Below.refl _ _) _
      have nY : Rd I64 Y (.slice (some ⟨w4.heap.size, 0, none⟩) 1 1) [x] := by rw [hY]; exact Rd.new [x] rfl rfl (Nat.le_refl _) (by decide) rfl
      rw [← hY]
      clear hY
      have hown := hown.keep bY
      have B5 := Bel.to B4 bY
      refine hK.out _ _ (hHeld.keep bY) (fun hHeld => ?_)
      clear hK K
      try simp only [Act.put, List.setIfInBounds_toArray, List.set_cons_zero, List.set_cons_succ]
      refine wpAnyH_ready (rs := [14]) (by kernel_rfl) (by simp) ?_
      refine AllReadyH.cons (o := _) rfl (fun K hK => ?_) AllReadyH.nil
      refine wp_append_rd _ _ 26 rfl (V := I64) (fun _ => rfl) w1.heap.size 3 (.int .i64 0) 8 Try.underlying26 infoInt rfl _ A rfl ?_ _ [x] rfl ?_ ?_ ?_ ?_ ?_
      case refine_1 => exact hown
      case refine_2 => exact nY
      case refine_3 => have := hAl.out; simp; omega
      case refine_4 => have := hAl.out; simp; omega
      case refine_5 => exact B5.size
      intro v6 w6 hown6 hg6
      have b6 : Below w1.heap.size w1 w6 := B5.grown hg6 B5.size (fun g hg => (hown.lt g hg).1)
      obtain ⟨a6, n6, k6, rfl⟩ := Rd.shape hown6.rd
      clear hg6 nY bY
      have hH6 : Rng w6 [(w.heap.size, gameCells g (.slice aa ms.length ac) (.slice ta g.tiers.length tc))] := (Rng.cons r0 (Rng.nil _)).keep b6
      refine hK.out _ _ hH6 (fun hHeld => ?_)
      clear hK K
      try simp only [Act.put, List.setIfInBounds_toArray, List.set_cons_zero, List.set_cons_succ]
      refine' wpAnyH_take (i := 15) (oi := _) (v := .slice a6 n6 k6) rfl (by kernel_rfl) (by kernel_rfl) (by kernel_rfl) (fun _ _ _ h => h) (Or.inl ⟨by rfl, fun X _ => by go_simp⟩) hHeld ?_
      try simp only [Act.put, List.setIfInBounds_toArray, List.set_cons_zero, List.set_cons_succ]
      refine wpAnyH_done (by kernel_rfl) ?_ _
      go_simp
      have hAT : A ++ [x] = spreadL g s d (k + 1) := hnext.out
      replace hAT := hide hAT
      go_wp2
      go_roundg (n + 1 - (k + 1))
      case measure => have := hg.out; have := hkn2.out; omega
      case rel => exact ⟨k + 1, A ++ [x], a6, n6, k6, rfl, by have := hkn2.out; omega, rfl, by go_num, hown6, b6, hAT⟩
    · have hkn2 : k = n + 1 := by omega
      have g1 : ¬ (k : Int) ≤ g.main := by rw [hn.out]; omega
      have gd : decide ((k : Int) ≤ g.main) = false := decide_eq_false g1
      have hrd := hown.rd
      rw [hA.out, hkn2] at hrd
      replace hkn2 := hide hkn2
      replace hAl := hide hAl
      go_wp2
      go_ret2
      exact ⟨_, rfl, hrd, Bel.to B1 hB⟩

theorem spread15_any (g : GameD) (av tv : Value) (ms : List AddonM) (s d : Int) (w : World) (h : GameR w av tv ms g) :
    Calls Try.prog 13 #[gameVal g av tv, .int .i64 s, .int .i64 d] w (ListC (if spreadE g s d = 0 then spreadL g s d (g.main.toNat + 1) else []) (spreadE g s d) w) := by
  by_cases he : spreadE g s d = 0
  · rw [if_pos he, he]; exact spread15_ok g av tv ms s d w h he
  · rw [if_neg he]; exact spread15_bad g av tv ms s d w h he

theorem rspread15_any (g : GameD) (av tv : Value) (ms : List AddonM) (s d : Int) (w : World) (h : GameR w av tv ms g) :
    Calls Try.prog 14 #[gameVal g av tv, .int .i64 s, .int .i64 d] w (ListC (if spreadE g s d = 0 then spreadL g s d (g.main.toNat + 1) else []) (spreadE g s d) w) := by
  by_cases he : spreadE g s d = 0
  · rw [if_pos he, he]; exact rspread15_ok g av tv ms s d w h he
  · rw [if_neg he]; exact rspread15_bad g av tv ms s d w h he
end Go.Proofs.Ytlppomkpmnpmcaa
end

section
/- lotterylaw15.plain: the game of the examples. No condition. -/
open Go.RowKit
set_option linter.unusedVariables false
set_option linter.unusedSimpArgs false
namespace Go.Proofs.Ytlppomkpmnpmcaa

def plainG : GameD := ⟨⟨#[97]⟩, 1, 1, 2, 4, 0, 0, 0, 1, 4, 1, 0, 0, 0, 1, 0, 0, 1, 0, 0, [], [⟨2, 0, 0, 0, 1, 0⟩]⟩

set_option maxRecDepth 100000 in
theorem plain15_any (w : World) : Calls Try.prog 16 #[] w (GameB plainG w) := by
  go_enter Try.func16, Try.ntmps16
  go_upto_region 1 with (fail)
  obtain ⟨W, hW⟩ : ∃ W, W = (w.alloc (Obj.cells #[.string ⟨#[]⟩, .int .i64 0, .int .i64 0, .int .i64 0, .int .i64 0, .int .i64 0, .int .i64 0, .int .i64 0, .int .i64 0, .int .i64 0, .int .i64 0, .int .i64 0, .int .i64 0, .int .i64 0, .int .i64 0, .int .i64 0, .int .i64 0, .int .i64 0, .int .i64 0, .int .i64 0, .slice none 0 0, .slice none 0 0] 25)) := ⟨_, rfl⟩
  have bW : Below w.heap.size w W := by rw [hW]; exact Bel.al (Below.refl _ _) _
  have r0 : Row W ((w.heap.size)) 25 [.string ⟨#[]⟩, .int .i64 0, .int .i64 0, .int .i64 0, .int .i64 0, .int .i64 0, .int .i64 0, .int .i64 0, .int .i64 0, .int .i64 0, .int .i64 0, .int .i64 0, .int .i64 0, .int .i64 0, .int .i64 0, .int .i64 0, .int .i64 0, .int .i64 0, .int .i64 0, .int .i64 0, .slice none 0 0, .slice none 0 0] := by rw [hW]; exact Row.new _ _ _
  have sW : w.heap.size < W.heap.size := by rw [hW]; simp
  rw [← hW]
  clear hW
  go_wp2_with (first | (with_reducible refine wpList_store_whole rfl 25 _ _ rfl w.heap.size _ rfl rfl 25 _ (Row.alloc r0 _) ?_ ?_ ?_ ?_) | fail)
  case refine_1 => kernel_rfl
  case refine_2 => rfl
  case refine_3 => simp [Value.oneCell']
  intro W2 hrow hgr
  have hw : Below w.heap.size w W2 := Below.grown (Bel.al bW _) hgr (by simp; omega) (fun k hk => by injection hk with hk; omega)
  have htier : Row W2 W.heap.size 62 (tierCells ⟨2, 0, 0, 0, 1, 0⟩) := Row.grown (Row.new W 62 (tierCells ⟨2, 0, 0, 0, 1, 0⟩)) hgr (by intro e; injection e with e; omega)
  have hG : GameR W2 (.slice none 0 0) (.slice (some ⟨W.heap.size, 0, none⟩) 1 1) [] plainG := GameR.oneTier htier rfl rfl
  go_wp2
  exact bodyPost_ret (v := gameVal plainG (.slice none 0 0) (.slice (some ⟨W.heap.size, 0, none⟩) 1 1)) (results_cell_row rfl _ _ w.heap.size 25 _ (0, 0) _ rfl hrow Try.underlying25 rfl (by kernel_rfl)) rfl ⟨_, _, _, rfl, hG, hw⟩

theorem plain_spreadE : spreadE plainG 3 2 = 0 := by decide
theorem plain_spreadL : spreadL plainG 3 2 3 = [0, 2, 1] := by
  simp [spreadL, spreadN, chooseI, choose_fast, chooseF, plainG, List.range_succ]

/-- The ways add up. -/
theorem spread_sum {g : GameD} {s d : Int} (h : spreadE g s d = 0) : ∃ D M K : Nat, s = ((D + M : Nat) : Int) ∧ g.main = (K : Int) ∧ K ≤ 10 ∧ D + M ≤ 14 ∧ (∀ t, t ≤ K → spreadN g s d t = choose D t * cc M K t) ∧ sumV D M K (K + 1) = choose (D + M) K := by
  obtain ⟨-, a1, a2, a3, a4, a5, a6, a7, a8⟩ := spreadE_ok h
  obtain ⟨D, rfl⟩ := Int.eq_ofNat_of_zero_le a3
  obtain ⟨M, hM⟩ : ∃ M : Nat, s - D = M := ⟨(s - D).toNat, by omega⟩
  obtain ⟨K, hK⟩ : ∃ K : Nat, g.main = K := ⟨g.main.toNat, by omega⟩
  refine ⟨D, M, K, by omega, hK, by omega, by omega, fun t ht => ?_, ?_⟩
  · unfold spreadN cc
    rw [if_pos ht, chooseI_nat D t _ _ rfl rfl, chooseI_nat M (K - t) _ _ hM (by omega)]
  · have hv := vand D M K
    have hKD : D ≤ K := by omega
    rw [← hv]
    obtain ⟨j, rfl⟩ : ∃ j, K = D + j := ⟨K - D, by omega⟩
    have key : ∀ i, sumV D M (D + j) (D + i + 1) = sumV D M (D + j) (D + 1) := by
      intro i
      induction i with
      | zero => rfl
      | succ i ih =>
        rw [show D + (i + 1) + 1 = (D + i + 1) + 1 by omega, sumV_succ, ih, choose_gt (by omega), Nat.zero_mul, Nat.add_zero]
    exact key j
end Go.Proofs.Ytlppomkpmnpmcaa
end

section
/- The walk of the statement SystemSpreads: it returns true, whatever the game and the numbers. -/
open Go.RowKit
set_option linter.unusedVariables false
set_option linter.unusedSimpArgs false
namespace Go.Proofs.Ytlppomkpmnpmcaa

theorem sameInts15_self (va vb : Value) (l : List Int) (w : World) (ha : Rd I64 w va l) (hb : Rd I64 w vb l) : Calls Try.prog 15 #[va, vb] w (BoolB true w) := by
  have := sameInts15 va vb l l w ha hb
  rwa [show decide (l = l) = true by simp] at this
set_option maxHeartbeats 4000000 in
set_option maxRecDepth 100000 in
theorem spreads15_bad (g : GameD) (av tv : Value) (ms : List AddonM) (s d : Int) (w : World) (h : GameR w av tv ms g) (he : spreadE g s d ≠ 0) :
    Calls Try.prog 3 #[gameVal g av tv, .int .i64 s, .int .i64 d] w (BoolB true w) := by
  have cA := hide (fun X (hX : GameR X av tv ms g) => spread15_any g av tv ms s d X hX)
  have cB := hide (fun X (hX : GameR X av tv ms g) => rspread15_any g av tv ms s d X hX)
  have hh := hide h
  obtain ⟨aa, ac, rfl, hal, ham⟩ := h.1.1.shape
  obtain ⟨ta, tc, rfl, htl, htm⟩ := h.2.2.shape
  clear h
  rw [if_neg he] at cA cB
  obtain ⟨c, hcc⟩ : ∃ c, c = spreadE g s d := ⟨_, rfl⟩
  obtain ⟨L, hL⟩ : ∃ L : List Int, L = [] := ⟨_, rfl⟩
  rw [← hcc, ← hL] at cA cB
  rw [← hcc] at he
  clear hcc
  have hcb : (c != 0) = true := by simpa using he
  replace he := hide he
  have hL0 : L.length = 0 := by rw [hL]; rfl
  clear hL
  unfold gameVal
  go_enter Try.func3, Try.ntmps3
  go_upto_region 1 with (fail)
  obtain ⟨W, hW⟩ : ∃ W, W = (w.alloc (Obj.cells #[.string g.name, .int .i64 g.kind, .int .i64 g.price, .int .i64 g.main, .int .i64 g.of, .int .i64 g.bonus, .int .i64 g.bonusOf, .int .i64 g.extra, .int .i64 g.draws, .int .i64 g.system, .int .i64 g.days, .int .i64 g.at_, .int .i64 g.close, .int .i64 g.cancel, .int .i64 g.expiry, .int .i64 g.pool, .int .i64 g.reserve, .int .i64 g.round, .int .i64 g.cap, .int .i64 g.rolls, (.slice aa ms.length ac), (.slice ta g.tiers.length tc)] 25)) := ⟨_, rfl⟩
  have bW : Below w.heap.size w W := by rw [hW]; exact Bel.al (Below.refl _ _) _
  have r0 : GameAt W (w.heap.size) g ((.slice aa ms.length ac)) ((.slice ta g.tiers.length tc)) := by rw [hW]; exact Row.new _ _ _
  have sW : w.heap.size < W.heap.size := by rw [hW]; simp
  rw [← hW]
  clear hW
  go_wp2_with (first | (refine wpList_load_row rfl 25 _ rfl _ rfl _ _ _ _ r0 Try.underlying25 rfl (by kernel_rfl) ?_) | fail)
  refine (cA.out _ (hh.out.below bW)).mono ?_
  rintro e w1 ⟨u, rfl, hu, hb1⟩
  obtain ⟨u1, u2, u3, rfl⟩ := Rd.shape hu
  have hu0 : u2 = 0 := by rw [Rd.len_eq hu]; exact hL0
  subst hu0
  have B1 := Bel.to bW hb1
  have r0 := r0.keep hb1
  clear hb1 bW
  go_wp2_with (first | (refine wpList_load_row rfl 25 _ rfl _ rfl _ _ _ _ r0 Try.underlying25 rfl (by kernel_rfl) ?_) | fail)
  refine (cB.out _ (hh.out.below B1)).mono ?_
  rintro e w2 ⟨v, rfl, hv, hb2⟩
  obtain ⟨v1, v2, v3, rfl⟩ := Rd.shape hv
  have B2 := Bel.to B1 hb2
  have r0 := r0.keep hb2
  have hu := hu.below hb2
  clear hb2 B1
  have cS := hide (sameInts15_self _ _ L w2 hu hv)
  have z1 : (c != c) = false := by simp
  go_wp2_with fail
  refine cS.out.mono ?_
  rintro e w3 ⟨rfl, hb3⟩
  have B3 := Bel.to B2 hb3
  have r0 := r0.keep hb3
  have hu := hu.below hb3
  clear hb3 B2 cS hv
  replace hL0 := hide hL0
  have B4 := B3
  go_wp2
  go_loopg [11, 12] 0 (fun gh x t wr => gh = 0 ∧ x = .int .i64 0 ∧ t = .int .i64 0 ∧ wr = w3)
  case atStart => exact ⟨rfl, rfl, rfl, rfl⟩
  case round =>
    obtain ⟨hg, rfl, rfl, rfl⟩ := hrel
    replace hg := hide hg
    go_wp2_with fail
    refine (plain15_any _).mono ?_
    rintro e w5 ⟨av2, tv2, ms2, rfl, g2, hb5⟩
    have B5 := Bel.to B4 hb5
    have r0 := r0.keep hb5
    have cP := hide (spread15_any plainG av2 tv2 ms2 3 2 _ g2)
    rw [plain_spreadE, if_pos rfl, show plainG.main.toNat + 1 = 3 from rfl, plain_spreadL] at cP
    clear hb5 g2
    go_wp2_with fail
    refine cP.out.mono ?_
    rintro e w6 ⟨c, rfl, hcr, hb6⟩
    obtain ⟨c1, c2, c3, rfl⟩ := Rd.shape hcr
    have B6 := Bel.to B5 hb6
    have d3 := (r0.keep hb6).main
    clear hb6 cP r0
    obtain ⟨Y, hY⟩ : ∃ Y, Y = w6.alloc (.cells #[.int .i64 0, .int .i64 2, .int .i64 1] 3) := ⟨_, rfl⟩
    have bY : Below w6.heap.size w6 Y := by rw [hY]; exact Bel.al (Below.refl _ _) _
    have nY : Rd I64 Y (.slice (some ⟨w6.heap.size, 0, none⟩) 3 3) [0, 2, 1] := by rw [hY]; exact Rd.new [0, 2, 1] rfl rfl (Nat.le_refl _) (by decide) rfl
    have cS := hide (sameInts15_self _ _ [0, 2, 1] Y (hcr.below bY) nY)
    go_wp2_with fail
    rw [← hY]
    refine cS.out.mono ?_
    rintro e w8 ⟨rfl, hb8⟩
    go_wp2
    go_ret
    exact ⟨rfl, Bel.to (Bel.to B6 bY) hb8⟩

set_option maxHeartbeats 4000000 in
set_option maxRecDepth 100000 in
theorem spreads15_ok (g : GameD) (av tv : Value) (ms : List AddonM) (s d : Int) (w : World) (h : GameR w av tv ms g) (he : spreadE g s d = 0) :
    Calls Try.prog 3 #[gameVal g av tv, .int .i64 s, .int .i64 d] w (BoolB true w) := by
  obtain ⟨D, M, K, hs, hm, hK10, hDM, hterm, hsum⟩ := spread_sum he
  have hs14 := hide (spreadE_ok he)
  have cA := hide (fun X (hX : GameR X av tv ms g) => spread15_any g av tv ms s d X hX)
  have cB := hide (fun X (hX : GameR X av tv ms g) => rspread15_any g av tv ms s d X hX)
  have hh := hide h
  obtain ⟨aa, ac, rfl, hal, ham⟩ := h.1.1.shape
  obtain ⟨ta, tc, rfl, htl, htm⟩ := h.2.2.shape
  clear h
  rw [if_pos he, he] at cA cB
  obtain ⟨c, hcc⟩ : ∃ c : Int, c = 0 := ⟨_, rfl⟩
  rw [← hcc] at cA cB
  have hcb : (c != 0) = false := by rw [hcc]; rfl
  have hcb2 : (c == 0) = true := by rw [hcc]; rfl
  clear hcc
  obtain ⟨L, hL⟩ : ∃ L, L = spreadL g s d (g.main.toNat + 1) := ⟨_, rfl⟩
  rw [← hL] at cA cB
  have hLl : L.length = K + 1 := by rw [hL, spreadL_len, hm]; rfl
  have hLg : ∀ t (ht : t < L.length), t ≤ K → L[t] = ((choose D t * cc M K t : Nat) : Int) := by
    intro t ht htK
    have : L[t]? = some ((spreadN g s d t : Nat) : Int) := by
      rw [hL]
      unfold spreadL
      rw [List.getElem?_map, List.getElem?_range (by omega)]; rfl
    rw [List.getElem?_eq_getElem ht] at this
    injection this with this
    rw [this, hterm t htK]
  have cC := hide (fun X => choose15_any s g.main X (by have := hs14.out; omega) (by have := hs14.out; omega))
  rw [hs, hm, chooseI_nat (D + M) K _ _ rfl rfl, ← hsum] at cC
  have hsb : ∀ k, k ≤ K + 1 → sumV D M K k ≤ 3432 := by
    intro k hk
    refine Nat.le_trans (sumV_mono D M K hk) ?_
    rw [hsum]
    exact choose_small hDM
  replace hs := hide hs
  replace hm := hide hm
  replace hLl := hide hLl
  replace hLg := hide hLg
  replace hsb := hide hsb
  clear hL he hterm hsum
  unfold gameVal
  go_enter Try.func3, Try.ntmps3
  go_upto_region 1 with (fail)
  obtain ⟨W, hW⟩ : ∃ W, W = (w.alloc (Obj.cells #[.string g.name, .int .i64 g.kind, .int .i64 g.price, .int .i64 g.main, .int .i64 g.of, .int .i64 g.bonus, .int .i64 g.bonusOf, .int .i64 g.extra, .int .i64 g.draws, .int .i64 g.system, .int .i64 g.days, .int .i64 g.at_, .int .i64 g.close, .int .i64 g.cancel, .int .i64 g.expiry, .int .i64 g.pool, .int .i64 g.reserve, .int .i64 g.round, .int .i64 g.cap, .int .i64 g.rolls, (.slice aa ms.length ac), (.slice ta g.tiers.length tc)] 25)) := ⟨_, rfl⟩
  have bW : Below w.heap.size w W := by rw [hW]; exact Bel.al (Below.refl _ _) _
  have r0 : GameAt W (w.heap.size) g ((.slice aa ms.length ac)) ((.slice ta g.tiers.length tc)) := by rw [hW]; exact Row.new _ _ _
  have sW : w.heap.size < W.heap.size := by rw [hW]; simp
  rw [← hW]
  clear hW
  go_wp2_with (first | (refine wpList_load_row rfl 25 _ rfl _ rfl _ _ _ _ r0 Try.underlying25 rfl (by kernel_rfl) ?_) | fail)
  refine (cA.out _ (hh.out.below bW)).mono ?_
  rintro e w1 ⟨u, rfl, hu, hb1⟩
  obtain ⟨u1, u2, u3, rfl⟩ := Rd.shape hu
  have hu0 : u2 = K + 1 := by rw [Rd.len_eq hu]; exact hLl.out
  subst hu0
  have B1 := Bel.to bW hb1
  have r0 := r0.keep hb1
  clear hb1 bW
  go_wp2_with (first | (refine wpList_load_row rfl 25 _ rfl _ rfl _ _ _ _ r0 Try.underlying25 rfl (by kernel_rfl) ?_) | fail)
  refine (cB.out _ (hh.out.below B1)).mono ?_
  rintro e w2 ⟨v, rfl, hv, hb2⟩
  obtain ⟨v1, v2, v3, rfl⟩ := Rd.shape hv
  have B2 := Bel.to B1 hb2
  have r0 := r0.keep hb2
  have hu := hu.below hb2
  clear hb2 B1
  have cS := hide (sameInts15_self _ _ L w2 hu hv)
  have z1 : (c != c) = false := by simp
  go_wp2_with fail
  refine cS.out.mono ?_
  rintro e w3 ⟨rfl, hb3⟩
  have B3 := Bel.to B2 hb3
  have r0 := r0.keep hb3
  have hu := hu.below hb3
  clear hb3 B2 cS hv
  go_wp2
  go_loopg [11, 12] (K + 1) (fun gh x t wr => ∃ k : Nat, gh = K + 1 - k ∧ k ≤ K + 1 ∧ x = .int .i64 ((sumV D M K k : Nat) : Int) ∧ t = .int .i64 k ∧ wr = w3)
  case atStart => exact ⟨0, rfl, Nat.zero_le _, rfl, rfl, rfl⟩
  case round =>
    obtain ⟨k, hg, hk, rfl, rfl, rfl⟩ := hrel
    replace hg := hide hg
    by_cases hkn : k < K + 1
    · have hkn2 := hide hkn
      obtain ⟨b, off, rfl, hbb, hcell⟩ := Rd.at_ hu (k := k) (by rw [hLl.out]; exact hkn)
      obtain ⟨x, hx⟩ : ∃ x : Nat, x = choose D k * cc M K k := ⟨_, rfl⟩
      have c1 : wr.cell? ⟨b, off + k, none⟩ = some (.int .i64 (x : Int)) := by have := hcell k (by rw [hLl.out]; exact hkn); rw [this, hLg.out k (by rw [hLl.out]; exact hkn) (by omega), hx]
      have hb1 := hsb.out (k + 1) (by omega)
      have hnext : sumV D M K (k + 1) = sumV D M K k + x := by rw [sumV_succ, hx]
      rw [hnext] at hb1
      obtain ⟨q, hq⟩ : ∃ q, q = sumV D M K k := ⟨_, rfl⟩
      rw [← hq] at hb1 hnext ⊢
      have j1 : (0 : Int) ≤ (k : Int) := by omega
      have j2 : (k : Int) < (K : Int) + 1 := by omega
      have j3 : (q : Int) + (x : Int) ≤ 3432 := by omega
      have hq2 : (q : Int) + (x : Int) = ((q + x : Nat) : Int) := by omega
      replace hq2 := hide hq2
      replace hnext := hide hnext
      replace hq := hide hq
      replace hx := hide hx
      clear hcell
      go_wp2
      go_roundg (K + 1 - (k + 1))
      case measure => have := hg.out; have := hkn2.out; omega
      case rel => exact ⟨k + 1, rfl, by have := hkn2.out; omega, by rw [hq2.out, hnext.out], by go_num, rfl⟩
    · have hkn2 : k = K + 1 := by omega
      have j2 : ¬ (k : Int) < (K : Int) + 1 := by omega
      subst hkn2
      obtain ⟨q, hq⟩ : ∃ q, q = sumV D M K (K + 1) := ⟨_, rfl⟩
      rw [← hq] at cC ⊢
      clear hq
      have B4 := B3
      go_wp2_with fail
      refine (plain15_any _).mono ?_
      rintro e w5 ⟨av2, tv2, ms2, rfl, g2, hb5⟩
      have B5 := Bel.to B4 hb5
      have r0 := r0.keep hb5
      have cP := hide (spread15_any plainG av2 tv2 ms2 3 2 _ g2)
      rw [plain_spreadE, if_pos rfl, show plainG.main.toNat + 1 = 3 from rfl, plain_spreadL] at cP
      clear hb5 g2
      go_wp2_with fail
      refine cP.out.mono ?_
      rintro e w6 ⟨c, rfl, hcr, hb6⟩
      obtain ⟨c1, c2, c3, rfl⟩ := Rd.shape hcr
      have B6 := Bel.to B5 hb6
      have d3 := (r0.keep hb6).main
      clear hb6 cP r0
      go_wp2_with fail
      have hs2 := hs.out
      rw [hm.out] 
      rw [hs2]
      refine (cC.out _).mono ?_
      rintro e w7 ⟨rfl, hb7⟩
      have B7 := Bel.to B6 hb7
      have hcr := hcr.below hb7
      have z3 : ((q : Int) == (q : Int)) = true := by simp
      obtain ⟨Y, hY⟩ : ∃ Y, Y = w7.alloc (.cells #[.int .i64 0, .int .i64 2, .int .i64 1] 3) := ⟨_, rfl⟩
      have bY : Below w7.heap.size w7 Y := by rw [hY]; exact Bel.al (Below.refl _ _) _
      have nY : Rd I64 Y (.slice (some ⟨w7.heap.size, 0, none⟩) 3 3) [0, 2, 1] := by rw [hY]; exact Rd.new [0, 2, 1] rfl rfl (Nat.le_refl _) (by decide) rfl
      have cS := hide (sameInts15_self _ _ [0, 2, 1] Y (hcr.below bY) nY)
      go_wp2_with fail
      rw [← hY]
      refine cS.out.mono ?_
      rintro e w8 ⟨rfl, hb8⟩
      go_wp2
      go_ret
      exact ⟨rfl, Bel.to (Bel.to B7 bY) hb8⟩

theorem spreads15_any (g : GameD) (av tv : Value) (ms : List AddonM) (s d : Int) (w : World) (h : GameR w av tv ms g) :
    Calls Try.prog 3 #[gameVal g av tv, .int .i64 s, .int .i64 d] w (BoolB true w) := by
  by_cases he : spreadE g s d = 0
  · exact spreads15_ok g av tv ms s d w h he
  · exact spreads15_bad g av tv ms s d w h he
end Go.Proofs.Ytlppomkpmnpmcaa
end

section
/- SystemSpreads: for every input the Go function lotterylaw15.SystemSpreads returns true, and each argument reads afterwards as before. Conditions: none. -/
namespace Go.Proofs.Ytlppomkpmnpmcaa.systemSpreads
open Go.ChangeShapes Go.WideShapes Go.ChangeAt Go.RowKit
set_option linter.unusedVariables false

theorem own : ownKnob Try.prog.godebug = none := by kernel_rfl
theorem laidOut : laidOutB Try.prog = true := by kernel_rfl

set_option maxRecDepth 100000 in
theorem lifted (os : Os) (started : os.Started) (H : Type) (enc : TypeId × Value → H) :
    ReturnsInHanded {} Try.checked os 3 .any (Rows.systemSpreadsSpec.pre6 enc Try.prog Try.f3 Rows.systemSpreadsRow.domain false) (Rows.systemSpreadsSpec.post enc Try.prog Try.f3 false true false false) := by
  refine returnsInHanded_of_change (C := Try.checked) own started (by kernel_rfl) Try.func3
    (ChangeSpec.witness6 (enc := enc) (C := Try.checked) false ⟨#[], #[.agg #[.string ⟨#[]⟩, .int .i64 0, .int .i64 0, .int .i64 0, .int .i64 0, .int .i64 0, .int .i64 0, .int .i64 0, .int .i64 0, .int .i64 0, .int .i64 0, .int .i64 0, .int .i64 0, .int .i64 0, .int .i64 0, .int .i64 0, .int .i64 0, .int .i64 0, .int .i64 0, .int .i64 0, .slice none 0 0, .slice none 0 0], .int .i64 0, .int .i64 0], []⟩ 8 (by kernel_rfl) (by kernel_rfl) (by kernel_rfl) (by kernel_rfl)) ?_
  intro W base args ds gs before hval0 hW hcnd _
  have hval : ∀ (j : Nat) t v, Try.f3.params[j]? = some t → args[j]? = some v → Value.okWide Try.prog W .any base t v := hval0
  have hW' := hW
  obtain ⟨p, q, hA0, hV, rfl, hfz, hnd⟩ := hW
  have hA : DataW.TrodAll enc Try.prog W 0 (fun _ => true) true Try.f3.params.toList args.toList ds p := hA0
  rw [Try.params3] at hA hval
  obtain ⟨v0, vs0, d0, ds0, p0, q0, hargs, rfl, rfl, h0, r0⟩ := trodAll_cons hA
  obtain ⟨v1, vs1, d1, ds1, p1, q1, rfl, rfl, rfl, h1, r1⟩ := trodAll_cons r0
  obtain ⟨v2, vs2, d2, ds2, p2, q2, rfl, rfl, rfl, h2, r2⟩ := trodAll_cons r1
  obtain ⟨rfl, rfl, rfl⟩ := trodAll_nil r2
  obtain rfl : args = #[v0, v1, v2] := by cases args; simp_all
  obtain ⟨rfl, rfl⟩ := trodVars_none hV
  obtain ⟨cs0, rfl, hsz0⟩ := okWide_struct Try.underlying25 (hval 0 25 v0 rfl rfl)
  have k0 := h0
  have lt0 : ∀ x ∈ p0, x.block < W.heap.size := by obtain ⟨m, hm⟩ := k0; exact DataW.trod_lt m _ _ _ hm
  obtain ⟨g0, av0, tv0, ms0, eg0, rg0⟩ := game_trod h0
  rw [eg0] at k0 hW' ⊢
  obtain ⟨a1, rfl, rfl, rfl, w1⟩ := open_int Try.underlying3 (hval 1 3 v1 rfl rfl) h1
  have b1 := bounds_i64 w1
  obtain ⟨a2, rfl, rfl, rfl, w2⟩ := open_int Try.underlying3 (hval 2 3 v2 rfl rfl) h2
  have b2 := bounds_i64 w2
  clear hA0 hval0
  refine (spreads15_any g0 av0 tv0 ms0 a1 a2 W rg0).mono fun e W' ⟨he, bel⟩ => ?_
  subst he
  exact ⟨_, rfl, _, _, _, [], _, [], hW', trodAll_mk1 (shut_bool Try.underlying4 _), (trodAll_cons_mk (Below.trod laidOut (by kernel_rfl) (of_decide_eq_true (by kernel_rfl)) k0 bel lt0) (trodAll_cons_mk (shut_int Try.underlying3 w1) (trodAll_cons_mk (shut_int Try.underlying3 w2) trodAll_mk0))), rfl, bel.frame _, fun h => by cases h⟩

theorem over : Rows.systemSpreadsRow.holds Try.pinned (OpenSpec.ofChange Rows.systemSpreadsSpec) :=
  OpenClaim.holds_of_wide 3 Try.f3 rfl rfl rfl rfl rfl rfl rfl ⟨rfl, rfl, rfl, rfl, rfl⟩ rfl rfl rfl rfl rfl (by kernel_rfl) Try.func3 (by kernel_rfl)
    (of_decide_eq_true (by kernel_rfl)) (by unfold Func.isWrapper; first | (rw [if_pos (by decide +kernel)]; kernel_rfl) | (rw [if_neg (by decide +kernel)]; exact ⟨rfl, rfl⟩))
    (fun os started H enc _ => lifted os started H enc)

theorem proved : Rows.SystemSpreadsSaid := over
#print axioms proved
end Go.Proofs.Ytlppomkpmnpmcaa.systemSpreads
end

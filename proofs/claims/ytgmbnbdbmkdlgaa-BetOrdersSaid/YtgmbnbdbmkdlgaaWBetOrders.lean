/- BetOrders: for every input the Go function lotterylaw16.BetOrders returns true, and each argument reads afterwards as before. Conditions: none. -/
import Derived.Test.YtgmbnbdbmkdlgaaRows
import Derived.WalkKit
import Derived.ProofKit
import Derived.OpenShut
import Derived.ChangeOld
import Derived.Below
import Derived.Test.YtgmbnbdbmkdlgaaGBetA
import Derived.Test.YtgmbnbdbmkdlgaaGCore
import Derived.Test.YtgmbnbdbmkdlgaaGBetB
import Derived.Test.YtgmbnbdbmkdlgaaGTrod
import Derived.Test.YtgmbnbdbmkdlgaaGTrodB

section
/- lotterylaw16.backwards, and what the order of the numbers does to a bet: nothing. Condition: at most 1000 numbers. -/
open Go.RowKit
set_option linter.unusedVariables false
set_option linter.unusedSimpArgs false
namespace Go.Proofs.Ytgmbnbdbmkdlgaa

/-- The opposite order. -/
def revL (l : LineD) : LineD := (l.1.reverse, l.2.reverse)
def revB (B : BetD) : BetD := ⟨B.lines.map revL, B.sys, B.draws, B.addons⟩

theorem sysE_perm {g : GameD} {a b c d : List Int} (h1 : a.Perm c) (h2 : b.Perm d) : sysE g a b = sysE g c d := by
  unfold sysE
  rw [h1.length_eq, h2.length_eq, allB_perm h1, allB_perm h2, dupB_perm h1, dupB_perm h2]
theorem size_rev (g : GameD) (sys : Bool) (l : LineD) : sizeB g sys (revL l) = sizeB g sys l := by
  have p1 := List.reverse_perm l.1
  have p2 := List.reverse_perm l.2
  cases sys with
  | false =>
    show (1, lineE g l.1.reverse l.2.reverse) = (1, lineE g l.1 l.2)
    rw [lineE_perm p1 p2]
  | true =>
    show sysP g l.1.reverse l.2.reverse = sysP g l.1 l.2
    unfold sysP
    rw [sysE_perm p1 p2, p1.length_eq]
theorem form_rev {g : GameD} (hk : g.kind = 1) (l : LineD) : formG g (revL l) = formG g l := by
  unfold formG
  rw [if_neg (by omega), if_neg (by omega)]
  show (sortI l.1.reverse, sortI l.2.reverse) = _
  rw [sortI_congr (List.reverse_perm l.1), sortI_congr (List.reverse_perm l.2)]
theorem lineB_rev {g : GameD} (hk : g.kind = 1) (sys : Bool) (l : LineD) : lineB g sys (revL l) = lineB g sys l := by
  cases sys with
  | false => show [formG g (revL l)] = [formG g l]; rw [form_rev hk]
  | true =>
    show expL (sortI l.1.reverse) (sortI l.2.reverse) _ = expL (sortI l.1) (sortI l.2) _
    rw [sortI_congr (List.reverse_perm l.1), sortI_congr (List.reverse_perm l.2)]
theorem scan_rev {g : GameD} (hk : g.kind = 1) (sys : Bool) (ls E : List LineD) (t : Int) : scanB g sys (ls.map revL) E t = scanB g sys ls E t := by
  induction ls generalizing E t with
  | nil => rfl
  | cons l r ih => rw [List.map_cons, scanB, scanB, size_rev, form_rev hk, ih]
theorem lines_rev {g : GameD} (hk : g.kind = 1) (B : BetD) : linesB g (revB B) = linesB g B := by
  show (B.lines.map revL).flatMap (lineB g B.sys) = B.lines.flatMap (lineB g B.sys)
  induction B.lines with
  | nil => rfl
  | cons l r ih => rw [List.map_cons, List.flatMap_cons, List.flatMap_cons, ih, lineB_rev hk]
theorem betP_rev {g : GameD} (hk : g.kind = 1) (B : BetD) : betP g (revB B) = betP g B := by
  unfold betP
  have h1 : (revB B).lines.length = B.lines.length := by show (B.lines.map revL).length = _; rw [List.length_map]
  have h2 : scanB g (revB B).sys (revB B).lines [] 0 = scanB g B.sys B.lines [] 0 := scan_rev hk B.sys B.lines [] 0
  rw [h1, h2]
  rfl
theorem linesP_rev {g : GameD} (hk : g.kind = 1) (B : BetD) : linesP16 g (revB B) = linesP16 g B := by
  unfold linesP16; rw [betP_rev hk, lines_rev hk]
theorem priceP_rev {g : GameD} (hk : g.kind = 1) (B : BetD) : priceP g (revB B) = priceP g B := by
  unfold priceP stakeP; rw [betP_rev hk]; rfl

set_option maxHeartbeats 2000000 in
set_option maxRecDepth 100000 in
theorem back16_any (v : Value) (l : List Int) (w : World) (h : Rd I64 w v l) (hl : l.length ≤ 1000) :
    Calls Try.prog 28 #[v] w (ListF l.reverse w) := by
  have hh := hide h
  obtain ⟨ao, cap, rfl, hle, hmax, hrd⟩ := Rd.form h
  have hmax2 : cap ≤ 9223372036854775807 := by unfold maxLen at hmax; omega
  obtain ⟨n, hn⟩ : ∃ n, n = l.length := ⟨_, rfl⟩
  have hns := hide hn.symm
  rw [← hn] at hl hle hh ⊢
  clear h hrd hn
  have hown0 : Own I64 w w.heap.size 3 (.slice none 0 0) [] := Own.nil _ _ _
  go_enter Try.func28, Try.ntmps28
  go_wp2
  go_loopg [3, 4] n (fun gh vv t wr => ∃ (k : Nat) (A : List Int) (a1 : Option Addr) (c1 : Nat), gh = k ∧ k ≤ n ∧ t = .int .i64 ((k : Int) - 1) ∧ vv = .slice a1 A.length c1 ∧ A.length ≤ 1000 ∧ Hid (A = (l.drop k).reverse) ∧ Own I64 wr w.heap.size 3 (.slice a1 A.length c1) A ∧ Below w.heap.size w wr)
  case atStart => exact ⟨n, [], none, 0, rfl, Nat.le_refl _, by go_num, rfl, by simp, by show _ = _; rw [← hns.out, List.drop_length]; rfl, hown0, Below.refl _ _⟩
  case round =>
    clear hown0
    obtain ⟨k, A, a1, c1, hgh, hk, rfl, rfl, hA1, hA, hown, hB⟩ := hrel
    replace hgh := hide hgh
    by_cases h0 : k = 0
    · subst h0
      have hrd := hown.rd
      have hfr := hide hown.fr
      have hA2 := hA.out
      rw [List.drop_zero] at hA2
      have hA3 := hide hA2
      clear hown hA hA2
      go_wp2
      go_ret
      exact ⟨_, rfl, by rw [← hA3.out]; exact hrd, by rw [← hA3.out]; exact hfr.out, hB⟩
    · obtain ⟨i, rfl⟩ : ∃ i, k = i + 1 := ⟨k - 1, by omega⟩
      have hi : i < l.length := by rw [hns.out]; omega
      have hrdw := hh.out.below hB
      obtain ⟨b0, off0, e0, hb0, hcell⟩ := Rd.at_ (by rw [← hns.out] at hrdw; exact hrdw) hi
      subst e0
      have c1' := hcell i hi
      obtain ⟨x, hx⟩ : ∃ x, x = l[i] := ⟨_, rfl⟩
      rw [← hx] at c1'
      have hlenA : A.length = n - (i + 1) := by rw [hA.out, List.length_reverse, List.length_drop, hns.out]
      have hA2 : Hid (A ++ [x] = (l.drop i).reverse) := by
        show _ = _
        rw [List.drop_eq_getElem_cons hi, List.reverse_cons, hA.out, hx]
      have hA4 : A.length + 1 ≤ 1000 := by omega
      have i1 : (0 : Int) ≤ (i : Int) := by omega
      have i2 : (i : Int) < (n : Int) := by omega
      replace hx := hide hx
      replace hlenA := hide hlenA
      clear hcell hrdw hA h0
      go_wp2_with (with_reducible refine wpList_append_rd _ rfl _ _ 26 rfl (V := I64) (fun _ => rfl) w.heap.size 3 (.int .i64 0) 8 Try.underlying26 infoInt rfl _ A rfl (hown.alloc _) _ [x] rfl ?_ ?_ ?_ ?_ ?_)
      case refine_1 => exact Rd.new [x] rfl rfl (Nat.le_refl _) (by decide) rfl
      case refine_2 => simp; omega
      case refine_3 => simp; omega
      case refine_4 => have := hB.size; simp; omega
      intro v4 w4 hown4 hg4 hv4
      have hb4 : Below w.heap.size w w4 := (Bel.al hB _).grown hg4 (Bel.al hB _).size (fun g hg => (hown.lt g hg).1)
      obtain ⟨ao4, cap4, rfl⟩ := hown4.shape
      have hA5 : (A ++ [x]).length ≤ 1000 := by simp; omega
      clear c1' hown hg4
      go_wp2
      go_roundg i
      case measure => have := hgh.out; omega
      case rel => exact ⟨i, A ++ [x], ao4, cap4, rfl, by omega, by go_num, rfl, hA5, hA2, hown4, hb4⟩

/-- append of one line, at an operation of a region that draws its order. -/
theorem wp_append_ln {P : Program} {w : World} {o : Oper} {a : Act} {K : Act → World → Prop} {Q : Exit → Act → World → Prop} (s x : Operand) (t : TypeId)
    (ho : o.op = .call { callee := .builtin .append, args := #[s, x], argTypes := #[t, t] })
    (base : Nat) (z : Value) (bytes : Nat) (ht : P.underlying t = some (.slice 28)) (hi : (P.info? 28).map (fun i => (i.zero, i.size, i.bytes)) = some (some z, 2, bytes)) (hzs : z.cells.size = 2)
    (v : Value) (ls : List LineD) (hs : a.eval s = v) (hown : OwnLn w base v ls) (h : Nat) (c : Nat) (hx : a.eval x = .slice (some ⟨h, 0, none⟩) 1 c) (mv bv : Value) (p q : List Int) (hc0 : w.cell? ⟨h, 0, none⟩ = some mv) (hc1 : w.cell? ⟨h, 1, none⟩ = some bv)
    (hm1 : mv.oneCell' = true) (hb1 : bv.oneCell' = true)
    (hl : LineR w mv bv p q) (f1 : Fr base mv p) (f2 : Fr base bv q) (p1 : Ap mv v p) (p2 : Ap bv v q)
    (h63 : ls.length + 1 ≤ 9223372036854775807) (hbytes : (ls.length + 1) * bytes ≤ 140737488355328) (hbase : base ≤ w.heap.size)
    (h : ∀ v' w', OwnLn w' base v' (ls ++ [(p, q)]) → w.grownBy w' v.ownBlock → K (a.put o.dst v') w') : o.wp P a w K Q := by
  obtain ⟨v', w', hr, h2, h3⟩ := run_append_ln (P := P) w base t o.type z bytes ht hi hzs v ls hown _ c mv bv p q hc0 hc1 hm1 hb1 hl f1 f2 p1 p2 h63 hbytes hbase
  unfold Oper.wp execOp
  simp only [ho, resolve, invoke, builtin, Sem.run_bind, Sem.run_pure, Result.andThen_ok, List.map_toArray, List.map_cons, List.map_nil, hs, hx, hr]
  exact h v' w' h2 h3
end Go.Proofs.Ytgmbnbdbmkdlgaa
end

section
/- lotterylaw16.few: at most 20 lines of 30 numbers. No condition. -/
open Go.RowKit
set_option linter.unusedVariables false
set_option linter.unusedSimpArgs false
namespace Go.Proofs.Ytgmbnbdbmkdlgaa

/-- At most 20 lines of 30 numbers. -/
def FewP (B : BetD) : Prop := B.lines.length ≤ 20 ∧ ∀ l ∈ B.lines, l.1.length ≤ 30 ∧ l.2.length ≤ 30
def FewB (B : BetD) (w : World) (e : Ending) (w' : World) : Prop := ∃ q, e = .returned (.bool q) ∧ (q = true → FewP B) ∧ Below w.heap.size w w'
set_option maxHeartbeats 4000000 in
set_option maxRecDepth 100000 in
theorem few16_few (lv : Value) (B : BetD) (w : World) (hl : LinesR w lv B.lines) :
    Calls Try.prog 19 #[betVal lv B] w (FewB B w) := by
  have hll := hide (fun X (hX : Below w.heap.size w X) => hl.below hX)
  obtain ⟨la, lc, rfl, hlc, hlm⟩ := hl.shape
  obtain ⟨n, hnn⟩ : ∃ n, n = B.lines.length := ⟨_, rfl⟩
  rw [← hnn] at hll hlc ⊢
  unfold maxLen at hlm
  replace hnn := hide hnn
  clear hl
  unfold betVal
  by_cases h20 : (20 : Int) < (n : Int)
  · go_enter Try.func19, Try.ntmps19
    go_upto_region 1 with (fail)
    obtain ⟨W, hW⟩ : ∃ W, W = (w.alloc (Obj.cells #[(.slice la n lc), .bool B.sys, .int .i64 B.draws, .int .i64 B.addons] 44)) := ⟨_, rfl⟩
    have bW : Below w.heap.size w W := by rw [hW]; exact Bel.al (Below.refl _ _) _
    have r0 : Row W ((w.heap.size)) 44 [(.slice la n lc), .bool B.sys, .int .i64 B.draws, .int .i64 B.addons] := by rw [hW]; exact Row.new _ _ _
    have sW : w.heap.size < W.heap.size := by rw [hW]; simp
    rw [← hW]
    clear hW
    have c0 : W.cell? ⟨w.heap.size, 0, none⟩ = some (.slice la n lc) := (r0.cell? 0).trans rfl
    go_wp2
    go_ret
    exact ⟨false, rfl, (fun h => by cases h), bW⟩
  · have n20 : (n : Int) ≤ 20 := by omega
    go_enter Try.func19, Try.ntmps19
    go_upto_region 1 with (fail)
    obtain ⟨W, hW⟩ : ∃ W, W = (w.alloc (Obj.cells #[(.slice la n lc), .bool B.sys, .int .i64 B.draws, .int .i64 B.addons] 44)) := ⟨_, rfl⟩
    have bW : Below w.heap.size w W := by rw [hW]; exact Bel.al (Below.refl _ _) _
    have r0 : Row W ((w.heap.size)) 44 [(.slice la n lc), .bool B.sys, .int .i64 B.draws, .int .i64 B.addons] := by rw [hW]; exact Row.new _ _ _
    have sW : w.heap.size < W.heap.size := by rw [hW]; simp
    rw [← hW]
    clear hW
    have c0 : W.cell? ⟨w.heap.size, 0, none⟩ = some (.slice la n lc) := (r0.cell? 0).trans rfl
    go_wp2
    go_loopg [3] n (fun gh t wr => ∃ k : Nat, gh = n - k ∧ k ≤ n ∧ t = .int .i64 (k : Int) ∧ Hid (∀ j (h : j < B.lines.length), j < k → B.lines[j].1.length ≤ 30 ∧ B.lines[j].2.length ≤ 30) ∧ wr = W)
    case atStart => exact ⟨0, rfl, Nat.zero_le _, rfl, fun j h hj => by omega, rfl⟩
    case round =>
      obtain ⟨k, hgh, hk, rfl, hall, rfl⟩ := hrel
      replace hgh := hide hgh
      by_cases hlt : k < n
      · have hlt2 := hide hlt
        have hlk : k < B.lines.length := by rw [← hnn.out]; exact hlt
        obtain ⟨b0, off0, p, q, rfl, hb0, x1, y1, hl⟩ := (hll.out wr bW).at_ hlk
        obtain ⟨s1, m1, k1, rfl⟩ := Rd.shape hl.1
        obtain ⟨s2, m2, k2, rfl⟩ := Rd.shape hl.2
        have j1 : (0 : Int) ≤ (k : Int) := by omega
        have j2 : (k : Int) < (n : Int) := by omega
        have e1 := Rd.len_eq hl.1
        have e2 := Rd.len_eq hl.2
        have hnx : m1 ≤ 30 → m2 ≤ 30 → Hid (∀ j (h : j < B.lines.length), j < k + 1 → B.lines[j].1.length ≤ 30 ∧ B.lines[j].2.length ≤ 30) := by
          intro q1 q2 j h hj
          rcases Nat.lt_or_ge j k with h3 | h3
          · exact hall.out j h h3
          · obtain rfl : j = k := by omega
            omega
        replace e1 := hide e1
        replace e2 := hide e2
        replace hnx := hide hnx
        clear hl
        by_cases h1 : (30 : Int) < (m1 : Int)
        · go_wp2
          go_ret
          exact ⟨false, rfl, (fun h => by cases h), bW⟩
        · by_cases h2 : (30 : Int) < (m2 : Int)
          · go_wp2
            go_ret
            exact ⟨false, rfl, (fun h => by cases h), bW⟩
          · have hnx2 := hnx.out (by omega) (by omega)
            go_wp2
            go_roundg (n - (k + 1))
            case measure => have := hgh.out; have := hlt2.out; omega
            case rel => exact ⟨k + 1, rfl, by have := hlt2.out; omega, by go_num, hnx2, rfl⟩
      · have j2 : ¬ (k : Int) < (n : Int) := by omega
        have hfin : Hid (FewP B) := by
          refine ⟨by have := hnn.out; omega, fun l hl => ?_⟩
          obtain ⟨j, hj, rfl⟩ := List.getElem_of_mem hl
          exact hall.out j hj (by have := hnn.out; omega)
        go_wp2
        go_ret
        exact ⟨true, rfl, fun _ => hfin.out, bW⟩
end Go.Proofs.Ytgmbnbdbmkdlgaa
end

section
/- The walk of the statement BetOrders: it returns true, whatever the game and the bet. -/
open Go.RowKit
set_option linter.unusedVariables false
set_option linter.unusedSimpArgs false
namespace Go.Proofs.Ytgmbnbdbmkdlgaa

/-- c.Lines = v. -/
theorem store_c {w2 X : World} {cb : Nat} {v : Value} {u1 u2 u3 : Value} {ls : List LineD} {va : Option Addr} {vm vc : Nat} (h1 : OwnLn X (cb + 1) v ls) (h2 : Row X cb 44 [.slice va vm vc, u1, u2, u3]) (h3 : Below cb w2 X) (h4 : cb + 1 ≤ X.heap.size) :
    OwnLn (X.setCell ⟨cb, 0, none⟩ v) (cb + 1) v ls ∧ Row (X.setCell ⟨cb, 0, none⟩ v) cb 44 [v, u1, u2, u3] ∧ Below cb w2 (X.setCell ⟨cb, 0, none⟩ v) ∧ cb + 1 ≤ (X.setCell ⟨cb, 0, none⟩ v).heap.size :=
  ⟨h1.grown (Gb.set (g := cb) (Gb.refl X (some cb)) (p := ⟨cb, 0, none⟩) (.inl rfl) _) (fun k hk => by injection hk with hk; omega), h2.set 0 v, h3.setCell (p := ⟨cb, 0, none⟩) (Nat.le_refl _) _, by simpa [World.setCell] using h4⟩

set_option maxHeartbeats 8000000 in
set_option maxRecDepth 100000 in
theorem orders16_any (g : GameD) (av tv : Value) (ms : List AddonM) (lv : Value) (B : BetD) (w : World) (hg : GameR w av tv ms g) (hl : LinesR w lv B.lines) :
    Calls Try.prog 8 #[gameVal g av tv, betVal lv B] w (BoolB true w) := by
  have cF := hide (fun X (hX : Below w.heap.size w X) => few16_few lv B X (hl.below hX))
  have cL := hide (fun X (hX : Below w.heap.size w X) => blines_own g av tv lv ms B X (hg.below hX) (hl.below hX))
  have cP := hide (fun X (hX : Below w.heap.size w X) => bprice_any g av tv lv ms B X (hg.below hX) (hl.below hX))
  have cL2 := hide (fun (hk : g.kind = 1) X v (hX : Below w.heap.size w X) (hv : LinesR X v (revB B).lines) => (by have h9 := blines_own g av tv v ms (revB B) X (hg.below hX) hv; rw [linesP_rev hk] at h9; exact h9 : Calls Try.prog 22 #[gameVal g av tv, betVal v (revB B)] X (LinesO (linesP16 g B).1 (linesP16 g B).2 X)))
  have cP2 := hide (fun (hk : g.kind = 1) X v (hX : Below w.heap.size w X) (hv : LinesR X v (revB B).lines) => (by have h9 := bprice_any g av tv v ms (revB B) X (hg.below hX) hv; rw [priceP_rev hk] at h9; exact h9 : Calls Try.prog 24 #[gameVal g av tv, betVal v (revB B)] X (IntC (priceP g B).1 (priceP g B).2 X)))
  obtain ⟨R, hR⟩ : ∃ R, R = linesP16 g B := ⟨_, rfl⟩
  obtain ⟨Q, hQ⟩ : ∃ Q, Q = priceP g B := ⟨_, rfl⟩
  rw [← hR] at cL cL2
  rw [← hQ] at cP cP2
  clear hR hQ
  obtain ⟨T, c⟩ := R
  obtain ⟨x, d⟩ := Q
  simp only [] at cL cL2 cP cP2
  have e1 : (c == c) = true := by simp
  have e2 : (d == d) = true := by simp
  have e3 : (x == x) = true := by simp
  have hlw := hide hl
  obtain ⟨aa, ac, rfl, hal, ham⟩ := hg.1.1.shape
  obtain ⟨ta, tc, rfl, htl, htm⟩ := hg.2.2.shape
  obtain ⟨la, lc, rfl, hlc, hlm⟩ := hl.shape
  obtain ⟨n, hnn⟩ : ∃ n, n = B.lines.length := ⟨_, rfl⟩
  rw [← hnn] at hlw hlc cF cL cP
  replace hnn := hide hnn
  clear hg hl
  unfold gameVal betVal at cL cP cL2 cP2
  unfold betVal at cF
  unfold gameVal betVal
  rw [← hnn.out]
  go_enter Try.func8, Try.ntmps8
  go_upto_region 1 with (fail)
  obtain ⟨W, hW⟩ : ∃ W, W = ((w.alloc (Obj.cells #[.string g.name, .int .i64 g.kind, .int .i64 g.price, .int .i64 g.main, .int .i64 g.of, .int .i64 g.bonus, .int .i64 g.bonusOf, .int .i64 g.extra, .int .i64 g.draws, .int .i64 g.system, .int .i64 g.days, .int .i64 g.at_, .int .i64 g.close, .int .i64 g.cancel, .int .i64 g.expiry, .int .i64 g.pool, .int .i64 g.reserve, .int .i64 g.round, .int .i64 g.cap, .int .i64 g.rolls, (.slice aa ms.length ac), (.slice ta g.tiers.length tc)] 25)).alloc (Obj.cells #[(.slice la n lc), .bool B.sys, .int .i64 B.draws, .int .i64 B.addons] 44)) := ⟨_, rfl⟩
  have bW : Below w.heap.size w W := by rw [hW]; exact Bel.al (Bel.al (Below.refl _ _) _) _
  have r0 : GameAt W (w.heap.size) g ((.slice aa ms.length ac)) ((.slice ta g.tiers.length tc)) := by rw [hW]; exact Row.alloc (Row.new _ _ _) _
  have r1 : Row W ((w.heap.size + 1)) 44 [(.slice la n lc), .bool B.sys, .int .i64 B.draws, .int .i64 B.addons] := by rw [hW]; exact Row.at2 _ _ _ _
  have sW : w.heap.size + 1 < W.heap.size := by rw [hW]; simp
  rw [← hW]
  clear hW
  go_wp2_with (first | (refine wpList_load_row rfl 44 _ rfl _ rfl _ _ _ _ r1 Try.underlying44 rfl (by kernel_rfl) ?_) | fail)
  refine (cF.out _ bW).mono ?_
  rintro e w1 ⟨q, rfl, hfew, hb1⟩
  have B1 := Bel.to bW hb1
  have BX1 := hb1
  have r0w := r0
  have r1w := r1
  have r0 := r0.keep hb1
  have r1 := Row.keep r1 hb1
  have c0W : W.cell? ⟨w.heap.size + 1, 0, none⟩ = some (.slice la n lc) := (r1w.cell? 0).trans rfl
  clear hb1
  have d1 := r0.kind
  cases q with
  | false =>
    go_wp2_with fail
    refine (awake16_any _).mono ?_
    rintro e w9 ⟨rfl, hb9⟩
    go_wp2
    go_ret
    exact ⟨rfl, Bel.to B1 hb9⟩
  | true =>
    have hfw := hide (hfew rfl)
    by_cases hk1 : g.kind = 1
    · have hkb : (g.kind != 1) = false := by simpa using hk1
      have cL2 := hide (fun X v => cL2.out hk1 X v)
      have cP2 := hide (fun X v => cP2.out hk1 X v)
      replace hk1 := hide hk1
      have e1' : w1.cell? ⟨w.heap.size + 1, 1, none⟩ = some (.bool B.sys) := (r1.cell? 1).trans rfl
      have e2' : w1.cell? ⟨w.heap.size + 1, 2, none⟩ = some (.int .i64 B.draws) := (r1.cell? 2).trans rfl
      have e3' : w1.cell? ⟨w.heap.size + 1, 3, none⟩ = some (.int .i64 B.addons) := (r1.cell? 3).trans rfl
      have n20 : n ≤ 20 := by have := hfw.out.1; have := hnn.out; omega
      go_upto_region 4 with (fail)
      obtain ⟨W2, hW2⟩ : ∃ W2, W2 = w1.alloc (.cells #[.slice none 0 0, .bool B.sys, .int .i64 B.draws, .int .i64 B.addons] 44) := ⟨_, rfl⟩
      obtain ⟨cb, hcb⟩ : ∃ cb, cb = w1.heap.size := ⟨_, rfl⟩
      have rc : Row W2 cb 44 [.slice none 0 0, .bool B.sys, .int .i64 B.draws, .int .i64 B.addons] := by rw [hW2, hcb]; exact Row.newOf _ rfl
      have b2 : Below w1.heap.size w1 W2 := by rw [hW2]; exact Bel.al (Below.refl _ _) _
      have z2 : cb + 1 ≤ W2.heap.size := by rw [hW2, hcb]; simp
      rw [← hW2, ← hcb]
      clear hW2
      have hcW : W.heap.size ≤ cb := by rw [hcb]; exact BX1.size
      have hwW : w.heap.size + 1 < cb := by rw [hcb]; exact Row.lt r1
      obtain ⟨w2, hw2⟩ : ∃ w2, w2 = w1 := ⟨_, rfl⟩
      rw [← hw2] at b2 hcb
      have b2' : Below cb w2 W2 := by rw [hcb]; exact b2
      have BX2 : Below W.heap.size W W2 := Bel.to (by rw [hw2]; exact BX1) b2
      replace hcb := hide hcb
      replace hw2 := hide hw2
      have r0s := hide r0
      have r1s := hide r1
      clear e1' e2' e3' r0w r1w d1 b2
      go_wp2
      go_loopg [6] n (fun gh t wr => ∃ (k : Nat) (E : List LineD) (va : Option Addr) (vm vc : Nat), gh = n - k ∧ k ≤ n ∧ t = .int .i64 (k : Int) ∧ Row wr cb 44 [.slice va vm vc, .bool B.sys, .int .i64 B.draws, .int .i64 B.addons] ∧ OwnLn wr (cb + 1) (.slice va vm vc) E ∧ Hid (E = (B.lines.take k).map revL) ∧ Below cb w2 wr ∧ cb + 1 ≤ wr.heap.size ∧ Below W.heap.size W wr)
      case atStart => exact ⟨0, [], none, 0, 0, rfl, Nat.zero_le _, rfl, rc, OwnLn.nil _ _, rfl, b2', z2, BX2⟩
      case round =>
        clear rc b2' z2 BX2
        obtain ⟨k, E, va, vm, vc, hgh, hk, rfl, rc, hown, hE, B2, hszr, BX0⟩ := hrel
        replace hgh := hide hgh
        have c0r := Bel.cellOf BX0 c0W
        by_cases hlt : k < n
        · have hlt2 := hide hlt
          have hlk : k < B.lines.length := by rw [← hnn.out]; exact hlt
          obtain ⟨b1, off1, p, q', rfl, hb1, x1, y1, hlr⟩ := hlw.out.at_ hlk
          obtain ⟨l, hl0⟩ : ∃ l, l = B.lines[k] := ⟨_, rfl⟩
          have hE2 : Hid (E ++ [(l.1.reverse, l.2.reverse)] = (B.lines.take (k + 1)).map revL) := by
            show _ = _
            rw [List.take_succ_eq_append_getElem hlk, List.map_append, hE.out, hl0]
            rfl
          have hEl : E.length = k := by rw [hE.out, List.length_map, List.length_take]; omega
          obtain ⟨hlen1, hlen2⟩ := hfw.out.2 B.lines[k] (List.getElem_mem hlk)
          rw [← hl0] at hlr hlen1 hlen2
          clear hl0
          have hlen1 : l.1.length ≤ 1000 := by omega
          have hlen2 : l.2.length ≤ 1000 := by omega
          have hlX := hlr.below bW
          obtain ⟨p1, p2, p3, rfl⟩ := Rd.shape hlr.1
          obtain ⟨q1, q2, q3, rfl⟩ := Rd.shape hlr.2
          have g2W : W.rangeAt b1 (off1 + k * 2) [.slice p1 p2 p3, .slice q1 q2 q3] := by
            intro j v hv
            match j, hv with
            | 0, hv => simp at hv; subst hv; exact Bel.cellOf bW x1
            | 1, hv => simp at hv; subst hv; exact Bel.cellOf bW y1
          have j1 : (0 : Int) ≤ (k : Int) := by omega
          have j2 : (k : Int) < (n : Int) := by omega
          clear x1 y1 hlr
          go_upto_region 7 with (fail)
          refine wp_region_held_drew (S := fun X => X.cell? ⟨w.heap.size + 1, 0, none⟩ = some (.slice (some ⟨b1, off1, none⟩) n lc) ∧ X.rangeAt b1 (off1 + k * 2) [.slice p1 p2 p3, .slice q1 q2 q3]) (by kernel_rfl) (⟨Bel.cellOf (Bel.to BX0 (Below.drewSelf wr)) c0W, rangeAt_keep15 g2W (Bel.to BX0 (Below.drewSelf wr))⟩) (fun hHeld => ?_)
          refine' wpAnyH_take (i := 0) (oi := _) (v := .pointer (some ⟨cb, 0, none⟩)) rfl (by kernel_rfl) (by kernel_rfl) (by kernel_rfl) (fun _ _ _ h => h) (Or.inl ⟨by first | (go_simp; done) | rfl, fun X _ => by go_simp⟩) hHeld ?_
          try simp only [Act.put, List.setIfInBounds_toArray, List.set_cons_zero, List.set_cons_succ]
          refine' wpAnyH_take (i := 2) (oi := _) (v := .pointer (some ⟨w.heap.size + 1, 0, none⟩)) rfl (by kernel_rfl) (by kernel_rfl) (by kernel_rfl) (fun _ _ _ h => h) (Or.inl ⟨by first | (go_simp; done) | rfl, fun X _ => by go_simp⟩) hHeld ?_
          try simp only [Act.put, List.setIfInBounds_toArray, List.set_cons_zero, List.set_cons_succ]
          refine' wpAnyH_take (i := 3) (oi := _) (v := .slice (some ⟨b1, off1, none⟩) n lc) rfl (by kernel_rfl) (by kernel_rfl) (by kernel_rfl) (fun _ _ _ h => h) (Or.inl ⟨by first | (go_simp; done) | rfl, fun X hX => by have cX := hX.1; go_simp⟩) hHeld ?_
          try simp only [Act.put, List.setIfInBounds_toArray, List.set_cons_zero, List.set_cons_succ]
          refine' wpAnyH_take (i := 4) (oi := _) (v := .int .i64 (k : Int)) rfl (by kernel_rfl) (by kernel_rfl) (by kernel_rfl) (fun _ _ _ h => h) (Or.inl ⟨by first | (go_simp; done) | rfl, fun X _ => by go_simp⟩) hHeld ?_
          try simp only [Act.put, List.setIfInBounds_toArray, List.set_cons_zero, List.set_cons_succ]
          refine' wpAnyH_take (i := 5) (oi := _) (v := .pointer (some ⟨b1, off1 + k * 2, none⟩)) rfl (by kernel_rfl) (by kernel_rfl) (by kernel_rfl) (fun _ _ _ h => h) (Or.inl ⟨by first | (go_simp; done) | rfl, fun X _ => by go_simp⟩) hHeld ?_
          try simp only [Act.put, List.setIfInBounds_toArray, List.set_cons_zero, List.set_cons_succ]
          refine' wpAnyH_take (i := 6) (oi := _) (v := .pointer (some ⟨b1, off1 + k * 2, none⟩)) rfl (by kernel_rfl) (by kernel_rfl) (by kernel_rfl) (fun _ _ _ h => h) (Or.inl ⟨by first | (go_simp; done) | rfl, fun X _ => by go_simp⟩) hHeld ?_
          try simp only [Act.put, List.setIfInBounds_toArray, List.set_cons_zero, List.set_cons_succ]
          refine' wpAnyH_take (i := 7) (oi := _) (v := .slice p1 p2 p3) rfl (by kernel_rfl) (by kernel_rfl) (by kernel_rfl) (fun _ _ _ h => h) (Or.inl ⟨by first | (go_simp; done) | rfl, fun X hX => by have cX := show X.cell? ⟨b1, off1 + k * 2, none⟩ = some (.slice p1 p2 p3) from hX.2 0 _ rfl; go_simp⟩) hHeld ?_
          try simp only [Act.put, List.setIfInBounds_toArray, List.set_cons_zero, List.set_cons_succ]
          refine' wpAnyH_take (i := 9) (oi := _) (v := .pointer (some ⟨w.heap.size + 1, 0, none⟩)) rfl (by kernel_rfl) (by kernel_rfl) (by kernel_rfl) (fun _ _ _ h => h) (Or.inl ⟨by first | (go_simp; done) | rfl, fun X _ => by go_simp⟩) hHeld ?_
          try simp only [Act.put, List.setIfInBounds_toArray, List.set_cons_zero, List.set_cons_succ]
          refine' wpAnyH_take (i := 10) (oi := _) (v := .slice (some ⟨b1, off1, none⟩) n lc) rfl (by kernel_rfl) (by kernel_rfl) (by kernel_rfl) (fun _ _ _ h => h) (Or.inl ⟨by first | (go_simp; done) | rfl, fun X hX => by have cX := hX.1; go_simp⟩) hHeld ?_
          try simp only [Act.put, List.setIfInBounds_toArray, List.set_cons_zero, List.set_cons_succ]
          refine' wpAnyH_take (i := 11) (oi := _) (v := .int .i64 (k : Int)) rfl (by kernel_rfl) (by kernel_rfl) (by kernel_rfl) (fun _ _ _ h => h) (Or.inl ⟨by first | (go_simp; done) | rfl, fun X _ => by go_simp⟩) hHeld ?_
          try simp only [Act.put, List.setIfInBounds_toArray, List.set_cons_zero, List.set_cons_succ]
          refine' wpAnyH_take (i := 12) (oi := _) (v := .pointer (some ⟨b1, off1 + k * 2, none⟩)) rfl (by kernel_rfl) (by kernel_rfl) (by kernel_rfl) (fun _ _ _ h => h) (Or.inl ⟨by first | (go_simp; done) | rfl, fun X _ => by go_simp⟩) hHeld ?_
          try simp only [Act.put, List.setIfInBounds_toArray, List.set_cons_zero, List.set_cons_succ]
          refine' wpAnyH_take (i := 13) (oi := _) (v := .pointer (some ⟨b1, off1 + k * 2 + 1, none⟩)) rfl (by kernel_rfl) (by kernel_rfl) (by kernel_rfl) (fun _ _ _ h => h) (Or.inl ⟨by first | (go_simp; done) | rfl, fun X _ => by go_simp⟩) hHeld ?_
          try simp only [Act.put, List.setIfInBounds_toArray, List.set_cons_zero, List.set_cons_succ]
          refine' wpAnyH_take (i := 14) (oi := _) (v := .slice q1 q2 q3) rfl (by kernel_rfl) (by kernel_rfl) (by kernel_rfl) (fun _ _ _ h => h) (Or.inl ⟨by first | (go_simp; done) | rfl, fun X hX => by have cX := hX.2 1 _ rfl; go_simp⟩) hHeld ?_
          try simp only [Act.put, List.setIfInBounds_toArray, List.set_cons_zero, List.set_cons_succ]
          have cv0 : wr.cell? ⟨cb, 0, none⟩ = some (.slice va vm vc) := (rc.cell? 0).trans rfl
          have cvd : wr.drew.cell? ⟨cb, 0, none⟩ = some (.slice va vm vc) := (rc.cell? 0).trans rfl
          have BXd := Bel.to BX0 (Below.drewSelf wr)
          refine wpAnyH_ready (rs := [1, 8]) (by kernel_rfl) (by simp) ?_
          refine AllReadyH.cons (o := _) rfl (fun K hK => ?_) (AllReadyH.cons (o := _) rfl (fun K hK => ?_) AllReadyH.nil)
          · skip
            go_simp
            refine hK.out _ _ hHeld (fun hHeld => ?_)
            clear hK K
            try simp only [Act.put, List.setIfInBounds_toArray, List.set_cons_zero, List.set_cons_succ]
            refine wpAnyH_ready (rs := [8]) (by kernel_rfl) (by simp) ?_
            refine AllReadyH.cons (o := _) rfl (fun K hK => ?_) AllReadyH.nil
            go_simp
            refine (back16_any _ _ wr.drew (hlX.1.below BXd) hlen1).mono ?_
            rintro e v1 ⟨u2, rfl, ru2, fu2, hv1⟩
            obtain ⟨u2a, u2b, u2c, rfl⟩ := Rd.shape ru2
            have BX3 := Bel.to BXd hv1
            have cvv1 := Bel.cellOf hv1 cvd
            go_wp2_with fail
            refine hK.out _ _ (⟨Bel.cellOf BX3 c0W, rangeAt_keep15 g2W BX3⟩) (fun hHeld => ?_)
            clear hK K
            try simp only [Act.put, List.setIfInBounds_toArray, List.set_cons_zero, List.set_cons_succ]
            refine wpAnyH_ready (rs := [15]) (by kernel_rfl) (by simp) ?_
            refine AllReadyH.cons (o := _) rfl (fun K hK => ?_) AllReadyH.nil
            go_simp
            refine (back16_any _ _ v1 (hlX.2.below BX3) hlen2).mono ?_
            rintro e v4 ⟨u5, rfl, ru5, fu5, hv4⟩
            obtain ⟨u5a, u5b, u5c, rfl⟩ := Rd.shape ru5
            have BX6 := Bel.to BX3 hv4
            have cvv4 := Bel.cellOf hv4 cvv1
            have ru2 := ru2.below hv4
            go_wp2_with fail
            refine hK.out _ _ (⟨Bel.cellOf BX6 c0W, rangeAt_keep15 g2W BX6⟩) (fun hHeld => ?_)
            clear hK K
            try simp only [Act.put, List.setIfInBounds_toArray, List.set_cons_zero, List.set_cons_succ]
            refine' wpAnyH_take (i := 16) (oi := _) (v := .agg #[.slice u2a u2b u2c, .slice u5a u5b u5c]) rfl (by kernel_rfl) (by kernel_rfl) (by kernel_rfl) (fun _ _ _ h => h) (Or.inl ⟨by first | (go_simp; done) | rfl, fun X _ => by go_simp⟩) hHeld ?_
            try simp only [Act.put, List.setIfInBounds_toArray, List.set_cons_zero, List.set_cons_succ]
            refine wpAnyH_ready (rs := [17]) (by kernel_rfl) (by simp) ?_
            refine AllReadyH.cons (o := _) rfl (fun K hK => ?_) AllReadyH.nil
            go_simp
            obtain ⟨Y7, hY7⟩ : ∃ Y, Y = v4.alloc (.cells #[.slice u2a u2b u2c, .slice u5a u5b u5c] 28) := ⟨_, rfl⟩
            have bY7 : Below v4.heap.size v4 Y7 := by rw [hY7]; exact Bel.al (Below.refl _ _) _
            have rY : Row Y7 v4.heap.size 28 [.slice u2a u2b u2c, .slice u5a u5b u5c] := by rw [hY7]; exact Row.newOf _ rfl
            rw [← hY7]
            clear hY7
            have BX8 := Bel.to BX6 bY7
            have cvY7 := Bel.cellOf bY7 cvv4
            have ru2 := ru2.below bY7
            have ru5 := ru5.below bY7
            refine hK.out _ _ (⟨Bel.cellOf BX8 c0W, rangeAt_keep15 g2W BX8⟩) (fun hHeld => ?_)
            clear hK K
            try simp only [Act.put, List.setIfInBounds_toArray, List.set_cons_zero, List.set_cons_succ]
            refine wpAnyH_ready (rs := [18]) (by kernel_rfl) (by simp) ?_
            refine AllReadyH.cons (o := _) rfl (fun K hK => ?_) AllReadyH.nil
            have hbX : Below wr.heap.size wr Y7 := Bel.to (Bel.to (Bel.to (Below.drewSelf wr) hv1) hv4) bY7
            have hownX := hown.keep hbX
            refine wp_append_ln _ _ 29 rfl (cb + 1) (.agg #[.slice none 0 0, .slice none 0 0]) 48 Try.underlying29 infoLine15 lineZ15 _ E rfl hownX v4.heap.size 1 rfl (.slice u2a u2b u2c) (.slice u5a u5b u5c) l.1.reverse l.2.reverse ((rY.cell? 0).trans rfl) ((rY.cell? 1).trans rfl) (slice_one15 _ _ _) (slice_one15 _ _ _) ⟨ru2, ru5⟩ (fu2.mono hszr) (fu5.mono (Nat.le_trans hszr hv1.size)) (ap_fr15 fu2 (fun b hb => (hown.lt b hb).2)) (ap_fr15 fu5 (fun b hb => Nat.lt_of_lt_of_le (hown.lt b hb).2 hv1.size)) (by omega) (by omega) (by have := hbX.size; omega) ?_
            intro v9 w9 hown9 hg9
            have hrow : ∀ b, (Value.slice va vm vc).ownBlock = some b → cb + 1 ≤ b := fun b hb => (hown.lt b hb).1
            have BX9 : Below W.heap.size W w9 := BX8.grown hg9 BX8.size (fun b hb => by have := hrow b hb; omega)
            have rc9 : Row w9 cb 44 [.slice va vm vc, .bool B.sys, .int .i64 B.draws, .int .i64 B.addons] := Row.grown (Row.keep rc hbX) hg9 (by intro e; have := hrow cb e.symm; omega)
            have B29 : Below cb w2 w9 := (B2.trans (hbX.mono (by omega))).grown hg9 (by have := hbX.size; omega) (fun b hb => by have := hrow b hb; omega)
            have sz9 : cb + 1 ≤ w9.heap.size := by have := hg9.size; have := hbX.size; omega
            obtain ⟨a9, c9, rfl⟩ := hown9.shape
            have hlen9 : (E ++ [(l.1.reverse, l.2.reverse)]).length = k + 1 := by rw [List.length_append, hEl]; rfl
            rw [hlen9] at hown9 ⊢
            refine hK.out _ _ (⟨Bel.cellOf BX9 c0W, rangeAt_keep15 g2W BX9⟩) (fun hHeld => ?_)
            clear hK K
            try simp only [Act.put, List.setIfInBounds_toArray, List.set_cons_zero, List.set_cons_succ]
            have k9 : w9.cell? ⟨cb, 0, none⟩ = some (.slice va vm vc) := (rc9.cell? 0).trans rfl
            have kf := rc9.frozen 0
            refine' wpAnyH_take (i := 19) (oi := _) (v := .pointer (some ⟨cb, 0, none⟩)) rfl (by kernel_rfl) (by kernel_rfl) (by kernel_rfl) (fun _ _ _ h => h) (Or.inl ⟨by first | (go_simp; done) | rfl, fun X _ => by go_simp⟩) hHeld ?_
            try simp only [Act.put, List.setIfInBounds_toArray, List.set_cons_zero, List.set_cons_succ]
            obtain ⟨q1', q2', q3', q4'⟩ := store_c hown9 rc9 B29 sz9
            have BX10 : Below W.heap.size W (w9.setCell ⟨cb, 0, none⟩ (.slice a9 (k + 1) c9)) := BX9.setCell (p := ⟨cb, 0, none⟩) (by show W.heap.size ≤ cb; omega) _
            refine wpAnyH_ready (rs := [20]) (by kernel_rfl) (by simp) ?_
            refine AllReadyH.cons (o := _) rfl (fun K hK => ?_) AllReadyH.nil
            go_simp
            refine hK.out _ _ (⟨Bel.cellOf BX10 c0W, rangeAt_keep15 g2W BX10⟩) (fun hHeld => ?_)
            clear hK K
            try simp only [Act.put, List.setIfInBounds_toArray, List.set_cons_zero, List.set_cons_succ]
            refine wpAnyH_done (by kernel_rfl) ?_ _
            go_simp
            clear hHeld
            go_wp2
            go_roundg (n - (k + 1))
            case measure => have := hgh.out; have := hlt2.out; omega
            case rel => exact ⟨k + 1, E ++ [(l.1.reverse, l.2.reverse)], a9, _, c9, rfl, by have := hlt2.out; omega, by go_num, q2', q1', hE2, q3', q4', BX10⟩
          · skip
            go_simp
            refine (back16_any _ _ wr.drew (hlX.1.below BXd) hlen1).mono ?_
            rintro e v9 ⟨u10, rfl, ru10, fu10, hv9⟩
            obtain ⟨u10a, u10b, u10c, rfl⟩ := Rd.shape ru10
            have BX11 := Bel.to BXd hv9
            have cvv9 := Bel.cellOf hv9 cvd
            go_wp2_with fail
            refine hK.out _ _ (⟨Bel.cellOf BX11 c0W, rangeAt_keep15 g2W BX11⟩) (fun hHeld => ?_)
            clear hK K
            try simp only [Act.put, List.setIfInBounds_toArray, List.set_cons_zero, List.set_cons_succ]
            refine wpAnyH_ready (rs := [1, 15]) (by kernel_rfl) (by simp) ?_
            refine AllReadyH.cons (o := _) rfl (fun K hK => ?_) (AllReadyH.cons (o := _) rfl (fun K hK => ?_) AllReadyH.nil)
            · skip
              go_simp
              refine hK.out _ _ hHeld (fun hHeld => ?_)
              clear hK K
              try simp only [Act.put, List.setIfInBounds_toArray, List.set_cons_zero, List.set_cons_succ]
              refine wpAnyH_ready (rs := [15]) (by kernel_rfl) (by simp) ?_
              refine AllReadyH.cons (o := _) rfl (fun K hK => ?_) AllReadyH.nil
              go_simp
              refine (back16_any _ _ v9 (hlX.2.below BX11) hlen2).mono ?_
              rintro e v12 ⟨u13, rfl, ru13, fu13, hv12⟩
              obtain ⟨u13a, u13b, u13c, rfl⟩ := Rd.shape ru13
              have BX14 := Bel.to BX11 hv12
              have cvv12 := Bel.cellOf hv12 cvv9
              have ru10 := ru10.below hv12
              go_wp2_with fail
              refine hK.out _ _ (⟨Bel.cellOf BX14 c0W, rangeAt_keep15 g2W BX14⟩) (fun hHeld => ?_)
              clear hK K
              try simp only [Act.put, List.setIfInBounds_toArray, List.set_cons_zero, List.set_cons_succ]
              refine' wpAnyH_take (i := 16) (oi := _) (v := .agg #[.slice u10a u10b u10c, .slice u13a u13b u13c]) rfl (by kernel_rfl) (by kernel_rfl) (by kernel_rfl) (fun _ _ _ h => h) (Or.inl ⟨by first | (go_simp; done) | rfl, fun X _ => by go_simp⟩) hHeld ?_
              try simp only [Act.put, List.setIfInBounds_toArray, List.set_cons_zero, List.set_cons_succ]
              refine wpAnyH_ready (rs := [17]) (by kernel_rfl) (by simp) ?_
              refine AllReadyH.cons (o := _) rfl (fun K hK => ?_) AllReadyH.nil
              go_simp
              obtain ⟨Y15, hY15⟩ : ∃ Y, Y = v12.alloc (.cells #[.slice u10a u10b u10c, .slice u13a u13b u13c] 28) := ⟨_, rfl⟩
              have bY15 : Below v12.heap.size v12 Y15 := by rw [hY15]; exact Bel.al (Below.refl _ _) _
              have rY : Row Y15 v12.heap.size 28 [.slice u10a u10b u10c, .slice u13a u13b u13c] := by rw [hY15]; exact Row.newOf _ rfl
              rw [← hY15]
              clear hY15
              have BX16 := Bel.to BX14 bY15
              have cvY15 := Bel.cellOf bY15 cvv12
              have ru10 := ru10.below bY15
              have ru13 := ru13.below bY15
              refine hK.out _ _ (⟨Bel.cellOf BX16 c0W, rangeAt_keep15 g2W BX16⟩) (fun hHeld => ?_)
              clear hK K
              try simp only [Act.put, List.setIfInBounds_toArray, List.set_cons_zero, List.set_cons_succ]
              refine wpAnyH_ready (rs := [18]) (by kernel_rfl) (by simp) ?_
              refine AllReadyH.cons (o := _) rfl (fun K hK => ?_) AllReadyH.nil
              have hbX : Below wr.heap.size wr Y15 := Bel.to (Bel.to (Bel.to (Below.drewSelf wr) hv9) hv12) bY15
              have hownX := hown.keep hbX
              refine wp_append_ln _ _ 29 rfl (cb + 1) (.agg #[.slice none 0 0, .slice none 0 0]) 48 Try.underlying29 infoLine15 lineZ15 _ E rfl hownX v12.heap.size 1 rfl (.slice u10a u10b u10c) (.slice u13a u13b u13c) l.1.reverse l.2.reverse ((rY.cell? 0).trans rfl) ((rY.cell? 1).trans rfl) (slice_one15 _ _ _) (slice_one15 _ _ _) ⟨ru10, ru13⟩ (fu10.mono hszr) (fu13.mono (Nat.le_trans hszr hv9.size)) (ap_fr15 fu10 (fun b hb => (hown.lt b hb).2)) (ap_fr15 fu13 (fun b hb => Nat.lt_of_lt_of_le (hown.lt b hb).2 hv9.size)) (by omega) (by omega) (by have := hbX.size; omega) ?_
              intro v9 w9 hown9 hg9
              have hrow : ∀ b, (Value.slice va vm vc).ownBlock = some b → cb + 1 ≤ b := fun b hb => (hown.lt b hb).1
              have BX9 : Below W.heap.size W w9 := BX16.grown hg9 BX16.size (fun b hb => by have := hrow b hb; omega)
              have rc9 : Row w9 cb 44 [.slice va vm vc, .bool B.sys, .int .i64 B.draws, .int .i64 B.addons] := Row.grown (Row.keep rc hbX) hg9 (by intro e; have := hrow cb e.symm; omega)
              have B29 : Below cb w2 w9 := (B2.trans (hbX.mono (by omega))).grown hg9 (by have := hbX.size; omega) (fun b hb => by have := hrow b hb; omega)
              have sz9 : cb + 1 ≤ w9.heap.size := by have := hg9.size; have := hbX.size; omega
              obtain ⟨a9, c9, rfl⟩ := hown9.shape
              have hlen9 : (E ++ [(l.1.reverse, l.2.reverse)]).length = k + 1 := by rw [List.length_append, hEl]; rfl
              rw [hlen9] at hown9 ⊢
              refine hK.out _ _ (⟨Bel.cellOf BX9 c0W, rangeAt_keep15 g2W BX9⟩) (fun hHeld => ?_)
              clear hK K
              try simp only [Act.put, List.setIfInBounds_toArray, List.set_cons_zero, List.set_cons_succ]
              have k9 : w9.cell? ⟨cb, 0, none⟩ = some (.slice va vm vc) := (rc9.cell? 0).trans rfl
              have kf := rc9.frozen 0
              refine' wpAnyH_take (i := 19) (oi := _) (v := .pointer (some ⟨cb, 0, none⟩)) rfl (by kernel_rfl) (by kernel_rfl) (by kernel_rfl) (fun _ _ _ h => h) (Or.inl ⟨by first | (go_simp; done) | rfl, fun X _ => by go_simp⟩) hHeld ?_
              try simp only [Act.put, List.setIfInBounds_toArray, List.set_cons_zero, List.set_cons_succ]
              obtain ⟨q1', q2', q3', q4'⟩ := store_c hown9 rc9 B29 sz9
              have BX10 : Below W.heap.size W (w9.setCell ⟨cb, 0, none⟩ (.slice a9 (k + 1) c9)) := BX9.setCell (p := ⟨cb, 0, none⟩) (by show W.heap.size ≤ cb; omega) _
              refine wpAnyH_ready (rs := [20]) (by kernel_rfl) (by simp) ?_
              refine AllReadyH.cons (o := _) rfl (fun K hK => ?_) AllReadyH.nil
              go_simp
              refine hK.out _ _ (⟨Bel.cellOf BX10 c0W, rangeAt_keep15 g2W BX10⟩) (fun hHeld => ?_)
              clear hK K
              try simp only [Act.put, List.setIfInBounds_toArray, List.set_cons_zero, List.set_cons_succ]
              refine wpAnyH_done (by kernel_rfl) ?_ _
              go_simp
              clear hHeld
              go_wp2
              go_roundg (n - (k + 1))
              case measure => have := hgh.out; have := hlt2.out; omega
              case rel => exact ⟨k + 1, E ++ [(l.1.reverse, l.2.reverse)], a9, _, c9, rfl, by have := hlt2.out; omega, by go_num, q2', q1', hE2, q3', q4', BX10⟩
            · skip
              go_simp
              refine (back16_any _ _ v9 (hlX.2.below BX11) hlen2).mono ?_
              rintro e v17 ⟨u18, rfl, ru18, fu18, hv17⟩
              obtain ⟨u18a, u18b, u18c, rfl⟩ := Rd.shape ru18
              have BX19 := Bel.to BX11 hv17
              have cvv17 := Bel.cellOf hv17 cvv9
              have ru10 := ru10.below hv17
              go_wp2_with fail
              refine hK.out _ _ (⟨Bel.cellOf BX19 c0W, rangeAt_keep15 g2W BX19⟩) (fun hHeld => ?_)
              clear hK K
              try simp only [Act.put, List.setIfInBounds_toArray, List.set_cons_zero, List.set_cons_succ]
              refine' wpAnyH_take (i := 16) (oi := _) (v := .agg #[.slice u10a u10b u10c, .slice u18a u18b u18c]) rfl (by kernel_rfl) (by kernel_rfl) (by kernel_rfl) (fun _ _ _ h => h) (Or.inl ⟨by first | (go_simp; done) | rfl, fun X _ => by go_simp⟩) hHeld ?_
              try simp only [Act.put, List.setIfInBounds_toArray, List.set_cons_zero, List.set_cons_succ]
              refine wpAnyH_ready (rs := [1, 17]) (by kernel_rfl) (by simp) ?_
              refine AllReadyH.cons (o := _) rfl (fun K hK => ?_) (AllReadyH.cons (o := _) rfl (fun K hK => ?_) AllReadyH.nil)
              · skip
                go_simp
                refine hK.out _ _ hHeld (fun hHeld => ?_)
                clear hK K
                try simp only [Act.put, List.setIfInBounds_toArray, List.set_cons_zero, List.set_cons_succ]
                refine wpAnyH_ready (rs := [17]) (by kernel_rfl) (by simp) ?_
                refine AllReadyH.cons (o := _) rfl (fun K hK => ?_) AllReadyH.nil
                go_simp
                obtain ⟨Y20, hY20⟩ : ∃ Y, Y = v17.alloc (.cells #[.slice u10a u10b u10c, .slice u18a u18b u18c] 28) := ⟨_, rfl⟩
                have bY20 : Below v17.heap.size v17 Y20 := by rw [hY20]; exact Bel.al (Below.refl _ _) _
                have rY : Row Y20 v17.heap.size 28 [.slice u10a u10b u10c, .slice u18a u18b u18c] := by rw [hY20]; exact Row.newOf _ rfl
                rw [← hY20]
                clear hY20
                have BX21 := Bel.to BX19 bY20
                have cvY20 := Bel.cellOf bY20 cvv17
                have ru10 := ru10.below bY20
                have ru18 := ru18.below bY20
                refine hK.out _ _ (⟨Bel.cellOf BX21 c0W, rangeAt_keep15 g2W BX21⟩) (fun hHeld => ?_)
                clear hK K
                try simp only [Act.put, List.setIfInBounds_toArray, List.set_cons_zero, List.set_cons_succ]
                refine wpAnyH_ready (rs := [18]) (by kernel_rfl) (by simp) ?_
                refine AllReadyH.cons (o := _) rfl (fun K hK => ?_) AllReadyH.nil
                have hbX : Below wr.heap.size wr Y20 := Bel.to (Bel.to (Bel.to (Below.drewSelf wr) hv9) hv17) bY20
                have hownX := hown.keep hbX
                refine wp_append_ln _ _ 29 rfl (cb + 1) (.agg #[.slice none 0 0, .slice none 0 0]) 48 Try.underlying29 infoLine15 lineZ15 _ E rfl hownX v17.heap.size 1 rfl (.slice u10a u10b u10c) (.slice u18a u18b u18c) l.1.reverse l.2.reverse ((rY.cell? 0).trans rfl) ((rY.cell? 1).trans rfl) (slice_one15 _ _ _) (slice_one15 _ _ _) ⟨ru10, ru18⟩ (fu10.mono hszr) (fu18.mono (Nat.le_trans hszr hv9.size)) (ap_fr15 fu10 (fun b hb => (hown.lt b hb).2)) (ap_fr15 fu18 (fun b hb => Nat.lt_of_lt_of_le (hown.lt b hb).2 hv9.size)) (by omega) (by omega) (by have := hbX.size; omega) ?_
                intro v9 w9 hown9 hg9
                have hrow : ∀ b, (Value.slice va vm vc).ownBlock = some b → cb + 1 ≤ b := fun b hb => (hown.lt b hb).1
                have BX9 : Below W.heap.size W w9 := BX21.grown hg9 BX21.size (fun b hb => by have := hrow b hb; omega)
                have rc9 : Row w9 cb 44 [.slice va vm vc, .bool B.sys, .int .i64 B.draws, .int .i64 B.addons] := Row.grown (Row.keep rc hbX) hg9 (by intro e; have := hrow cb e.symm; omega)
                have B29 : Below cb w2 w9 := (B2.trans (hbX.mono (by omega))).grown hg9 (by have := hbX.size; omega) (fun b hb => by have := hrow b hb; omega)
                have sz9 : cb + 1 ≤ w9.heap.size := by have := hg9.size; have := hbX.size; omega
                obtain ⟨a9, c9, rfl⟩ := hown9.shape
                have hlen9 : (E ++ [(l.1.reverse, l.2.reverse)]).length = k + 1 := by rw [List.length_append, hEl]; rfl
                rw [hlen9] at hown9 ⊢
                refine hK.out _ _ (⟨Bel.cellOf BX9 c0W, rangeAt_keep15 g2W BX9⟩) (fun hHeld => ?_)
                clear hK K
                try simp only [Act.put, List.setIfInBounds_toArray, List.set_cons_zero, List.set_cons_succ]
                have k9 : w9.cell? ⟨cb, 0, none⟩ = some (.slice va vm vc) := (rc9.cell? 0).trans rfl
                have kf := rc9.frozen 0
                refine' wpAnyH_take (i := 19) (oi := _) (v := .pointer (some ⟨cb, 0, none⟩)) rfl (by kernel_rfl) (by kernel_rfl) (by kernel_rfl) (fun _ _ _ h => h) (Or.inl ⟨by first | (go_simp; done) | rfl, fun X _ => by go_simp⟩) hHeld ?_
                try simp only [Act.put, List.setIfInBounds_toArray, List.set_cons_zero, List.set_cons_succ]
                obtain ⟨q1', q2', q3', q4'⟩ := store_c hown9 rc9 B29 sz9
                have BX10 : Below W.heap.size W (w9.setCell ⟨cb, 0, none⟩ (.slice a9 (k + 1) c9)) := BX9.setCell (p := ⟨cb, 0, none⟩) (by show W.heap.size ≤ cb; omega) _
                refine wpAnyH_ready (rs := [20]) (by kernel_rfl) (by simp) ?_
                refine AllReadyH.cons (o := _) rfl (fun K hK => ?_) AllReadyH.nil
                go_simp
                refine hK.out _ _ (⟨Bel.cellOf BX10 c0W, rangeAt_keep15 g2W BX10⟩) (fun hHeld => ?_)
                clear hK K
                try simp only [Act.put, List.setIfInBounds_toArray, List.set_cons_zero, List.set_cons_succ]
                refine wpAnyH_done (by kernel_rfl) ?_ _
                go_simp
                clear hHeld
                go_wp2
                go_roundg (n - (k + 1))
                case measure => have := hgh.out; have := hlt2.out; omega
                case rel => exact ⟨k + 1, E ++ [(l.1.reverse, l.2.reverse)], a9, _, c9, rfl, by have := hlt2.out; omega, by go_num, q2', q1', hE2, q3', q4', BX10⟩
              · skip
                go_simp
                obtain ⟨Y22, hY22⟩ : ∃ Y, Y = v17.alloc (.cells #[.slice u10a u10b u10c, .slice u18a u18b u18c] 28) := ⟨_, rfl⟩
                have bY22 : Below v17.heap.size v17 Y22 := by rw [hY22]; exact Bel.al (Below.refl _ _) _
                have rY : Row Y22 v17.heap.size 28 [.slice u10a u10b u10c, .slice u18a u18b u18c] := by rw [hY22]; exact Row.newOf _ rfl
                rw [← hY22]
                clear hY22
                have BX23 := Bel.to BX19 bY22
                have cvY22 := Bel.cellOf bY22 cvv17
                have ru10 := ru10.below bY22
                have ru18 := ru18.below bY22
                refine hK.out _ _ (⟨Bel.cellOf BX23 c0W, rangeAt_keep15 g2W BX23⟩) (fun hHeld => ?_)
                clear hK K
                try simp only [Act.put, List.setIfInBounds_toArray, List.set_cons_zero, List.set_cons_succ]
                refine wpAnyH_ready (rs := [1]) (by kernel_rfl) (by simp) ?_
                refine AllReadyH.cons (o := _) rfl (fun K hK => ?_) AllReadyH.nil
                go_simp
                refine hK.out _ _ hHeld (fun hHeld => ?_)
                clear hK K
                try simp only [Act.put, List.setIfInBounds_toArray, List.set_cons_zero, List.set_cons_succ]
                refine wpAnyH_ready (rs := [18]) (by kernel_rfl) (by simp) ?_
                refine AllReadyH.cons (o := _) rfl (fun K hK => ?_) AllReadyH.nil
                have hbX : Below wr.heap.size wr Y22 := Bel.to (Bel.to (Bel.to (Below.drewSelf wr) hv9) hv17) bY22
                have hownX := hown.keep hbX
                refine wp_append_ln _ _ 29 rfl (cb + 1) (.agg #[.slice none 0 0, .slice none 0 0]) 48 Try.underlying29 infoLine15 lineZ15 _ E rfl hownX v17.heap.size 1 rfl (.slice u10a u10b u10c) (.slice u18a u18b u18c) l.1.reverse l.2.reverse ((rY.cell? 0).trans rfl) ((rY.cell? 1).trans rfl) (slice_one15 _ _ _) (slice_one15 _ _ _) ⟨ru10, ru18⟩ (fu10.mono hszr) (fu18.mono (Nat.le_trans hszr hv9.size)) (ap_fr15 fu10 (fun b hb => (hown.lt b hb).2)) (ap_fr15 fu18 (fun b hb => Nat.lt_of_lt_of_le (hown.lt b hb).2 hv9.size)) (by omega) (by omega) (by have := hbX.size; omega) ?_
                intro v9 w9 hown9 hg9
                have hrow : ∀ b, (Value.slice va vm vc).ownBlock = some b → cb + 1 ≤ b := fun b hb => (hown.lt b hb).1
                have BX9 : Below W.heap.size W w9 := BX23.grown hg9 BX23.size (fun b hb => by have := hrow b hb; omega)
                have rc9 : Row w9 cb 44 [.slice va vm vc, .bool B.sys, .int .i64 B.draws, .int .i64 B.addons] := Row.grown (Row.keep rc hbX) hg9 (by intro e; have := hrow cb e.symm; omega)
                have B29 : Below cb w2 w9 := (B2.trans (hbX.mono (by omega))).grown hg9 (by have := hbX.size; omega) (fun b hb => by have := hrow b hb; omega)
                have sz9 : cb + 1 ≤ w9.heap.size := by have := hg9.size; have := hbX.size; omega
                obtain ⟨a9, c9, rfl⟩ := hown9.shape
                have hlen9 : (E ++ [(l.1.reverse, l.2.reverse)]).length = k + 1 := by rw [List.length_append, hEl]; rfl
                rw [hlen9] at hown9 ⊢
                refine hK.out _ _ (⟨Bel.cellOf BX9 c0W, rangeAt_keep15 g2W BX9⟩) (fun hHeld => ?_)
                clear hK K
                try simp only [Act.put, List.setIfInBounds_toArray, List.set_cons_zero, List.set_cons_succ]
                have k9 : w9.cell? ⟨cb, 0, none⟩ = some (.slice va vm vc) := (rc9.cell? 0).trans rfl
                have kf := rc9.frozen 0
                refine' wpAnyH_take (i := 19) (oi := _) (v := .pointer (some ⟨cb, 0, none⟩)) rfl (by kernel_rfl) (by kernel_rfl) (by kernel_rfl) (fun _ _ _ h => h) (Or.inl ⟨by first | (go_simp; done) | rfl, fun X _ => by go_simp⟩) hHeld ?_
                try simp only [Act.put, List.setIfInBounds_toArray, List.set_cons_zero, List.set_cons_succ]
                obtain ⟨q1', q2', q3', q4'⟩ := store_c hown9 rc9 B29 sz9
                have BX10 : Below W.heap.size W (w9.setCell ⟨cb, 0, none⟩ (.slice a9 (k + 1) c9)) := BX9.setCell (p := ⟨cb, 0, none⟩) (by show W.heap.size ≤ cb; omega) _
                refine wpAnyH_ready (rs := [20]) (by kernel_rfl) (by simp) ?_
                refine AllReadyH.cons (o := _) rfl (fun K hK => ?_) AllReadyH.nil
                go_simp
                refine hK.out _ _ (⟨Bel.cellOf BX10 c0W, rangeAt_keep15 g2W BX10⟩) (fun hHeld => ?_)
                clear hK K
                try simp only [Act.put, List.setIfInBounds_toArray, List.set_cons_zero, List.set_cons_succ]
                refine wpAnyH_done (by kernel_rfl) ?_ _
                go_simp
                clear hHeld
                go_wp2
                go_roundg (n - (k + 1))
                case measure => have := hgh.out; have := hlt2.out; omega
                case rel => exact ⟨k + 1, E ++ [(l.1.reverse, l.2.reverse)], a9, _, c9, rfl, by have := hlt2.out; omega, by go_num, q2', q1', hE2, q3', q4', BX10⟩
        · have hkn : k = B.lines.length := by have := hnn.out; omega
          have hEx := hE.out
          rw [hkn, List.take_length] at hEx
          have hrdE : LinesR wr (.slice va vm vc) (revB B).lines := by have h9 := hown.rd; rw [hEx] at h9; exact h9
          have BWr : Below w.heap.size w wr := Bel.to bW BX0
          have r0 : GameAt wr w.heap.size g (.slice aa ms.length ac) (.slice ta g.tiers.length tc) := (B2.block _ (by omega)).trans (by rw [hw2.out]; exact r0s.out)
          have r1 : Row wr (w.heap.size + 1) 44 [.slice la n lc, .bool B.sys, .int .i64 B.draws, .int .i64 B.addons] := (B2.block _ (by omega)).trans (by rw [hw2.out]; exact r1s.out)
          have j2 : ¬ (k : Int) < (n : Int) := by omega
          have hvm := hrdE.shape
          replace hkn := hide hkn
          replace hEx := hide hEx
          clear hown hE B2 hszr BX0 hvm
          go_wp2_with (first | (refine wpList_load_row rfl 25 _ rfl _ rfl _ _ _ _ r0 Try.underlying25 rfl (by kernel_rfl) ?_) | (refine wpList_load_row rfl 44 _ rfl _ rfl _ _ _ _ r1 Try.underlying44 rfl (by kernel_rfl) ?_) | fail)
          refine (cL.out _ BWr).mono ?_
          rintro e w3 ⟨u, rfl, hu, hb⟩
          obtain ⟨ua, uc, rfl⟩ := hu.shape
          have hu := hu.rd
          replace BWr := Bel.to BWr hb
          replace r0 := r0.keep hb
          replace r1 := Row.keep r1 hb
          replace rc := Row.keep rc hb
          replace hrdE := hrdE.below hb
          clear hb
          go_wp2_with (first | (refine wpList_load_row rfl 25 _ rfl _ rfl _ _ _ _ r0 Try.underlying25 rfl (by kernel_rfl) ?_) | (refine wpList_load_row rfl 44 _ rfl _ rfl _ _ _ _ rc Try.underlying44 rfl (by kernel_rfl) ?_) | fail)
          refine (cL2.out _ _ BWr hrdE).mono ?_
          rintro e w4 ⟨v, rfl, hv, hb⟩
          obtain ⟨va', vc', rfl⟩ := hv.shape
          have hv := hv.rd
          replace BWr := Bel.to BWr hb
          replace r0 := r0.keep hb
          replace r1 := Row.keep r1 hb
          replace rc := Row.keep rc hb
          replace hrdE := hrdE.below hb
          replace hu := hu.below hb
          clear hb
          go_wp2_with (first | (refine wpList_load_row rfl 25 _ rfl _ rfl _ _ _ _ r0 Try.underlying25 rfl (by kernel_rfl) ?_) | (refine wpList_load_row rfl 44 _ rfl _ rfl _ _ _ _ r1 Try.underlying44 rfl (by kernel_rfl) ?_) | fail)
          refine (cP.out _ BWr).mono ?_
          rintro e w5 ⟨rfl, hb⟩
          replace BWr := Bel.to BWr hb
          replace r0 := r0.keep hb
          replace rc := Row.keep rc hb
          replace hrdE := hrdE.below hb
          replace hu := hu.below hb
          replace hv := hv.below hb
          clear hb r1
          go_wp2_with (first | (refine wpList_load_row rfl 25 _ rfl _ rfl _ _ _ _ r0 Try.underlying25 rfl (by kernel_rfl) ?_) | (refine wpList_load_row rfl 44 _ rfl _ rfl _ _ _ _ rc Try.underlying44 rfl (by kernel_rfl) ?_) | fail)
          refine (cP2.out _ _ BWr hrdE).mono ?_
          rintro e w6 ⟨rfl, hb⟩
          replace BWr := Bel.to BWr hb
          replace hu := hu.below hb
          replace hv := hv.below hb
          clear hb r0 rc hrdE
          have cS := hide (lines16_self _ _ T w6 hu hv)
          clear hu hv
          go_wp2_with fail
          refine cS.out.mono ?_
          rintro e w7 ⟨rfl, hb⟩
          replace BWr := Bel.to BWr hb
          go_wp2_with fail
          refine (awake16_any _).mono ?_
          rintro e w9 ⟨rfl, hb9⟩
          go_wp2
          go_ret
          exact ⟨rfl, Bel.to BWr hb9⟩
    · have hkb : (g.kind != 1) = true := by simpa using hk1
      go_wp2_with fail
      refine (awake16_any _).mono ?_
      rintro e w9 ⟨rfl, hb9⟩
      go_wp2
      go_ret
      exact ⟨rfl, Bel.to B1 hb9⟩
end Go.Proofs.Ytgmbnbdbmkdlgaa
end

section
/- BetOrders: for every input the Go function lotterylaw16.BetOrders returns true, and each argument reads afterwards as before. Conditions: none. -/
namespace Go.Proofs.Ytgmbnbdbmkdlgaa.betOrders
open Go.ChangeShapes Go.WideShapes Go.ChangeAt Go.RowKit
set_option linter.unusedVariables false

theorem own : ownKnob Try.prog.godebug = none := by kernel_rfl
theorem laidOut : laidOutB Try.prog = true := by kernel_rfl

set_option maxRecDepth 100000 in
theorem lifted (os : Os) (started : os.Started) (H : Type) (enc : TypeId × Value → H) :
    ReturnsInHanded {} Try.checked os 8 .any (Rows.betOrdersSpec.pre6 enc Try.prog Try.f8 Rows.betOrdersRow.domain false) (Rows.betOrdersSpec.post enc Try.prog Try.f8 false true false false) := by
  refine returnsInHanded_of_change (C := Try.checked) own started (by kernel_rfl) Try.func8
    (ChangeSpec.witness6 (enc := enc) (C := Try.checked) false ⟨#[], #[.agg #[.string ⟨#[]⟩, .int .i64 0, .int .i64 0, .int .i64 0, .int .i64 0, .int .i64 0, .int .i64 0, .int .i64 0, .int .i64 0, .int .i64 0, .int .i64 0, .int .i64 0, .int .i64 0, .int .i64 0, .int .i64 0, .int .i64 0, .int .i64 0, .int .i64 0, .int .i64 0, .int .i64 0, .slice none 0 0, .slice none 0 0], .agg #[.slice none 0 0, .bool false, .int .i64 0, .int .i64 0]], []⟩ 8 (by kernel_rfl) (by kernel_rfl) (by kernel_rfl) (by kernel_rfl)) ?_
  intro W base args ds gs before hval0 hW hcnd _
  have hval : ∀ (j : Nat) t v, Try.f8.params[j]? = some t → args[j]? = some v → Value.okWide Try.prog W .any base t v := hval0
  have hW' := hW
  obtain ⟨p, q, hA0, hV, rfl, hfz, hnd⟩ := hW
  have hA : DataW.TrodAll enc Try.prog W 0 (fun _ => true) true Try.f8.params.toList args.toList ds p := hA0
  rw [Try.params8] at hA hval
  obtain ⟨v0, vs0, d0, ds0, p0, q0, hargs, rfl, rfl, h0, r0⟩ := trodAll_cons hA
  obtain ⟨v1, vs1, d1, ds1, p1, q1, rfl, rfl, rfl, h1, r1⟩ := trodAll_cons r0
  obtain ⟨rfl, rfl, rfl⟩ := trodAll_nil r1
  obtain rfl : args = #[v0, v1] := by cases args; simp_all
  obtain ⟨rfl, rfl⟩ := trodVars_none hV
  obtain ⟨cs0, rfl, hsz0⟩ := okWide_struct Try.underlying25 (hval 0 25 v0 rfl rfl)
  have k0 := h0
  have lt0 : ∀ x ∈ p0, x.block < W.heap.size := by obtain ⟨m, hm⟩ := k0; exact DataW.trod_lt m _ _ _ hm
  obtain ⟨g0, av0, tv0, ms0, eg0, rg0⟩ := game_trod h0
  rw [eg0] at k0 hW' ⊢
  obtain ⟨cs1, rfl, hsz1⟩ := okWide_struct Try.underlying44 (hval 1 44 v1 rfl rfl)
  have k1 := h1
  have lt1 : ∀ x ∈ p1, x.block < W.heap.size := by obtain ⟨m, hm⟩ := k1; exact DataW.trod_lt m _ _ _ hm
  obtain ⟨lv1, B1, eg1, rg1⟩ := bet_trod h1
  rw [eg1] at k1 hW' ⊢
  clear hA0 hval0
  refine (orders16_any g0 av0 tv0 ms0 lv1 B1 W rg0 rg1).mono fun e W' ⟨he, bel⟩ => ?_
  subst he
  exact ⟨_, rfl, _, _, _, [], _, [], hW', trodAll_mk1 (shut_bool Try.underlying4 _), (trodAll_cons_mk (Below.trod laidOut (by kernel_rfl) (of_decide_eq_true (by kernel_rfl)) k0 bel lt0) (trodAll_cons_mk (Below.trod laidOut (by kernel_rfl) (of_decide_eq_true (by kernel_rfl)) k1 bel lt1) trodAll_mk0)), rfl, bel.frame _, fun h => by cases h⟩

theorem over : Rows.betOrdersRow.holds Try.pinned (OpenSpec.ofChange Rows.betOrdersSpec) :=
  OpenClaim.holds_of_wide 8 Try.f8 rfl rfl rfl rfl rfl rfl rfl ⟨rfl, rfl, rfl, rfl, rfl⟩ rfl rfl rfl rfl rfl (by kernel_rfl) Try.func8 (by kernel_rfl)
    (of_decide_eq_true (by kernel_rfl)) (by unfold Func.isWrapper; first | (rw [if_pos (by decide +kernel)]; kernel_rfl) | (rw [if_neg (by decide +kernel)]; exact ⟨rfl, rfl⟩))
    (fun os started H enc _ => lifted os started H enc)

theorem proved : Rows.BetOrdersSaid := over
#print axioms proved
end Go.Proofs.Ytgmbnbdbmkdlgaa.betOrders
end

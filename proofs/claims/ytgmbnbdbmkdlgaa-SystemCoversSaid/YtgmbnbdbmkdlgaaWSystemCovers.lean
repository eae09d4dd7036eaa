/- SystemCovers: for every input the Go function lotterylaw15.SystemCovers returns true, and each argument reads afterwards as before. Conditions: none. -/
import Derived.BigQuiet
import Derived.Test.YtgmbnbdbmkdlgaaRows
import Derived.WalkKit
import Derived.ProofKit
import Derived.OpenShut
import Derived.ChangeOld
import Derived.Below
import Derived.Test.YtgmbnbdbmkdlgaaGLine
import Derived.Test.YtgmbnbdbmkdlgaaGSysB
import Derived.Test.YtgmbnbdbmkdlgaaGSysA
import Derived.Test.YtgmbnbdbmkdlgaaGTrod

section
/- lotterylaw15.count: how many numbers of a list are in another one (numbers twice count twice). Condition: at most 1000 elements each. -/
open Go.RowKit
set_option linter.unusedVariables false
set_option linter.unusedSimpArgs false
namespace Go.Proofs.Ytgmbnbdbmkdlgaa

/-- How often a number stands in a list. -/
def timesL (of : List Int) (x : Int) : Nat := (of.filter fun y => decide (y = x)).length
/-- lotterylaw15.count. -/
def cntL (l of : List Int) : Nat := (l.map (timesL of)).sum

theorem timesL_snoc (of : List Int) (y x : Int) : timesL (of ++ [y]) x = timesL of x + (if y = x then 1 else 0) := by
  unfold timesL
  rw [List.filter_append, List.length_append]
  by_cases h : y = x
  · simp [h]
  · simp [h]
theorem timesL_le (of : List Int) (x : Int) : timesL of x ≤ of.length := List.length_filter_le _ _
theorem cntL_snoc (l of : List Int) (x : Int) : cntL (l ++ [x]) of = cntL l of + timesL of x := by
  unfold cntL
  simp
theorem cntL_le (l of : List Int) : cntL l of ≤ l.length * of.length := by
  induction l with
  | nil => simp [cntL]
  | cons x t ih =>
    have h1 : cntL (x :: t) of = timesL of x + cntL t of := by simp [cntL]
    have := timesL_le of x
    rw [h1, List.length_cons, Nat.add_mul]
    omega

set_option maxHeartbeats 4000000 in
set_option maxRecDepth 100000 in
theorem cnt15_any (va vb : Value) (l of : List Int) (w : World) (ha : Rd I64 w va l) (hb : Rd I64 w vb of) (hl : l.length ≤ 1000) (ho : of.length ≤ 1000) :
    Calls Try.prog 14 #[va, vb] w (IntB (cntL l of : Int) w) := by
  obtain ⟨aa, ca, rfl, hla, hca, hra⟩ := Rd.form ha
  obtain ⟨ab, cb, rfl, hlb, hcb, hrb⟩ := Rd.form hb
  have hca' : ca ≤ 9223372036854775807 := by unfold maxLen at hca; omega
  have hcb' : cb ≤ 9223372036854775807 := by unfold maxLen at hcb; omega
  have hl2 := hide hl
  have ho2 := hide ho
  clear ha hb
  go_enter Try.func14, Try.ntmps14
  go_wp2
  go_loopg [5, 6] l.length (fun gh t u wr => ∃ (i m e : Nat), gh = l.length - i ∧ i ≤ l.length ∧ t = .int .i64 (m : Int) ∧ u = .int .i64 (i : Int) ∧ Hid (m = cntL (l.take i) of) ∧ m ≤ i * 1000 ∧ wr = w.drewN e)
  case atStart => exact ⟨0, 0, 0, rfl, Nat.zero_le _, rfl, rfl, rfl, Nat.zero_le _, rfl⟩
  case round =>
    obtain ⟨i, m, e, hgh, hi, rfl, rfl, hm, hm2, rfl⟩ := hrel
    replace hgh := hide hgh
    by_cases hlt : i < l.length
    · have hlt2 := hide hlt
      obtain ⟨ba, offa, rfl, hba, hcella⟩ := hra.at_ hlt
      obtain ⟨x, hx, c1⟩ : ∃ x, x = l[i] ∧ w.cell? ⟨ba, offa + i, none⟩ = some (.int .i64 x) := ⟨_, rfl, hcella _ hlt⟩
      replace hx := hide hx
      have i1 : (0 : Int) ≤ (i : Int) := by omega
      have i2 : (i : Int) < (l.length : Int) := by omega
      clear hcella
      go_wp2
      go_loopg [5, 7] of.length (fun gh t u wr => ∃ (j k e : Nat), gh = of.length - j ∧ j ≤ of.length ∧ t = .int .i64 (k : Int) ∧ u = .int .i64 (j : Int) ∧ Hid (k = m + timesL (of.take j) x) ∧ k ≤ m + j ∧ wr = w.drewN e)
      case atStart => exact ⟨0, m, e, rfl, Nat.zero_le _, rfl, rfl, rfl, Nat.le_refl _, rfl⟩
      case round =>
        obtain ⟨j, k, e2, hgj, hj, rfl, rfl, hk, hk2, rfl⟩ := hrel
        replace hgj := hide hgj
        have hkb : (k : Int) ≤ 2000000 := by omega
        have hk0 : (0 : Int) ≤ (k : Int) := by omega
        by_cases hjl : j < of.length
        · have hjl2 := hide hjl
          obtain ⟨bb, offb, rfl, hbb, hcellb⟩ := hrb.at_ hjl
          obtain ⟨y, hy, c2⟩ : ∃ y, y = of[j] ∧ w.cell? ⟨bb, offb + j, none⟩ = some (.int .i64 y) := ⟨_, rfl, hcellb _ hjl⟩
          have hts : timesL (of.take (j + 1)) x = timesL (of.take j) x + (if y = x then 1 else 0) := by rw [take_snoc3 of j hjl, timesL_snoc, hy]; rfl
          replace hy := hide hy
          have j1 : (0 : Int) ≤ (j : Int) := by omega
          have j2 : (j : Int) < (of.length : Int) := by omega
          clear hcellb
          by_cases hyx : y = x
          · have hd : (y == x) = true := by simpa using hyx
            rw [if_pos hyx] at hts
            replace hts := hide hts
            replace hyx := hide hyx
            go_wp2
            go_quiet (fail)
            go_wp2
            go_roundg (of.length - (j + 1))
            case measure => have := hgj.out; have := hjl2.out; omega
            case rel => exact ⟨j + 1, k + 1, _, rfl, by have := hjl2.out; omega, by go_num, by go_num, by have := hts.out; have := hk.out; show _ = _; omega, by omega, rfl⟩
          · have hd : (y == x) = false := by simpa using hyx
            rw [if_neg hyx] at hts
            replace hts := hide hts
            replace hyx := hide hyx
            go_wp2
            go_quiet (fail)
            go_wp2
            go_roundg (of.length - (j + 1))
            case measure => have := hgj.out; have := hjl2.out; omega
            case rel => exact ⟨j + 1, k, _, rfl, by have := hjl2.out; omega, by go_num, by go_num, by have := hts.out; have := hk.out; show _ = _; omega, by omega, rfl⟩
        · have hjn : j = of.length := by omega
          have hkk : Hid (k = cntL (l.take (i + 1)) of) := by
            show _ = _
            have h1 := hk.out
            rw [hjn, List.take_length] at h1
            rw [take_snoc3 l i hlt2.out, cntL_snoc, ← hm.out, h1, hx.out]
            rfl
          have hk3 : k ≤ (i + 1) * 1000 := by have := ho2.out; omega
          replace hjn := hide hjn
          have j2 : ¬ (j : Int) < (of.length : Int) := by have := hjn.out; omega
          go_wp2
          go_roundg (l.length - (i + 1))
          case measure => have := hgh.out; have := hlt2.out; omega
          case rel => exact ⟨i + 1, k, _, rfl, by have := hlt2.out; omega, by go_num, by go_num, hkk, hk3, rfl⟩
    · have hin : i = l.length := by omega
      have hmm : Hid (m = cntL l of) := by
        show _ = _
        have h1 := hm.out
        rw [hin, List.take_length] at h1
        exact h1
      replace hin := hide hin
      have j2 : ¬ (i : Int) < (l.length : Int) := by have := hin.out; omega
      go_wp2
      go_ret
      exact ⟨by rw [← hmm.out]; rfl, Bel.drN (Below.refl _ _) _⟩
end Go.Proofs.Ytgmbnbdbmkdlgaa
end

section
/- Plain: how many of a system line's lines have h of the drawn numbers. -/
set_option linter.unusedVariables false
set_option linter.unusedSimpArgs false
namespace Go.Proofs.Ytgmbnbdbmkdlgaa

def pickW (S : List Int) (w : Nat) (p : List Int) : List Int := p.map fun x => S.getD (x - (w : Int)).toNat 0
theorem pickW_one (S p : List Int) : pickW S 1 p = pickL S p := rfl

/-- All ways to take k of a list's elements, in the order of their places. -/
def combsR : List Int → Nat → List (List Int)
  | _, 0 => [[]]
  | [], _ + 1 => []
  | x :: S, k + 1 => (combsR S k).map (fun l => x :: l) ++ combsR S (k + 1)
theorem combsR_zero (S : List Int) : combsR S 0 = [[]] := by cases S <;> rfl

theorem unrankL_mem {n w r k : Nat} (hw : 1 ≤ w) (h : r < choose n k) : ∀ x ∈ unrankL n w r k, (w : Int) ≤ x := by
  intro x hx
  have h2 := check_unrankL (n := n + w - 1) (m := n) (w := w) (r := r) (j := k) (by omega) hw h ((w : Int) - 1) (by omega)
  have := (checkL_pair h2).2 x hx
  omega

theorem pickW_cons (S : List Int) (x : Int) (w : Nat) (p : List Int) (h : ∀ v ∈ p, ((w + 1 : Nat) : Int) ≤ v) : pickW (x :: S) w p = pickW S (w + 1) p := by
  unfold pickW
  apply List.map_congr_left
  intro v hv
  have := h v hv
  rw [show (v - (w : Int)).toNat = (v - ((w + 1 : Nat) : Int)).toNat + 1 by omega]
  rfl

theorem combs_list (S : List Int) (w k : Nat) (hw : 1 ≤ w) : (List.range (choose S.length k)).map (fun r => pickW S w (unrankL S.length w r k)) = combsR S k := by
  induction S generalizing w k with
  | nil =>
    cases k with
    | zero => rw [combsR_zero, choose_zero]; simp [unrankL_zero, pickW, List.range_succ]
    | succ k => rfl
  | cons x S ih =>
    cases k with
    | zero => rw [combsR_zero, choose_zero]; simp [unrankL_zero, pickW, List.range_succ]
    | succ k =>
      rw [List.length_cons, choose_succ, List.range_add, List.map_append, combsR]
      congr 1
      · rw [← ih (w + 1) k (by omega), List.map_map]
        apply List.map_congr_left
        intro r hr
        have hr := List.mem_range.1 hr
        show _ = x :: _
        rw [unrankL_succ, if_pos hr]
        have h1 := pickW_cons S x w (unrankL S.length (w + 1) r k) (unrankL_mem (by omega) hr)
        unfold pickW at h1 ⊢
        rw [List.map_cons, h1, Int.sub_self]
        rfl
      · rw [← ih (w + 1) (k + 1) (by omega), List.map_map]
        apply List.map_congr_left
        intro r hr
        have hr := List.mem_range.1 hr
        show pickW (x :: S) w (unrankL (S.length + 1) w (choose S.length k + r) (k + 1)) = _
        rw [unrankL_succ, if_neg (by omega), Nat.add_sub_cancel_left]
        exact pickW_cons S x w _ (unrankL_mem (by omega) hr)

/-- How many lines have h hits. -/
def hitN (D : List Int) (h : Nat) (ls : List (List Int)) : Nat := (ls.filter fun l => decide (cntL l D = h)).length

theorem hitN_append (D : List Int) (h : Nat) (a b : List (List Int)) : hitN D h (a ++ b) = hitN D h a + hitN D h b := by
  unfold hitN; rw [List.filter_append, List.length_append]
theorem cntL_cons (x : Int) (l D : List Int) : cntL (x :: l) D = timesL D x + cntL l D := by simp [cntL]
theorem cntL_le1 {D : List Int} (hD : ∀ x, timesL D x ≤ 1) (l : List Int) : cntL l D ≤ l.length := by
  induction l with
  | nil => simp [cntL]
  | cons x t ih => have := hD x; rw [cntL_cons, List.length_cons]; omega

theorem hitN_map0 {D : List Int} {x : Int} (hx : timesL D x = 0) (h : Nat) (ls : List (List Int)) : hitN D h (ls.map fun l => x :: l) = hitN D h ls := by
  unfold hitN
  rw [List.filter_map, List.length_map]
  congr 2
  funext l
  show decide (cntL (x :: l) D = h) = _
  rw [cntL_cons, hx, Nat.zero_add]
theorem hitN_map1 {D : List Int} {x : Int} (hx : timesL D x = 1) (h : Nat) (ls : List (List Int)) : hitN D (h + 1) (ls.map fun l => x :: l) = hitN D h ls := by
  unfold hitN
  rw [List.filter_map, List.length_map]
  congr 2
  funext l
  show decide (cntL (x :: l) D = h + 1) = _
  rw [cntL_cons, hx]
  exact decide_eq_decide.2 (by omega)
theorem hitN_map2 {D : List Int} {x : Int} (hx : timesL D x = 1) (ls : List (List Int)) : hitN D 0 (ls.map fun l => x :: l) = 0 := by
  unfold hitN
  rw [List.filter_map, List.length_map]
  rw [List.length_eq_zero_iff, List.filter_eq_nil_iff]
  intro l _
  show ¬ decide (cntL (x :: l) D = 0) = true
  rw [cntL_cons, hx]
  simp

theorem cover_law {D : List Int} (hD : ∀ x, timesL D x ≤ 1) (S : List Int) (k h : Nat) :
    hitN D h (combsR S k) = choose (cntL S D) h * (if h ≤ k then choose (S.length - cntL S D) (k - h) else 0) := by
  induction S generalizing k h with
  | nil =>
    cases k with
    | zero =>
      cases h with
      | zero => rfl
      | succ h => simp [combsR, hitN, cntL]
    | succ k =>
      rw [combsR]
      cases h with
      | zero => simp [hitN, cntL, choose]
      | succ h => simp [hitN, cntL, choose]
  | cons x S ih =>
    have hle := cntL_le1 hD S
    cases k with
    | zero =>
      rw [combsR_zero]
      cases h with
      | zero => simp [hitN, cntL, choose_zero]
      | succ h => simp [hitN, cntL]
    | succ k =>
      rw [combsR, hitN_append]
      by_cases hx : timesL D x = 0
      · rw [hitN_map0 hx, ih k h, ih (k + 1) h, cntL_cons, hx, Nat.zero_add, List.length_cons]
        by_cases h1 : h ≤ k
        · rw [if_pos h1, if_pos (by omega), if_pos (by omega), show S.length + 1 - cntL S D = (S.length - cntL S D) + 1 by omega, show k + 1 - h = (k - h) + 1 by omega, choose_succ, Nat.mul_add]
        · rw [if_neg h1, Nat.mul_zero, Nat.zero_add]
          by_cases h2 : h ≤ k + 1
          · rw [if_pos h2, if_pos h2, show k + 1 - h = 0 by omega, choose_zero, choose_zero]
          · rw [if_neg h2, if_neg h2]
      · have hx1 : timesL D x = 1 := by have := hD x; omega
        rw [cntL_cons, hx1, List.length_cons]
        cases h with
        | zero =>
          rw [hitN_map2 hx1, ih (k + 1) 0, choose_zero, choose_zero, if_pos (by omega), if_pos (by omega), Nat.zero_add, show S.length + 1 - (1 + cntL S D) = S.length - cntL S D by omega]
        | succ h =>
          rw [hitN_map1 hx1, ih k h, ih (k + 1) (h + 1), Nat.add_comm 1 (cntL S D), choose_succ, show S.length + 1 - (cntL S D + 1) = S.length - cntL S D by omega, show k + 1 - (h + 1) = k - h by omega]
          by_cases h1 : h ≤ k
          · rw [if_pos h1, if_pos (by omega), Nat.add_mul]
          · rw [if_neg h1, if_neg (by omega)]; simp

/-- The hits of the first r lines. -/
def fndL (S D : List Int) (k r : Nat) : List Int := (List.range (k + 1)).map fun h => ((hitN D h ((List.range r).map fun r => combS S k r) : Nat) : Int)
theorem fndL_len (S D : List Int) (k r : Nat) : (fndL S D k r).length = k + 1 := by unfold fndL; simp
theorem fndL_zero (S D : List Int) (k : Nat) : fndL S D k 0 = List.replicate (k + 1) 0 := by
  unfold fndL
  apply List.ext_getElem
  · simp
  · intro i h1 h2
    simp [hitN]
theorem hitN_snoc (D : List Int) (h : Nat) (ls : List (List Int)) (l : List Int) : hitN D h (ls ++ [l]) = hitN D h ls + (if cntL l D = h then 1 else 0) := by
  rw [hitN_append]
  congr 1
  unfold hitN
  by_cases hc : cntL l D = h
  · simp [hc]
  · simp [hc]
theorem fndL_at (S D : List Int) (k r h : Nat) (hh : h < (fndL S D k r).length) : (fndL S D k r)[h] = ((hitN D h ((List.range r).map fun r => combS S k r) : Nat) : Int) := by
  have h1 := fndL_len S D k r
  have h2 : (fndL S D k r)[h]? = some ((hitN D h ((List.range r).map fun r => combS S k r) : Nat) : Int) := by
    unfold fndL
    rw [List.getElem?_map, List.getElem?_range (by omega)]
    rfl
  rw [List.getElem?_eq_getElem hh] at h2
  injection h2
theorem fndL_step (S D : List Int) (k r h : Nat) (hh : h < (fndL S D k r).length) (hc : cntL (combS S k r) D = h) : (fndL S D k r).set h ((fndL S D k r)[h] + 1) = fndL S D k (r + 1) := by
  apply List.ext_getElem
  · simp [fndL_len]
  · intro i h1 h2
    have h3 := fndL_at S D k r h hh
    have h4 := fndL_at S D k r i (by rw [List.length_set] at h1; exact h1)
    have h5 := fndL_at S D k (r + 1) i h2
    rw [List.range_succ, List.map_append, List.map_singleton, hitN_snoc, hc] at h5
    rw [List.getElem_set, h5]
    by_cases e : h = i
    · subst e; rw [if_pos rfl, if_pos rfl, h3]; omega
    · rw [if_neg e, if_neg e, h4]; omega
theorem hitN_le (D : List Int) (h : Nat) (ls : List (List Int)) : hitN D h ls ≤ ls.length := List.length_filter_le _ _
theorem fndL_le (S D : List Int) (k r h : Nat) (hh : h < (fndL S D k r).length) : 0 ≤ (fndL S D k r)[h] ∧ (fndL S D k r)[h] ≤ r := by
  rw [fndL_at]
  have := hitN_le D h ((List.range r).map fun r => combS S k r)
  rw [List.length_map, List.length_range] at this
  omega
/-- All lines' hits. -/
theorem fndL_all {D : List Int} (hD : ∀ x, timesL D x ≤ 1) (S : List Int) (k : Nat) (hc : cntL S D = D.length) :
    fndL S D k (choose S.length k) = (List.range (k + 1)).map fun h => ((choose D.length h * choose (S.length - D.length) (k - h) : Nat) : Int) := by
  unfold fndL
  apply List.map_congr_left
  intro h hh
  have hh := List.mem_range.1 hh
  have h1 := combs_list S 1 k (Nat.le_refl 1)
  have h2 : ((List.range (choose S.length k)).map fun r => combS S k r) = combsR S k := h1
  rw [h2, cover_law hD, if_pos (by omega), hc]

theorem timesL_cons (a : List Int) (x y : Int) : timesL (x :: a) y = (if x = y then 1 else 0) + timesL a y := by
  unfold timesL
  rw [List.filter_cons]
  by_cases h : x = y
  · simp [h]; omega
  · simp [h]
theorem cntL_snoc2 (l D : List Int) (y : Int) : cntL l (D ++ [y]) = cntL l D + timesL l y := by
  induction l with
  | nil => simp [cntL, timesL]
  | cons x t ih =>
    rw [cntL_cons, cntL_cons, ih, timesL_snoc, timesL_cons]
    by_cases h : x = y
    · rw [if_pos h, if_pos h.symm]; omega
    · rw [if_neg h, if_neg (fun e => h e.symm)]; omega
theorem times_not {a : List Int} {y : Int} (h : y ∉ a) : timesL a y = 0 := by
  unfold timesL
  rw [List.length_eq_zero_iff, List.filter_eq_nil_iff]
  intro x hx hd
  have : x = y := by simpa using hd
  exact h (this ▸ hx)
theorem times_one {a : List Int} {y : Int} (hn : a.Nodup) (h : y ∈ a) : timesL a y = 1 := by
  induction a with
  | nil => cases h
  | cons x t ih =>
    rw [timesL_cons]
    obtain ⟨h1, h2⟩ := List.nodup_cons.1 hn
    by_cases e : x = y
    · rw [if_pos e, times_not (e ▸ h1)]
    · rw [if_neg e, ih h2 ((List.mem_cons.1 h).resolve_left (fun h => e h.symm))]
theorem times_perm {a b : List Int} (h : a.Perm b) (y : Int) : timesL a y = timesL b y := (h.filter _).length_eq
theorem cntL_perm {a b : List Int} (h : a.Perm b) (D : List Int) : cntL a D = cntL b D := by
  induction h with
  | nil => rfl
  | cons x _ ih => rw [cntL_cons, cntL_cons, ih]
  | swap x y l => rw [cntL_cons, cntL_cons, cntL_cons, cntL_cons]; omega
  | trans _ _ h1 h2 => exact h1.trans h2
theorem cntL_full {l a : List Int} (hn : a.Nodup) (h : ∀ x ∈ l, x ∈ a) : cntL l a = l.length := by
  induction l with
  | nil => rfl
  | cons x t ih =>
    rw [cntL_cons, times_one hn (h x List.mem_cons_self), ih (fun y hy => h y (List.mem_cons_of_mem x hy)), List.length_cons]
    omega
end Go.Proofs.Ytgmbnbdbmkdlgaa
end

section
/- Plain: the lines of a system line are valid lines, of its numbers, in the order of their ranks. -/
set_option linter.unusedVariables false
set_option linter.unusedSimpArgs false
namespace Go.Proofs.Ytgmbnbdbmkdlgaa

theorem getD_mem {S : List Int} {x : Int} (h1 : 1 ≤ x) (h2 : x ≤ S.length) : S.getD (x - 1).toNat 0 ∈ S := by
  rw [List.getD_eq_getElem?_getD, List.getElem?_eq_getElem (show (x - 1).toNat < S.length by omega)]
  exact List.getElem_mem _
theorem getD_lt {S : List Int} (hS : S.Pairwise (· < ·)) {x y : Int} (h1 : 1 ≤ x) (h2 : x < y) (h3 : y ≤ S.length) : S.getD (x - 1).toNat 0 < S.getD (y - 1).toNat 0 := by
  rw [List.getD_eq_getElem?_getD, List.getElem?_eq_getElem (show (x - 1).toNat < S.length by omega), List.getD_eq_getElem?_getD, List.getElem?_eq_getElem (show (y - 1).toNat < S.length by omega)]
  exact List.pairwise_iff_getElem.1 hS _ _ _ _ (by omega)

theorem comb_mem {S : List Int} {k r : Nat} (h : r < choose S.length k) : ∀ x ∈ combS S k r, x ∈ S := by
  intro x hx
  unfold combS pickL at hx
  obtain ⟨v, hv, rfl⟩ := List.mem_map.1 hx
  obtain ⟨h1, h2⟩ := places_at h v hv
  exact getD_mem h1 h2

theorem comb_sorted {S : List Int} (hS : S.Pairwise (· < ·)) {k r : Nat} (h : r < choose S.length k) : (combS S k r).Pairwise (· < ·) := by
  unfold combS pickL
  rw [List.pairwise_map]
  have hp := (checkL_pair (check_unrankL (n := S.length) (m := S.length) (w := 1) (r := r) (j := k) (by omega) (by omega) h 0 (by omega))).1
  have hm := places_at h
  rw [List.pairwise_iff_getElem] at hp ⊢
  intro i j hi hj hij
  have h1 := hp i j hi hj hij
  have h2 := hm _ (List.getElem_mem hi)
  have h3 := hm _ (List.getElem_mem hj)
  exact getD_lt hS h2.1 h1 h3.2

theorem pick_less {S : List Int} (hS : S.Pairwise (· < ·)) (p q : List Int) (hp : ∀ x ∈ p, 1 ≤ x ∧ x ≤ S.length) (hq : ∀ x ∈ q, 1 ≤ x ∧ x ≤ S.length) : lessB (pickL S p) (pickL S q) = lessB p q := by
  induction p generalizing q with
  | nil => cases q <;> rfl
  | cons x p ih =>
    cases q with
    | nil => rfl
    | cons y q =>
      have h1 := ih q (fun v hv => hp v (List.mem_cons_of_mem x hv)) (fun v hv => hq v (List.mem_cons_of_mem y hv))
      obtain ⟨a1, a2⟩ := hp x List.mem_cons_self
      obtain ⟨b1, b2⟩ := hq y List.mem_cons_self
      show lessB (S.getD (x - 1).toNat 0 :: pickL S p) (S.getD (y - 1).toNat 0 :: pickL S q) = _
      rw [lessB, lessB, h1]
      rcases Int.lt_trichotomy x y with h | h | h
      · have := getD_lt hS a1 h b2
        rw [if_neg (by omega), if_neg (by omega), decide_eq_true h, decide_eq_true this]
      · subst h; rw [if_pos rfl, if_pos rfl]
      · have := getD_lt hS b1 h a2
        rw [if_neg (by omega), if_neg (by omega), decide_eq_false (by omega), decide_eq_false (by omega)]

theorem lessB_asymm (a b : List Int) (h : lessB a b = true) : lessB b a = false := by
  induction a generalizing b with
  | nil => cases b <;> cases h
  | cons x a ih =>
    cases b with
    | nil => cases h
    | cons y b =>
      rw [lessB] at h ⊢
      by_cases e : x = y
      · subst e; rw [if_pos rfl] at h ⊢; exact ih b h
      · rw [if_neg e] at h
        have := of_decide_eq_true h
        rw [if_neg (fun e2 => e e2.symm)]
        exact decide_eq_false (by omega)

theorem rankL_mono {n : Nat} {a b : List Int} (ha : checkL n 0 a = 0) (hb : checkL n 0 b = 0) (hl : a.length = b.length) (h : lessB a b = true) : rankL n 0 a < rankL n 0 b := by
  have a1 := unrank_rankL (n := n) (last := 0) (by omega) ha
  have b1 := unrank_rankL (n := n) (last := 0) (by omega) hb
  have a2 := rankL_lt (n := n) (last := 0) (by omega) ha
  rw [Nat.sub_zero] at a1 b1 a2
  rw [Nat.zero_add] at a1 b1
  rw [← hl] at b1
  rcases Nat.lt_trichotomy (rankL n 0 a) (rankL n 0 b) with h1 | h1 | h1
  · exact h1
  · rw [h1, b1] at a1
    subst a1
    rw [lessB_asymm _ _ h] at h; cases h
  · have h2 := unrankL_less (n := n) (m := n) (w := 1) (j := a.length) (by omega) a2 h1
    rw [a1, b1, lessB_asymm _ _ h] at h2
    cases h2

theorem choose_two {n k : Nat} (h1 : 1 ≤ k) (h2 : k < n) : 2 ≤ choose n k := by
  obtain ⟨k, rfl⟩ := Nat.exists_eq_succ_of_ne_zero (show k ≠ 0 by omega)
  obtain ⟨n, rfl⟩ := Nat.exists_eq_succ_of_ne_zero (show n ≠ 0 by omega)
  rw [choose_succ]
  have := choose_pos (n := n) (k := k) (by omega)
  have := choose_pos (n := n) (k := k + 1) (by omega)
  omega

/-- The lines of a system line: valid, of its numbers, in order. -/
structure LnOk (g : GameD) (a b : List Int) (C : Nat) : Prop where
  ok : ∀ r, r < C → lineE g (combS (sortI a) g.main.toNat r) (sortI b) = 0
  less : ∀ r s, r < s → s < C → rankG g (combS (sortI a) g.main.toNat r) (sortI b) < rankG g (combS (sortI a) g.main.toNat s) (sortI b)
  pos : ∀ r, r < C → 0 ≤ rankG g (combS (sortI a) g.main.toNat r) (sortI b)
  cntA : ∀ r, r < C → (cntL (combS (sortI a) g.main.toNat r) a : Int) = g.main
  cntB : (cntL (sortI b) b : Int) = g.bonus

theorem lines_law {g : GameD} {a b : List Int} (he : gameE g = 0) (hk : g.kind = 1) (m1 : 1 ≤ g.main) (m2 : g.main < a.length) (hb : (b.length : Int) = g.bonus) (ra : allB a 1 g.of = true) (rb : allB b 1 g.bonusOf = true) (da : dupB a = false) (db : dupB b = false) :
    LnOk g a b (choose a.length g.main.toNat) := by
  have na := dupB_no.1 da
  have nb := dupB_no.1 db
  have ia := allB_iff.1 ra
  have ib := allB_iff.1 rb
  have hS := sortI_lt na
  have hSl := sortI_len a
  have ha : ∀ r, r < choose a.length g.main.toNat → ∀ x ∈ combS (sortI a) g.main.toNat r, x ∈ a := fun r hr x hx => (sortI_perm a).mem_iff.1 (comb_mem (by rw [hSl]; exact hr) x hx)
  have hlen : ∀ r, r < choose a.length g.main.toNat → (combS (sortI a) g.main.toNat r).length = g.main.toNat := fun r hr => combS_len (by rw [hSl]; exact hr)
  have hsorted : ∀ r, r < choose a.length g.main.toNat → (combS (sortI a) g.main.toNat r).Pairwise (· < ·) := fun r hr => comb_sorted hS (by rw [hSl]; exact hr)
  have hk2 : g.kind ≠ 2 := by omega
  refine ⟨fun r hr => ?_, fun r s hrs hs => ?_, fun r hr => ?_, fun r hr => ?_, ?_⟩
  · refine lineE_ok.2 ⟨he, by rw [hlen r hr]; omega, by rw [sortI_len]; exact hb, fun x hx => ?_, fun x hx => ib x ((sortI_perm b).mem_iff.1 hx), fun _ => lt_nodup (hsorted r hr), (sortI_perm b).nodup_iff.2 nb⟩
    unfold lowG highG
    rw [if_neg hk2, if_neg hk2]
    exact ia x (ha r hr x hx)
  · have hr : r < choose a.length g.main.toNat := by omega
    have e1 : ∀ r, r < choose a.length g.main.toNat → sortI (combS (sortI a) g.main.toNat r) = combS (sortI a) g.main.toNat r := fun r hr => sortI_of (lt_le (hsorted r hr))
    have hc : ∀ r, r < choose a.length g.main.toNat → checkL g.of.toNat 0 (combS (sortI a) g.main.toNat r) = 0 := fun r hr => checkL_of (hsorted r hr) (fun x hx => by have := ia x (ha r hr x hx); omega)
    have hl : lessB (combS (sortI a) g.main.toNat r) (combS (sortI a) g.main.toNat s) = true := by
      unfold combS
      rw [pick_less hS _ _ (places_at (by rw [hSl]; exact hr)) (places_at (by rw [hSl]; exact hs))]
      exact unrankL_less (n := (sortI a).length) (by omega) (by rw [hSl]; exact hs) hrs
    have hm := rankL_mono (hc r hr) (hc s hs) (by rw [hlen r hr, hlen s hs]) hl
    unfold rankG
    rw [if_neg hk2, if_neg hk2, e1 r hr, e1 s hs]
    have hbc : checkL g.bonusOf.toNat 0 (sortI (sortI b)) = 0 := by
      rw [sortI_idem]
      exact check_sortI nb (fun x hx => by have := ib x hx; omega)
    have hN : 0 < bonusN g := by
      have := rankL_lt (n := g.bonusOf.toNat) (last := 0) (by omega) hbc
      rw [sortI_idem, sortI_len, Nat.sub_zero, show b.length = g.bonus.toNat by omega] at this
      unfold bonusN
      omega
    have := Nat.mul_lt_mul_of_pos_right hm hN
    omega
  · unfold rankG
    rw [if_neg hk2]
    exact Int.natCast_nonneg _
  · rw [cntL_full na (ha r hr), hlen r hr]; omega
  · rw [cntL_full nb (fun x hx => (sortI_perm b).mem_iff.1 hx), sortI_len]; exact hb
end Go.Proofs.Ytgmbnbdbmkdlgaa
end

section
/- The walk of the statement SystemCovers: it returns true, whatever the game, the line and the places. -/
open Go.RowKit
set_option linter.unusedVariables false
set_option linter.unusedSimpArgs false
namespace Go.Proofs.Ytgmbnbdbmkdlgaa

theorem spread_fnd {g : GameD} {K s d : Nat} (hK : g.main = (K : Int)) (hd : d ≤ s) : spreadL g (s : Int) (d : Int) (K + 1) = (List.range (K + 1)).map fun h => ((choose d h * choose (s - d) (K - h) : Nat) : Int) := by
  unfold spreadL
  apply List.map_congr_left
  intro h hh
  have hh := List.mem_range.1 hh
  unfold spreadN
  rw [hK, chooseI_nat d h _ _ rfl rfl, chooseI_nat (s - d) (K - h) _ _ (by omega) (by omega)]

theorem sameInts15_id (va vb : Value) (l : List Int) (w : World) (ha : Rd I64 w va l) (hb : Rd I64 w vb l) : Calls Try.prog 16 #[va, vb] w (BoolB true w) := by
  have := sameInts15 va vb l l w ha hb
  rwa [show decide (l = l) = true by simp] at this
theorem rdZero {w : World} {g : Nat} {n : Nat} (h : Row w g 3 (List.replicate n (.int .i64 0))) : Row w g 3 ((List.replicate n (0 : Int)).map I64) := by rw [List.map_replicate]; exact h
theorem timesL_le1 {D : List Int} {x : Int} (hD : ∀ y, timesL D y ≤ 1) (hx : timesL D x = 0) : ∀ y, timesL (D ++ [x]) y ≤ 1 := by
  intro y
  rw [timesL_snoc]
  by_cases h : x = y
  · subst h; rw [if_pos rfl, hx]; omega
  · rw [if_neg h]; have := hD y; omega
theorem cntL_nil2 (l : List Int) : cntL l [] = 0 := by
  induction l with
  | nil => rfl
  | cons x t ih => rw [cntL_cons, ih]; rfl
theorem expL_get15 {S b : List Int} {k r : Nat} (h : r < (expL S b k).length) : (expL S b k)[r] = (combS S k r, b) := by
  have h2 : (expL S b k)[r]? = some (combS S k r, b) := by
    unfold expL
    rw [List.getElem?_map, List.getElem?_range (by rw [expL_len] at h; exact h)]
    rfl
  rw [List.getElem?_eq_getElem h] at h2
  injection h2
theorem cntL_one (x : Int) (D : List Int) : cntL [x] D = timesL D x := by simp [cntL]

set_option maxHeartbeats 4000000 in
set_option maxRecDepth 100000 in
theorem covers15_no (g : GameD) (av tv mv bv pv : Value) (ms : List AddonM) (a b ps : List Int) (w : World) (h : GameR w av tv ms g) (hl : LineR w mv bv a b) (hp : Rd I64 w pv ps) (he : (expP g a b).2 ≠ 0) :
    Calls Try.prog 4 #[gameVal g av tv, lineVal mv bv, pv] w (BoolB true w) := by
  have cA := hide (fun X (hX : Below w.heap.size w X) => sexpand_any g av tv mv bv ms a b X (h.below hX) (hl.below hX))
  obtain ⟨R, hR⟩ : ∃ R, R = expP g a b := ⟨_, rfl⟩
  rw [← hR] at cA he
  clear hR
  obtain ⟨L, c⟩ := R
  simp only [] at cA he
  have hcb : (c != 0) = true := by simpa using he
  obtain ⟨aa, ac, rfl, hal, ham⟩ := h.1.1.shape
  obtain ⟨ta, tc, rfl, htl, htm⟩ := h.2.2.shape
  obtain ⟨ma, mc, rfl, hma, hmc, -⟩ := hl.1.form
  obtain ⟨ba, bc, rfl, hba, hbc, -⟩ := hl.2.form
  obtain ⟨pa, pc, rfl, hpa, hpc, -⟩ := hp.form
  clear h hl hp
  replace he := hide he
  unfold gameVal lineVal at cA ⊢
  go_enter Try.func4, Try.ntmps4
  go_upto_region 1 with (fail)
  obtain ⟨W, hW⟩ : ∃ W, W = ((w.alloc (Obj.cells #[.string g.name, .int .i64 g.kind, .int .i64 g.price, .int .i64 g.main, .int .i64 g.of, .int .i64 g.bonus, .int .i64 g.bonusOf, .int .i64 g.extra, .int .i64 g.draws, .int .i64 g.system, .int .i64 g.days, .int .i64 g.at_, .int .i64 g.close, .int .i64 g.cancel, .int .i64 g.expiry, .int .i64 g.pool, .int .i64 g.reserve, .int .i64 g.round, .int .i64 g.cap, .int .i64 g.rolls, (.slice aa ms.length ac), (.slice ta g.tiers.length tc)] 25)).alloc (Obj.cells #[(.slice ma a.length mc), (.slice ba b.length bc)] 28)) := ⟨_, rfl⟩
  have bW : Below w.heap.size w W := by rw [hW]; exact Bel.al (Bel.al (Below.refl _ _) _) _
  have r0 : GameAt W (w.heap.size) g ((.slice aa ms.length ac)) ((.slice ta g.tiers.length tc)) := by rw [hW]; exact Row.alloc (Row.new _ _ _) _
  have r1 : LineAt W (w.heap.size + 1) ((.slice ma a.length mc)) ((.slice ba b.length bc)) := by rw [hW]; exact Row.at2 _ _ _ _
  have sW : w.heap.size + 1 < W.heap.size := by rw [hW]; simp
  rw [← hW]
  clear hW
  go_wp2_with (first | (refine wpList_load_row rfl 25 _ rfl _ rfl _ _ _ _ r0 Try.underlying25 rfl (by kernel_rfl) ?_) | (refine wpList_load_row rfl 28 _ rfl _ rfl _ _ _ _ r1 Try.underlying28 rfl (by kernel_rfl) ?_) | fail)
  refine (cA.out _ bW).mono ?_
  rintro e w1 ⟨u, rfl, hu, hb1⟩
  have B1 := Bel.to bW hb1
  obtain ⟨ua, uc, rfl, -, -⟩ := hu.shape
  clear hb1 bW r0 r1 hu cA
  go_wp2_with fail
  refine (lives15_any _).mono ?_
  rintro e w4 ⟨rfl, hb4⟩
  go_wp2
  go_ret
  exact ⟨rfl, Bel.to B1 hb4⟩

set_option maxHeartbeats 4000000 in
set_option maxRecDepth 100000 in
theorem covers15_big (g : GameD) (av tv mv bv pv : Value) (ms : List AddonM) (a b ps : List Int) (w : World) (h : GameR w av tv ms g) (hl : LineR w mv bv a b) (hp : Rd I64 w pv ps) (he : sysE g a b = 0) (hm : choose a.length g.main.toNat ≤ 1024) (hbig : g.main < (ps.length : Int)) :
    Calls Try.prog 4 #[gameVal g av tv, lineVal mv bv, pv] w (BoolB true w) := by
  have cA := hide (fun X (hX : Below w.heap.size w X) => sexpand_ok g av tv mv bv ms a b X (h.below hX) (hl.below hX) he hm)
  obtain ⟨L, hL⟩ : ∃ L, L = expL (sortI a) (sortI b) g.main.toNat := ⟨_, rfl⟩
  rw [← hL] at cA
  clear hL he hm
  obtain ⟨aa, ac, rfl, hal, ham⟩ := h.1.1.shape
  obtain ⟨ta, tc, rfl, htl, htm⟩ := h.2.2.shape
  obtain ⟨ma, mc, rfl, hma, hmc, -⟩ := hl.1.form
  obtain ⟨ba, bc, rfl, hba, hbc, -⟩ := hl.2.form
  obtain ⟨pa, pc, rfl, hpa, hpc, -⟩ := hp.form
  clear h hl hp
  have hbd : decide (g.main < (ps.length : Int)) = true := decide_eq_true hbig
  unfold gameVal lineVal at cA ⊢
  go_enter Try.func4, Try.ntmps4
  go_upto_region 1 with (fail)
  obtain ⟨W, hW⟩ : ∃ W, W = ((w.alloc (Obj.cells #[.string g.name, .int .i64 g.kind, .int .i64 g.price, .int .i64 g.main, .int .i64 g.of, .int .i64 g.bonus, .int .i64 g.bonusOf, .int .i64 g.extra, .int .i64 g.draws, .int .i64 g.system, .int .i64 g.days, .int .i64 g.at_, .int .i64 g.close, .int .i64 g.cancel, .int .i64 g.expiry, .int .i64 g.pool, .int .i64 g.reserve, .int .i64 g.round, .int .i64 g.cap, .int .i64 g.rolls, (.slice aa ms.length ac), (.slice ta g.tiers.length tc)] 25)).alloc (Obj.cells #[(.slice ma a.length mc), (.slice ba b.length bc)] 28)) := ⟨_, rfl⟩
  have bW : Below w.heap.size w W := by rw [hW]; exact Bel.al (Bel.al (Below.refl _ _) _) _
  have r0 : GameAt W (w.heap.size) g ((.slice aa ms.length ac)) ((.slice ta g.tiers.length tc)) := by rw [hW]; exact Row.alloc (Row.new _ _ _) _
  have r1 : LineAt W (w.heap.size + 1) ((.slice ma a.length mc)) ((.slice ba b.length bc)) := by rw [hW]; exact Row.at2 _ _ _ _
  have sW : w.heap.size + 1 < W.heap.size := by rw [hW]; simp
  rw [← hW]
  clear hW
  go_wp2_with (first | (refine wpList_load_row rfl 25 _ rfl _ rfl _ _ _ _ r0 Try.underlying25 rfl (by kernel_rfl) ?_) | (refine wpList_load_row rfl 28 _ rfl _ rfl _ _ _ _ r1 Try.underlying28 rfl (by kernel_rfl) ?_) | fail)
  refine (cA.out _ bW).mono ?_
  rintro e w1 ⟨u, rfl, hu, hb1⟩
  have B1 := Bel.to bW hb1
  have d3 := (r0.keep hb1).main
  obtain ⟨ua, uc, rfl, -, -⟩ := hu.shape
  clear hb1 bW r0 r1 hu cA
  go_wp2_with fail
  refine (lives15_any _).mono ?_
  rintro e w4 ⟨rfl, hb4⟩
  go_wp2
  go_ret
  exact ⟨rfl, Bel.to B1 hb4⟩

attribute [local go_sem ↓] app_shut

theorem drawn_step {X : World} {R : Nat} {A : List Int} {ao : Option Addr} {n cap : Nat} (hown : Own I64 X R 3 (.slice ao n cap) A) (hA : A.length ≤ 100) (y : Int) (hR : R ≤ X.heap.size) :
    ∃ b7 n7 c7 w7, (Builtin.append_ #[26, 26] 26 #[.slice ao n cap, .slice (some ⟨X.heap.size, 0, none⟩) 1 1]).run Try.prog (X.alloc (Obj.cells #[.int .i64 y] 3)).drew = .ok (.slice b7 n7 c7) w7 ∧
      Own I64 w7 R 3 (.slice b7 n7 c7) (A ++ [y]) ∧ Below R X w7 := by
  have hownA : Own I64 (X.drew.alloc (Obj.cells #[.int .i64 y] 3)) R 3 (.slice ao n cap) A := Own.alloc (w := X.drew) hown _
  have bA : Below X.heap.size X (X.drew.alloc (Obj.cells #[.int .i64 y] 3)) := Bel.al (Below.drew (Below.refl X.heap.size X)) _
  have nY : Rd I64 (X.drew.alloc (Obj.cells #[.int .i64 y] 3)) (.slice (some ⟨X.heap.size, 0, none⟩) 1 1) [y] := Rd.new [y] rfl rfl (Nat.le_refl _) (by decide) rfl
  have hsz : (X.drew.alloc (Obj.cells #[.int .i64 y] 3)).heap.size = X.heap.size + 1 := by simp
  obtain ⟨v7, w7, hr, h2, h3, h4⟩ := run_append_rd (P := Try.prog) (X.drew.alloc (Obj.cells #[.int .i64 y] 3)) (V := I64) (fun _ => rfl) R 26 26 3 (.int .i64 0) 8 Try.underlying26 infoInt rfl _ A hownA _ [y] nY (by simp; omega) (by simp; omega) (by omega)
  obtain ⟨b7, n7, c7, rfl⟩ := Rd.shape h2.rd
  exact ⟨b7, n7, c7, w7, hr, h2, (bA.mono hR).grown h3 (by omega) (fun g hg => (hownA.lt g hg).1)⟩

set_option maxHeartbeats 8000000 in
set_option maxRecDepth 100000 in
theorem covers15_ok (g : GameD) (av tv mv bv pv : Value) (ms : List AddonM) (a b ps : List Int) (w : World) (h : GameR w av tv ms g) (hl : LineR w mv bv a b) (hp : Rd I64 w pv ps) (he : sysE g a b = 0) (hm : choose a.length g.main.toNat ≤ 1024) (hsm : (ps.length : Int) ≤ g.main) :
    Calls Try.prog 4 #[gameVal g av tv, lineVal mv bv, pv] w (BoolB true w) := by
  have cE := hide (fun X (hX : Below w.heap.size w X) => sexpand_ok g av tv mv bv ms a b X (h.below hX) (hl.below hX) he hm)
  have cS := hide (fun X (d : Int) (hX : Below w.heap.size w X) => spread15_any g av tv ms (a.length : Int) d X (h.below hX))
  obtain ⟨g1, g2, g3, g4, g5, g6, g7, g8⟩ := sysE_ok he
  obtain ⟨f1, f2, f3, f4, f5, f6, f7, f8, f9⟩ := sys_bounds g1
  obtain ⟨K, hK⟩ := Int.eq_ofNat_of_zero_le (show 0 ≤ g.main by omega)
  rw [hK, Int.toNat_natCast] at hm cE
  have na := dupB_no.1 g7
  have k1 : 1 ≤ K := by omega
  have k2 : K ≤ 10 := by omega
  have k3 : K < a.length := by omega
  have a14 : a.length ≤ 14 := by omega
  have hsp : ∀ d : Nat, d ≤ K → spreadE g (a.length : Int) (d : Int) = 0 := by
    intro d hd
    unfold spreadE
    rw [if_neg (by simpa using g1), if_neg (by omega)]
  have cS2 := hide (fun X (d : Nat) (hd : d ≤ K) (hX : Below w.heap.size w X) => (by
    have h9 := cS.out X (d : Int) hX
    rw [hsp d hd, if_pos rfl, hK, Int.toNat_natCast, spread_fnd hK (by omega)] at h9
    exact h9 : Calls Try.prog 15 #[gameVal g av tv, .int .i64 (a.length : Int), .int .i64 (d : Int)] X (ListC ((List.range (K + 1)).map fun h => ((choose d h * choose (a.length - d) (K - h) : Nat) : Int)) 0 X)))
  have psK : ps.length ≤ K := by omega
  obtain ⟨q, hq⟩ : ∃ q, q = choose a.length K := ⟨_, rfl⟩
  have hexl := expL_len (sortI a) (sortI b) K
  rw [sortI_len] at hexl
  rw [← hq] at hm hexl
  obtain ⟨SA, hSA⟩ : ∃ SA, SA = sortI a := ⟨_, rfl⟩
  obtain ⟨SB, hSB⟩ : ∃ SB, SB = sortI b := ⟨_, rfl⟩
  rw [← hSA, ← hSB] at hexl cE
  have hSAl : SA.length = a.length := by rw [hSA]; exact sortI_len a
  have hperm : SA.Perm a := by rw [hSA]; exact sortI_perm a
  obtain ⟨L, hL⟩ : ∃ L, L = expL SA SB K := ⟨_, rfl⟩
  have hget : ∀ r (hr : r < L.length), L[r] = (combS SA K r, SB) := by
    intro r hr
    subst hL
    exact expL_get15 hr
  rw [← hL] at cE hexl
  have hLl := hide hexl
  have hget := hide hget
  have hcl := hide (show ∀ r, r < q → (combS SA K r).length = K from fun r hr => combS_len (by rw [hSAl, ← hq]; exact hr))
  have hrdm := hide (fun X (hX : Below w.heap.size w X) => (hl.below hX).1)
  have hrdp := hide (fun X (hX : Below w.heap.size w X) => (hp.below hX))
  have q2 : (q : Int) ≤ 1024 := by omega
  obtain ⟨aa, ac, rfl, hal, ham⟩ := h.1.1.shape
  obtain ⟨ta, tc, rfl, htl, htm⟩ := h.2.2.shape
  obtain ⟨ma, mc, rfl, hma, hmc, -⟩ := hl.1.form
  obtain ⟨ba, bc, rfl, hba, hbc, -⟩ := hl.2.form
  obtain ⟨pa, pc, rfl, hpa, hpc, -⟩ := hp.form
  obtain ⟨mb, mo, rfl, hmb, -⟩ := Rd.at_ hl.1 (k := 0) (by omega)
  have hpsd : decide ((K : Int) < (ps.length : Int)) = false := decide_eq_false (by omega)
  have hpsn : ¬ (K : Int) < (ps.length : Int) := by omega
  have hpsn2 : ¬ K < ps.length := by omega
  have hpsd2 : decide (K < ps.length) = false := decide_eq_false hpsn2
  have kh := hide hK
  have pc9 : pc ≤ 9223372036854775807 := by unfold maxLen at hpc; omega
  have mc9 : mc ≤ 9223372036854775807 := by unfold maxLen at hmc; omega
  replace hq := hide hq
  replace hSA := hide hSA
  replace hSB := hide hSB
  replace hSAl := hide hSAl
  replace hperm := hide hperm
  replace na := hide na
  replace hL := hide hL
  clear h hl hp he g1 g2 g3 g4 g5 g6 g7 g8 f1 f2 f3 f4 f5 f6 f7 f8 f9 cS hsp hsm hexl hK
  unfold gameVal lineVal at cE ⊢
  unfold gameVal at cS2
  go_enter Try.func4, Try.ntmps4
  go_upto_region 1 with (fail)
  obtain ⟨W, hW⟩ : ∃ W, W = ((w.alloc (Obj.cells #[.string g.name, .int .i64 g.kind, .int .i64 g.price, .int .i64 g.main, .int .i64 g.of, .int .i64 g.bonus, .int .i64 g.bonusOf, .int .i64 g.extra, .int .i64 g.draws, .int .i64 g.system, .int .i64 g.days, .int .i64 g.at_, .int .i64 g.close, .int .i64 g.cancel, .int .i64 g.expiry, .int .i64 g.pool, .int .i64 g.reserve, .int .i64 g.round, .int .i64 g.cap, .int .i64 g.rolls, (.slice aa ms.length ac), (.slice ta g.tiers.length tc)] 25)).alloc (Obj.cells #[(.slice (some ⟨mb, mo, none⟩) a.length mc), (.slice ba b.length bc)] 28)) := ⟨_, rfl⟩
  have bW : Below w.heap.size w W := by rw [hW]; exact Bel.al (Bel.al (Below.refl _ _) _) _
  have r0 : GameAt W (w.heap.size) g ((.slice aa ms.length ac)) ((.slice ta g.tiers.length tc)) := by rw [hW]; exact Row.alloc (Row.new _ _ _) _
  have r1 : LineAt W (w.heap.size + 1) ((.slice (some ⟨mb, mo, none⟩) a.length mc)) ((.slice ba b.length bc)) := by rw [hW]; exact Row.at2 _ _ _ _
  have sW : w.heap.size + 1 < W.heap.size := by rw [hW]; simp
  rw [← hW]
  clear hW
  go_wp2_with (first | (refine wpList_load_row rfl 25 _ rfl _ rfl _ _ _ _ r0 Try.underlying25 rfl (by kernel_rfl) ?_) | (refine wpList_load_row rfl 28 _ rfl _ rfl _ _ _ _ r1 Try.underlying28 rfl (by kernel_rfl) ?_) | fail)
  refine (cE.out _ bW).mono ?_
  rintro e w1 ⟨u, rfl, hu, hb1⟩
  have B1 := Bel.to bW hb1
  have r0 := r0.keep hb1
  have r1 := r1.keep hb1
  obtain ⟨ua, uc, rfl, hc1, hm1⟩ := hu.shape
  rw [hLl.out] at hu hc1 ⊢
  unfold maxLen at hm1
  have d3 : w1.cell? ⟨w.heap.size, 3, none⟩ = some (.int .i64 (K : Int)) := by have := r0.main; rw [kh.out] at this; exact this
  have hown0 : Own I64 w1 w1.heap.size 3 (.slice none 0 0) [] := Own.nil _ _ _
  have hu := hide hu
  clear hb1 bW cE
  go_wp2
  go_loopg [9, 10] ps.length (fun gh v t wr => ∃ (i : Nat) (D : List Int) (ao : Option Addr) (cap : Nat), gh = ps.length - i ∧ i ≤ ps.length ∧ v = .slice ao D.length cap ∧ t = .int .i64 (i : Int) ∧ D.length ≤ 10 ∧ Hid (D.length = i) ∧ Hid (∀ y, timesL D y ≤ 1) ∧ Hid (cntL a D = D.length) ∧ Own I64 wr w1.heap.size 3 (.slice ao D.length cap) D ∧ Below w1.heap.size w1 wr)
  case atStart => exact ⟨0, [], none, 0, rfl, Nat.zero_le _, rfl, rfl, by simp, rfl, fun y => by simp [timesL], cntL_nil2 a, hown0, Below.refl _ _⟩
  case round =>
    obtain ⟨i, D, ao, cap, hgh, hi, rfl, rfl, hD10, hDl, hD1, hDc, hown, hB⟩ := hrel
    clear hown0
    replace hgh := hide hgh
    have BW := Bel.to B1 hB
    by_cases hlt : i < ps.length
    · have hlt2 := hide hlt
      obtain ⟨pb, po, rfl, hpb, hcell⟩ := (hrdp.out wr BW).at_ hlt
      obtain ⟨y, hy⟩ : ∃ y, y = ps[i] := ⟨_, rfl⟩
      have ey : wr.cell? ⟨pb, po + i, none⟩ = some (.int .i64 y) := by rw [hy]; exact hcell i hlt
      have em : wr.cell? ⟨w.heap.size + 1, 0, none⟩ = some (.slice (some ⟨mb, mo, none⟩) a.length mc) := Bel.cellOf hB r1.main
      have i1 : (0 : Int) ≤ (i : Int) := by omega
      have i2 : (i : Int) < (ps.length : Int) := by omega
      clear hy hcell
      have Bd := Bel.to BW (Below.drewSelf wr)
      by_cases hy0 : y < 0
      · have hyd : decide (y < 0) = true := decide_eq_true hy0
        clear hown
        go_upto_region 8 with (fail)
        refine wp_region_held_drew (S := fun X => X.cell? ⟨pb, po + i, none⟩ = some (.int .i64 y) ∧ X.cell? ⟨w.heap.size + 1, 0, none⟩ = some (.slice (some ⟨mb, mo, none⟩) a.length mc)) (by kernel_rfl) (⟨ey, em⟩) (fun hHeld => ?_)
        refine' wpAnyH_take (i := 0) (oi := _) (v := .slice (some ⟨pb, po, none⟩) ps.length pc) rfl (by kernel_rfl) (by kernel_rfl) (by kernel_rfl) (fun _ _ _ h => h) (Or.inl ⟨by first | (go_simp; done) | rfl, fun X _ => by go_simp⟩) hHeld ?_
        try simp only [Act.put, List.setIfInBounds_toArray, List.set_cons_zero, List.set_cons_succ]
        refine' wpAnyH_take (i := 1) (oi := _) (v := .int .i64 (i : Int)) rfl (by kernel_rfl) (by kernel_rfl) (by kernel_rfl) (fun _ _ _ h => h) (Or.inl ⟨by first | (go_simp; done) | rfl, fun X _ => by go_simp⟩) hHeld ?_
        try simp only [Act.put, List.setIfInBounds_toArray, List.set_cons_zero, List.set_cons_succ]
        refine' wpAnyH_take (i := 2) (oi := _) (v := .pointer (some ⟨pb, po + i, none⟩)) rfl (by kernel_rfl) (by kernel_rfl) (by kernel_rfl) (fun _ _ _ h => h) (Or.inl ⟨by first | (go_simp; done) | rfl, fun X _ => by go_simp⟩) hHeld ?_
        try simp only [Act.put, List.setIfInBounds_toArray, List.set_cons_zero, List.set_cons_succ]
        refine' wpAnyH_take (i := 3) (oi := _) (v := .int .i64 y) rfl (by kernel_rfl) (by kernel_rfl) (by kernel_rfl) (fun _ _ _ h => h) (Or.inl ⟨by first | (go_simp; done) | rfl, fun X hX => by have cX := hX.1; go_simp⟩) hHeld ?_
        try simp only [Act.put, List.setIfInBounds_toArray, List.set_cons_zero, List.set_cons_succ]
        refine' wpAnyH_take (i := 4) (oi := _) (v := .bool true) rfl (by kernel_rfl) (by kernel_rfl) (by kernel_rfl) (fun _ _ _ h => h) (Or.inl ⟨by first | (go_simp; done) | rfl, fun X _ => by go_simp⟩) hHeld ?_
        try simp only [Act.put, List.setIfInBounds_toArray, List.set_cons_zero, List.set_cons_succ]
        refine' wpAnyH_take (i := 5) (oi := _) (v := .bool true) rfl (by kernel_rfl) (by kernel_rfl) (by kernel_rfl) (fun _ _ _ h => h) (Or.inl ⟨by first | (go_simp; done) | rfl, fun X _ => by go_simp⟩) hHeld ?_
        try simp only [Act.put, List.setIfInBounds_toArray, List.set_cons_zero, List.set_cons_succ]
        refine' wpAnyH_take (i := 6) (oi := _) (v := undef) rfl (by kernel_rfl) (by kernel_rfl) (by kernel_rfl) (fun _ _ _ h => h) (Or.inr ⟨by first | (go_simp; done) | rfl, rfl⟩) hHeld ?_
        try simp only [Act.put, List.setIfInBounds_toArray, List.set_cons_zero, List.set_cons_succ]
        refine' wpAnyH_take (i := 7) (oi := _) (v := undef) rfl (by kernel_rfl) (by kernel_rfl) (by kernel_rfl) (fun _ _ _ h => h) (Or.inr ⟨by first | (go_simp; done) | rfl, rfl⟩) hHeld ?_
        try simp only [Act.put, List.setIfInBounds_toArray, List.set_cons_zero, List.set_cons_succ]
        refine' wpAnyH_take (i := 8) (oi := _) (v := undef) rfl (by kernel_rfl) (by kernel_rfl) (by kernel_rfl) (fun _ _ _ h => h) (Or.inr ⟨by first | (go_simp; done) | rfl, rfl⟩) hHeld ?_
        try simp only [Act.put, List.setIfInBounds_toArray, List.set_cons_zero, List.set_cons_succ]
        refine' wpAnyH_take (i := 9) (oi := _) (v := undef) rfl (by kernel_rfl) (by kernel_rfl) (by kernel_rfl) (fun _ _ _ h => h) (Or.inr ⟨by first | (go_simp; done) | rfl, rfl⟩) hHeld ?_
        try simp only [Act.put, List.setIfInBounds_toArray, List.set_cons_zero, List.set_cons_succ]
        refine' wpAnyH_take (i := 10) (oi := _) (v := undef) rfl (by kernel_rfl) (by kernel_rfl) (by kernel_rfl) (fun _ _ _ h => h) (Or.inr ⟨by first | (go_simp; done) | rfl, rfl⟩) hHeld ?_
        try simp only [Act.put, List.setIfInBounds_toArray, List.set_cons_zero, List.set_cons_succ]
        refine' wpAnyH_take (i := 11) (oi := _) (v := undef) rfl (by kernel_rfl) (by kernel_rfl) (by kernel_rfl) (fun _ _ _ h => h) (Or.inr ⟨by first | (go_simp; done) | rfl, rfl⟩) hHeld ?_
        try simp only [Act.put, List.setIfInBounds_toArray, List.set_cons_zero, List.set_cons_succ]
        refine' wpAnyH_take (i := 12) (oi := _) (v := undef) rfl (by kernel_rfl) (by kernel_rfl) (by kernel_rfl) (fun _ _ _ h => h) (Or.inr ⟨by first | (go_simp; done) | rfl, rfl⟩) hHeld ?_
        try simp only [Act.put, List.setIfInBounds_toArray, List.set_cons_zero, List.set_cons_succ]
        refine' wpAnyH_take (i := 13) (oi := _) (v := undef) rfl (by kernel_rfl) (by kernel_rfl) (by kernel_rfl) (fun _ _ _ h => h) (Or.inr ⟨by first | (go_simp; done) | rfl, rfl⟩) hHeld ?_
        try simp only [Act.put, List.setIfInBounds_toArray, List.set_cons_zero, List.set_cons_succ]
        refine' wpAnyH_take (i := 14) (oi := _) (v := .bool true) rfl (by kernel_rfl) (by kernel_rfl) (by kernel_rfl) (fun _ _ _ h => h) (Or.inl ⟨by first | (go_simp; done) | rfl, fun X _ => by go_simp⟩) hHeld ?_
        try simp only [Act.put, List.setIfInBounds_toArray, List.set_cons_zero, List.set_cons_succ]
        refine' wpAnyH_take (i := 15) (oi := _) (v := .bool true) rfl (by kernel_rfl) (by kernel_rfl) (by kernel_rfl) (fun _ _ _ h => h) (Or.inl ⟨by first | (go_simp; done) | rfl, fun X _ => by go_simp⟩) hHeld ?_
        try simp only [Act.put, List.setIfInBounds_toArray, List.set_cons_zero, List.set_cons_succ]
        refine' wpAnyH_take (i := 16) (oi := _) (v := undef) rfl (by kernel_rfl) (by kernel_rfl) (by kernel_rfl) (fun _ _ _ h => h) (Or.inr ⟨by first | (go_simp; done) | rfl, rfl⟩) hHeld ?_
        try simp only [Act.put, List.setIfInBounds_toArray, List.set_cons_zero, List.set_cons_succ]
        refine' wpAnyH_take (i := 17) (oi := _) (v := undef) rfl (by kernel_rfl) (by kernel_rfl) (by kernel_rfl) (fun _ _ _ h => h) (Or.inr ⟨by first | (go_simp; done) | rfl, rfl⟩) hHeld ?_
        try simp only [Act.put, List.setIfInBounds_toArray, List.set_cons_zero, List.set_cons_succ]
        refine' wpAnyH_take (i := 18) (oi := _) (v := undef) rfl (by kernel_rfl) (by kernel_rfl) (by kernel_rfl) (fun _ _ _ h => h) (Or.inr ⟨by first | (go_simp; done) | rfl, rfl⟩) hHeld ?_
        try simp only [Act.put, List.setIfInBounds_toArray, List.set_cons_zero, List.set_cons_succ]
        refine' wpAnyH_take (i := 19) (oi := _) (v := undef) rfl (by kernel_rfl) (by kernel_rfl) (by kernel_rfl) (fun _ _ _ h => h) (Or.inr ⟨by first | (go_simp; done) | rfl, rfl⟩) hHeld ?_
        try simp only [Act.put, List.setIfInBounds_toArray, List.set_cons_zero, List.set_cons_succ]
        refine' wpAnyH_take (i := 20) (oi := _) (v := undef) rfl (by kernel_rfl) (by kernel_rfl) (by kernel_rfl) (fun _ _ _ h => h) (Or.inr ⟨by first | (go_simp; done) | rfl, rfl⟩) hHeld ?_
        try simp only [Act.put, List.setIfInBounds_toArray, List.set_cons_zero, List.set_cons_succ]
        refine' wpAnyH_take (i := 21) (oi := _) (v := undef) rfl (by kernel_rfl) (by kernel_rfl) (by kernel_rfl) (fun _ _ _ h => h) (Or.inr ⟨by first | (go_simp; done) | rfl, rfl⟩) hHeld ?_
        try simp only [Act.put, List.setIfInBounds_toArray, List.set_cons_zero, List.set_cons_succ]
        refine' wpAnyH_take (i := 22) (oi := _) (v := undef) rfl (by kernel_rfl) (by kernel_rfl) (by kernel_rfl) (fun _ _ _ h => h) (Or.inr ⟨by first | (go_simp; done) | rfl, rfl⟩) hHeld ?_
        try simp only [Act.put, List.setIfInBounds_toArray, List.set_cons_zero, List.set_cons_succ]
        refine' wpAnyH_take (i := 23) (oi := _) (v := undef) rfl (by kernel_rfl) (by kernel_rfl) (by kernel_rfl) (fun _ _ _ h => h) (Or.inr ⟨by first | (go_simp; done) | rfl, rfl⟩) hHeld ?_
        try simp only [Act.put, List.setIfInBounds_toArray, List.set_cons_zero, List.set_cons_succ]
        refine' wpAnyH_take (i := 24) (oi := _) (v := undef) rfl (by kernel_rfl) (by kernel_rfl) (by kernel_rfl) (fun _ _ _ h => h) (Or.inr ⟨by first | (go_simp; done) | rfl, rfl⟩) hHeld ?_
        try simp only [Act.put, List.setIfInBounds_toArray, List.set_cons_zero, List.set_cons_succ]
        refine' wpAnyH_take (i := 25) (oi := _) (v := undef) rfl (by kernel_rfl) (by kernel_rfl) (by kernel_rfl) (fun _ _ _ h => h) (Or.inr ⟨by first | (go_simp; done) | rfl, rfl⟩) hHeld ?_
        try simp only [Act.put, List.setIfInBounds_toArray, List.set_cons_zero, List.set_cons_succ]
        refine' wpAnyH_take (i := 26) (oi := _) (v := undef) rfl (by kernel_rfl) (by kernel_rfl) (by kernel_rfl) (fun _ _ _ h => h) (Or.inr ⟨by first | (go_simp; done) | rfl, rfl⟩) hHeld ?_
        try simp only [Act.put, List.setIfInBounds_toArray, List.set_cons_zero, List.set_cons_succ]
        refine' wpAnyH_take (i := 27) (oi := _) (v := undef) rfl (by kernel_rfl) (by kernel_rfl) (by kernel_rfl) (fun _ _ _ h => h) (Or.inr ⟨by first | (go_simp; done) | rfl, rfl⟩) hHeld ?_
        try simp only [Act.put, List.setIfInBounds_toArray, List.set_cons_zero, List.set_cons_succ]
        refine' wpAnyH_take (i := 28) (oi := _) (v := .bool true) rfl (by kernel_rfl) (by kernel_rfl) (by kernel_rfl) (fun _ _ _ h => h) (Or.inl ⟨by first | (go_simp; done) | rfl, fun X _ => by go_simp⟩) hHeld ?_
        try simp only [Act.put, List.setIfInBounds_toArray, List.set_cons_zero, List.set_cons_succ]
        refine wpAnyH_done (by kernel_rfl) ?_ _
        go_simp
        clear hHeld
        go_wp2_with fail
        refine (lives15_any _).mono ?_
        rintro e w9 ⟨rfl, hb9⟩
        go_wp2
        go_ret
        exact ⟨rfl, Bel.to Bd hb9⟩
      · have hyd : decide (y < 0) = false := decide_eq_false hy0
        by_cases hya : (a.length : Int) ≤ y
        · have hyd2 : decide ((a.length : Int) ≤ y) = true := decide_eq_true hya
          clear hown
          go_upto_region 8 with (fail)
          refine wp_region_held_drew (S := fun X => X.cell? ⟨pb, po + i, none⟩ = some (.int .i64 y) ∧ X.cell? ⟨w.heap.size + 1, 0, none⟩ = some (.slice (some ⟨mb, mo, none⟩) a.length mc)) (by kernel_rfl) (⟨ey, em⟩) (fun hHeld => ?_)
          refine' wpAnyH_take (i := 0) (oi := _) (v := .slice (some ⟨pb, po, none⟩) ps.length pc) rfl (by kernel_rfl) (by kernel_rfl) (by kernel_rfl) (fun _ _ _ h => h) (Or.inl ⟨by first | (go_simp; done) | rfl, fun X _ => by go_simp⟩) hHeld ?_
          try simp only [Act.put, List.setIfInBounds_toArray, List.set_cons_zero, List.set_cons_succ]
          refine' wpAnyH_take (i := 1) (oi := _) (v := .int .i64 (i : Int)) rfl (by kernel_rfl) (by kernel_rfl) (by kernel_rfl) (fun _ _ _ h => h) (Or.inl ⟨by first | (go_simp; done) | rfl, fun X _ => by go_simp⟩) hHeld ?_
          try simp only [Act.put, List.setIfInBounds_toArray, List.set_cons_zero, List.set_cons_succ]
          refine' wpAnyH_take (i := 2) (oi := _) (v := .pointer (some ⟨pb, po + i, none⟩)) rfl (by kernel_rfl) (by kernel_rfl) (by kernel_rfl) (fun _ _ _ h => h) (Or.inl ⟨by first | (go_simp; done) | rfl, fun X _ => by go_simp⟩) hHeld ?_
          try simp only [Act.put, List.setIfInBounds_toArray, List.set_cons_zero, List.set_cons_succ]
          refine' wpAnyH_take (i := 3) (oi := _) (v := .int .i64 y) rfl (by kernel_rfl) (by kernel_rfl) (by kernel_rfl) (fun _ _ _ h => h) (Or.inl ⟨by first | (go_simp; done) | rfl, fun X hX => by have cX := hX.1; go_simp⟩) hHeld ?_
          try simp only [Act.put, List.setIfInBounds_toArray, List.set_cons_zero, List.set_cons_succ]
          refine' wpAnyH_take (i := 4) (oi := _) (v := .bool false) rfl (by kernel_rfl) (by kernel_rfl) (by kernel_rfl) (fun _ _ _ h => h) (Or.inl ⟨by first | (go_simp; done) | rfl, fun X _ => by go_simp⟩) hHeld ?_
          try simp only [Act.put, List.setIfInBounds_toArray, List.set_cons_zero, List.set_cons_succ]
          refine' wpAnyH_take (i := 5) (oi := _) (v := .bool false) rfl (by kernel_rfl) (by kernel_rfl) (by kernel_rfl) (fun _ _ _ h => h) (Or.inl ⟨by first | (go_simp; done) | rfl, fun X _ => by go_simp⟩) hHeld ?_
          try simp only [Act.put, List.setIfInBounds_toArray, List.set_cons_zero, List.set_cons_succ]
          refine' wpAnyH_take (i := 6) (oi := _) (v := .slice (some ⟨pb, po, none⟩) ps.length pc) rfl (by kernel_rfl) (by kernel_rfl) (by kernel_rfl) (fun _ _ _ h => h) (Or.inl ⟨by first | (go_simp; done) | rfl, fun X _ => by go_simp⟩) hHeld ?_
          try simp only [Act.put, List.setIfInBounds_toArray, List.set_cons_zero, List.set_cons_succ]
          refine' wpAnyH_take (i := 7) (oi := _) (v := .int .i64 (i : Int)) rfl (by kernel_rfl) (by kernel_rfl) (by kernel_rfl) (fun _ _ _ h => h) (Or.inl ⟨by first | (go_simp; done) | rfl, fun X _ => by go_simp⟩) hHeld ?_
          try simp only [Act.put, List.setIfInBounds_toArray, List.set_cons_zero, List.set_cons_succ]
          refine' wpAnyH_take (i := 8) (oi := _) (v := .pointer (some ⟨pb, po + i, none⟩)) rfl (by kernel_rfl) (by kernel_rfl) (by kernel_rfl) (fun _ _ _ h => h) (Or.inl ⟨by first | (go_simp; done) | rfl, fun X _ => by go_simp⟩) hHeld ?_
          try simp only [Act.put, List.setIfInBounds_toArray, List.set_cons_zero, List.set_cons_succ]
          refine' wpAnyH_take (i := 9) (oi := _) (v := .int .i64 y) rfl (by kernel_rfl) (by kernel_rfl) (by kernel_rfl) (fun _ _ _ h => h) (Or.inl ⟨by first | (go_simp; done) | rfl, fun X hX => by have cX := hX.1; go_simp⟩) hHeld ?_
          try simp only [Act.put, List.setIfInBounds_toArray, List.set_cons_zero, List.set_cons_succ]
          refine' wpAnyH_take (i := 10) (oi := _) (v := .pointer (some ⟨w.heap.size + 1, 0, none⟩)) rfl (by kernel_rfl) (by kernel_rfl) (by kernel_rfl) (fun _ _ _ h => h) (Or.inl ⟨by first | (go_simp; done) | rfl, fun X _ => by go_simp⟩) hHeld ?_
          try simp only [Act.put, List.setIfInBounds_toArray, List.set_cons_zero, List.set_cons_succ]
          refine' wpAnyH_take (i := 11) (oi := _) (v := .slice (some ⟨mb, mo, none⟩) a.length mc) rfl (by kernel_rfl) (by kernel_rfl) (by kernel_rfl) (fun _ _ _ h => h) (Or.inl ⟨by first | (go_simp; done) | rfl, fun X hX => by have cX := hX.2; go_simp⟩) hHeld ?_
          try simp only [Act.put, List.setIfInBounds_toArray, List.set_cons_zero, List.set_cons_succ]
          refine' wpAnyH_take (i := 12) (oi := _) (v := .int .i64 (a.length : Int)) rfl (by kernel_rfl) (by kernel_rfl) (by kernel_rfl) (fun _ _ _ h => h) (Or.inl ⟨by first | (go_simp; done) | rfl, fun X _ => by go_simp⟩) hHeld ?_
          try simp only [Act.put, List.setIfInBounds_toArray, List.set_cons_zero, List.set_cons_succ]
          refine' wpAnyH_take (i := 13) (oi := _) (v := .bool true) rfl (by kernel_rfl) (by kernel_rfl) (by kernel_rfl) (fun _ _ _ h => h) (Or.inl ⟨by first | (go_simp; done) | rfl, fun X _ => by go_simp⟩) hHeld ?_
          try simp only [Act.put, List.setIfInBounds_toArray, List.set_cons_zero, List.set_cons_succ]
          refine' wpAnyH_take (i := 14) (oi := _) (v := .bool true) rfl (by kernel_rfl) (by kernel_rfl) (by kernel_rfl) (fun _ _ _ h => h) (Or.inl ⟨by first | (go_simp; done) | rfl, fun X _ => by go_simp⟩) hHeld ?_
          try simp only [Act.put, List.setIfInBounds_toArray, List.set_cons_zero, List.set_cons_succ]
          refine' wpAnyH_take (i := 15) (oi := _) (v := .bool true) rfl (by kernel_rfl) (by kernel_rfl) (by kernel_rfl) (fun _ _ _ h => h) (Or.inl ⟨by first | (go_simp; done) | rfl, fun X _ => by go_simp⟩) hHeld ?_
          try simp only [Act.put, List.setIfInBounds_toArray, List.set_cons_zero, List.set_cons_succ]
          refine' wpAnyH_take (i := 16) (oi := _) (v := undef) rfl (by kernel_rfl) (by kernel_rfl) (by kernel_rfl) (fun _ _ _ h => h) (Or.inr ⟨by first | (go_simp; done) | rfl, rfl⟩) hHeld ?_
          try simp only [Act.put, List.setIfInBounds_toArray, List.set_cons_zero, List.set_cons_succ]
          refine' wpAnyH_take (i := 17) (oi := _) (v := undef) rfl (by kernel_rfl) (by kernel_rfl) (by kernel_rfl) (fun _ _ _ h => h) (Or.inr ⟨by first | (go_simp; done) | rfl, rfl⟩) hHeld ?_
          try simp only [Act.put, List.setIfInBounds_toArray, List.set_cons_zero, List.set_cons_succ]
          refine' wpAnyH_take (i := 18) (oi := _) (v := undef) rfl (by kernel_rfl) (by kernel_rfl) (by kernel_rfl) (fun _ _ _ h => h) (Or.inr ⟨by first | (go_simp; done) | rfl, rfl⟩) hHeld ?_
          try simp only [Act.put, List.setIfInBounds_toArray, List.set_cons_zero, List.set_cons_succ]
          refine' wpAnyH_take (i := 19) (oi := _) (v := undef) rfl (by kernel_rfl) (by kernel_rfl) (by kernel_rfl) (fun _ _ _ h => h) (Or.inr ⟨by first | (go_simp; done) | rfl, rfl⟩) hHeld ?_
          try simp only [Act.put, List.setIfInBounds_toArray, List.set_cons_zero, List.set_cons_succ]
          refine' wpAnyH_take (i := 20) (oi := _) (v := undef) rfl (by kernel_rfl) (by kernel_rfl) (by kernel_rfl) (fun _ _ _ h => h) (Or.inr ⟨by first | (go_simp; done) | rfl, rfl⟩) hHeld ?_
          try simp only [Act.put, List.setIfInBounds_toArray, List.set_cons_zero, List.set_cons_succ]
          refine' wpAnyH_take (i := 21) (oi := _) (v := undef) rfl (by kernel_rfl) (by kernel_rfl) (by kernel_rfl) (fun _ _ _ h => h) (Or.inr ⟨by first | (go_simp; done) | rfl, rfl⟩) hHeld ?_
          try simp only [Act.put, List.setIfInBounds_toArray, List.set_cons_zero, List.set_cons_succ]
          refine' wpAnyH_take (i := 22) (oi := _) (v := undef) rfl (by kernel_rfl) (by kernel_rfl) (by kernel_rfl) (fun _ _ _ h => h) (Or.inr ⟨by first | (go_simp; done) | rfl, rfl⟩) hHeld ?_
          try simp only [Act.put, List.setIfInBounds_toArray, List.set_cons_zero, List.set_cons_succ]
          refine' wpAnyH_take (i := 23) (oi := _) (v := undef) rfl (by kernel_rfl) (by kernel_rfl) (by kernel_rfl) (fun _ _ _ h => h) (Or.inr ⟨by first | (go_simp; done) | rfl, rfl⟩) hHeld ?_
          try simp only [Act.put, List.setIfInBounds_toArray, List.set_cons_zero, List.set_cons_succ]
          refine' wpAnyH_take (i := 24) (oi := _) (v := undef) rfl (by kernel_rfl) (by kernel_rfl) (by kernel_rfl) (fun _ _ _ h => h) (Or.inr ⟨by first | (go_simp; done) | rfl, rfl⟩) hHeld ?_
          try simp only [Act.put, List.setIfInBounds_toArray, List.set_cons_zero, List.set_cons_succ]
          refine' wpAnyH_take (i := 25) (oi := _) (v := undef) rfl (by kernel_rfl) (by kernel_rfl) (by kernel_rfl) (fun _ _ _ h => h) (Or.inr ⟨by first | (go_simp; done) | rfl, rfl⟩) hHeld ?_
          try simp only [Act.put, List.setIfInBounds_toArray, List.set_cons_zero, List.set_cons_succ]
          refine' wpAnyH_take (i := 26) (oi := _) (v := undef) rfl (by kernel_rfl) (by kernel_rfl) (by kernel_rfl) (fun _ _ _ h => h) (Or.inr ⟨by first | (go_simp; done) | rfl, rfl⟩) hHeld ?_
          try simp only [Act.put, List.setIfInBounds_toArray, List.set_cons_zero, List.set_cons_succ]
          refine' wpAnyH_take (i := 27) (oi := _) (v := undef) rfl (by kernel_rfl) (by kernel_rfl) (by kernel_rfl) (fun _ _ _ h => h) (Or.inr ⟨by first | (go_simp; done) | rfl, rfl⟩) hHeld ?_
          try simp only [Act.put, List.setIfInBounds_toArray, List.set_cons_zero, List.set_cons_succ]
          refine' wpAnyH_take (i := 28) (oi := _) (v := .bool true) rfl (by kernel_rfl) (by kernel_rfl) (by kernel_rfl) (fun _ _ _ h => h) (Or.inl ⟨by first | (go_simp; done) | rfl, fun X _ => by go_simp⟩) hHeld ?_
          try simp only [Act.put, List.setIfInBounds_toArray, List.set_cons_zero, List.set_cons_succ]
          refine wpAnyH_done (by kernel_rfl) ?_ _
          go_simp
          clear hHeld
          go_wp2_with fail
          refine (lives15_any _).mono ?_
          rintro e w9 ⟨rfl, hb9⟩
          go_wp2
          go_ret
          exact ⟨rfl, Bel.to Bd hb9⟩
        · have hyd2 : decide ((a.length : Int) ≤ y) = false := decide_eq_false hya
          obtain ⟨y, rfl⟩ := Int.eq_ofNat_of_zero_le (show 0 ≤ y by omega)
          have hyl : y < a.length := by omega
          obtain ⟨mb2, mo2, hme, hmb2, hcm⟩ := (hrdm.out wr BW).at_ hyl
          injection hme with hme
          injection hme with hme1 hme2 _
          subst hme1 hme2
          obtain ⟨x, hx⟩ : ∃ x, x = a[y] := ⟨_, rfl⟩
          have ex : wr.cell? ⟨mb, mo + y, none⟩ = some (.int .i64 x) := by rw [hx]; exact hcm y hyl
          have hxa : x ∈ a := by rw [hx]; exact List.getElem_mem _
          have hx1 := times_one na.out hxa
          have y1 : (0 : Int) ≤ (y : Int) := by omega
          have y2 : (y : Int) < (a.length : Int) := by omega
          clear hx hcm hmb2 hxa
          have hc0 := cntL_one x D
          by_cases hcx : timesL D x = 0
          · rw [hcx] at hc0
            have hcnt := hide (show ((cntL [x] D : Nat) : Int) = 0 by omega)
            have hD1' := hide (timesL_le1 hD1.out hcx)
            have hDc' : Hid (cntL a (D ++ [x]) = (D ++ [x]).length) := by show _ = _; rw [cntL_snoc2, hx1, hDc.out]; simp
            have hDl' : Hid ((D ++ [x]).length = i + 1) := by show _ = _; have := hDl.out; simp; omega
            have hD9 : (D ++ [x]).length ≤ 10 := by have := hDl'.out; omega
            replace hc0 := hide hc0
            replace hcx := hide hcx
            replace hx1 := hide hx1
            go_upto_region 8 with (fail)
            refine wp_region_held_drew (S := fun X => X.cell? ⟨pb, po + i, none⟩ = some (.int .i64 (y : Int)) ∧ X.cell? ⟨w.heap.size + 1, 0, none⟩ = some (.slice (some ⟨mb, mo, none⟩) a.length mc) ∧ X.cell? ⟨mb, mo + y, none⟩ = some (.int .i64 x)) (by kernel_rfl) (⟨ey, em, ex⟩) (fun hHeld => ?_)
            refine' wpAnyH_take (i := 0) (oi := _) (v := .slice (some ⟨pb, po, none⟩) ps.length pc) rfl (by kernel_rfl) (by kernel_rfl) (by kernel_rfl) (fun _ _ _ h => h) (Or.inl ⟨by first | (go_simp; done) | rfl, fun X _ => by go_simp⟩) hHeld ?_
            try simp only [Act.put, List.setIfInBounds_toArray, List.set_cons_zero, List.set_cons_succ]
            refine' wpAnyH_take (i := 1) (oi := _) (v := .int .i64 (i : Int)) rfl (by kernel_rfl) (by kernel_rfl) (by kernel_rfl) (fun _ _ _ h => h) (Or.inl ⟨by first | (go_simp; done) | rfl, fun X _ => by go_simp⟩) hHeld ?_
            try simp only [Act.put, List.setIfInBounds_toArray, List.set_cons_zero, List.set_cons_succ]
            refine' wpAnyH_take (i := 2) (oi := _) (v := .pointer (some ⟨pb, po + i, none⟩)) rfl (by kernel_rfl) (by kernel_rfl) (by kernel_rfl) (fun _ _ _ h => h) (Or.inl ⟨by first | (go_simp; done) | rfl, fun X _ => by go_simp⟩) hHeld ?_
            try simp only [Act.put, List.setIfInBounds_toArray, List.set_cons_zero, List.set_cons_succ]
            refine' wpAnyH_take (i := 3) (oi := _) (v := .int .i64 (y : Int)) rfl (by kernel_rfl) (by kernel_rfl) (by kernel_rfl) (fun _ _ _ h => h) (Or.inl ⟨by first | (go_simp; done) | rfl, fun X hX => by have cX := hX.1; go_simp⟩) hHeld ?_
            try simp only [Act.put, List.setIfInBounds_toArray, List.set_cons_zero, List.set_cons_succ]
            refine' wpAnyH_take (i := 4) (oi := _) (v := .bool false) rfl (by kernel_rfl) (by kernel_rfl) (by kernel_rfl) (fun _ _ _ h => h) (Or.inl ⟨by first | (go_simp; done) | rfl, fun X _ => by go_simp⟩) hHeld ?_
            try simp only [Act.put, List.setIfInBounds_toArray, List.set_cons_zero, List.set_cons_succ]
            refine' wpAnyH_take (i := 5) (oi := _) (v := .bool false) rfl (by kernel_rfl) (by kernel_rfl) (by kernel_rfl) (fun _ _ _ h => h) (Or.inl ⟨by first | (go_simp; done) | rfl, fun X _ => by go_simp⟩) hHeld ?_
            try simp only [Act.put, List.setIfInBounds_toArray, List.set_cons_zero, List.set_cons_succ]
            refine' wpAnyH_take (i := 6) (oi := _) (v := .slice (some ⟨pb, po, none⟩) ps.length pc) rfl (by kernel_rfl) (by kernel_rfl) (by kernel_rfl) (fun _ _ _ h => h) (Or.inl ⟨by first | (go_simp; done) | rfl, fun X _ => by go_simp⟩) hHeld ?_
            try simp only [Act.put, List.setIfInBounds_toArray, List.set_cons_zero, List.set_cons_succ]
            refine' wpAnyH_take (i := 7) (oi := _) (v := .int .i64 (i : Int)) rfl (by kernel_rfl) (by kernel_rfl) (by kernel_rfl) (fun _ _ _ h => h) (Or.inl ⟨by first | (go_simp; done) | rfl, fun X _ => by go_simp⟩) hHeld ?_
            try simp only [Act.put, List.setIfInBounds_toArray, List.set_cons_zero, List.set_cons_succ]
            refine' wpAnyH_take (i := 8) (oi := _) (v := .pointer (some ⟨pb, po + i, none⟩)) rfl (by kernel_rfl) (by kernel_rfl) (by kernel_rfl) (fun _ _ _ h => h) (Or.inl ⟨by first | (go_simp; done) | rfl, fun X _ => by go_simp⟩) hHeld ?_
            try simp only [Act.put, List.setIfInBounds_toArray, List.set_cons_zero, List.set_cons_succ]
            refine' wpAnyH_take (i := 9) (oi := _) (v := .int .i64 (y : Int)) rfl (by kernel_rfl) (by kernel_rfl) (by kernel_rfl) (fun _ _ _ h => h) (Or.inl ⟨by first | (go_simp; done) | rfl, fun X hX => by have cX := hX.1; go_simp⟩) hHeld ?_
            try simp only [Act.put, List.setIfInBounds_toArray, List.set_cons_zero, List.set_cons_succ]
            refine' wpAnyH_take (i := 10) (oi := _) (v := .pointer (some ⟨w.heap.size + 1, 0, none⟩)) rfl (by kernel_rfl) (by kernel_rfl) (by kernel_rfl) (fun _ _ _ h => h) (Or.inl ⟨by first | (go_simp; done) | rfl, fun X _ => by go_simp⟩) hHeld ?_
            try simp only [Act.put, List.setIfInBounds_toArray, List.set_cons_zero, List.set_cons_succ]
            refine' wpAnyH_take (i := 11) (oi := _) (v := .slice (some ⟨mb, mo, none⟩) a.length mc) rfl (by kernel_rfl) (by kernel_rfl) (by kernel_rfl) (fun _ _ _ h => h) (Or.inl ⟨by first | (go_simp; done) | rfl, fun X hX => by have cX := hX.2.1; go_simp⟩) hHeld ?_
            try simp only [Act.put, List.setIfInBounds_toArray, List.set_cons_zero, List.set_cons_succ]
            refine' wpAnyH_take (i := 12) (oi := _) (v := .int .i64 (a.length : Int)) rfl (by kernel_rfl) (by kernel_rfl) (by kernel_rfl) (fun _ _ _ h => h) (Or.inl ⟨by first | (go_simp; done) | rfl, fun X _ => by go_simp⟩) hHeld ?_
            try simp only [Act.put, List.setIfInBounds_toArray, List.set_cons_zero, List.set_cons_succ]
            refine' wpAnyH_take (i := 13) (oi := _) (v := .bool false) rfl (by kernel_rfl) (by kernel_rfl) (by kernel_rfl) (fun _ _ _ h => h) (Or.inl ⟨by first | (go_simp; done) | rfl, fun X _ => by go_simp⟩) hHeld ?_
            try simp only [Act.put, List.setIfInBounds_toArray, List.set_cons_zero, List.set_cons_succ]
            refine' wpAnyH_take (i := 14) (oi := _) (v := .bool false) rfl (by kernel_rfl) (by kernel_rfl) (by kernel_rfl) (fun _ _ _ h => h) (Or.inl ⟨by first | (go_simp; done) | rfl, fun X _ => by go_simp⟩) hHeld ?_
            try simp only [Act.put, List.setIfInBounds_toArray, List.set_cons_zero, List.set_cons_succ]
            refine' wpAnyH_take (i := 15) (oi := _) (v := .bool false) rfl (by kernel_rfl) (by kernel_rfl) (by kernel_rfl) (fun _ _ _ h => h) (Or.inl ⟨by first | (go_simp; done) | rfl, fun X _ => by go_simp⟩) hHeld ?_
            try simp only [Act.put, List.setIfInBounds_toArray, List.set_cons_zero, List.set_cons_succ]
            refine' wpAnyH_take (i := 16) (oi := _) (v := .pointer (some ⟨w.heap.size + 1, 0, none⟩)) rfl (by kernel_rfl) (by kernel_rfl) (by kernel_rfl) (fun _ _ _ h => h) (Or.inl ⟨by first | (go_simp; done) | rfl, fun X _ => by go_simp⟩) hHeld ?_
            try simp only [Act.put, List.setIfInBounds_toArray, List.set_cons_zero, List.set_cons_succ]
            refine' wpAnyH_take (i := 17) (oi := _) (v := .slice (some ⟨mb, mo, none⟩) a.length mc) rfl (by kernel_rfl) (by kernel_rfl) (by kernel_rfl) (fun _ _ _ h => h) (Or.inl ⟨by first | (go_simp; done) | rfl, fun X hX => by have cX := hX.2.1; go_simp⟩) hHeld ?_
            try simp only [Act.put, List.setIfInBounds_toArray, List.set_cons_zero, List.set_cons_succ]
            refine' wpAnyH_take (i := 18) (oi := _) (v := .slice (some ⟨pb, po, none⟩) ps.length pc) rfl (by kernel_rfl) (by kernel_rfl) (by kernel_rfl) (fun _ _ _ h => h) (Or.inl ⟨by first | (go_simp; done) | rfl, fun X _ => by go_simp⟩) hHeld ?_
            try simp only [Act.put, List.setIfInBounds_toArray, List.set_cons_zero, List.set_cons_succ]
            refine' wpAnyH_take (i := 19) (oi := _) (v := .int .i64 (i : Int)) rfl (by kernel_rfl) (by kernel_rfl) (by kernel_rfl) (fun _ _ _ h => h) (Or.inl ⟨by first | (go_simp; done) | rfl, fun X _ => by go_simp⟩) hHeld ?_
            try simp only [Act.put, List.setIfInBounds_toArray, List.set_cons_zero, List.set_cons_succ]
            refine' wpAnyH_take (i := 20) (oi := _) (v := .pointer (some ⟨pb, po + i, none⟩)) rfl (by kernel_rfl) (by kernel_rfl) (by kernel_rfl) (fun _ _ _ h => h) (Or.inl ⟨by first | (go_simp; done) | rfl, fun X _ => by go_simp⟩) hHeld ?_
            try simp only [Act.put, List.setIfInBounds_toArray, List.set_cons_zero, List.set_cons_succ]
            refine' wpAnyH_take (i := 21) (oi := _) (v := .int .i64 (y : Int)) rfl (by kernel_rfl) (by kernel_rfl) (by kernel_rfl) (fun _ _ _ h => h) (Or.inl ⟨by first | (go_simp; done) | rfl, fun X hX => by have cX := hX.1; go_simp⟩) hHeld ?_
            try simp only [Act.put, List.setIfInBounds_toArray, List.set_cons_zero, List.set_cons_succ]
            refine' wpAnyH_take (i := 22) (oi := _) (v := .pointer (some ⟨mb, mo + y, none⟩)) rfl (by kernel_rfl) (by kernel_rfl) (by kernel_rfl) (fun _ _ _ h => h) (Or.inl ⟨by first | (go_simp; done) | rfl, fun X _ => by go_simp⟩) hHeld ?_
            try simp only [Act.put, List.setIfInBounds_toArray, List.set_cons_zero, List.set_cons_succ]
            refine' wpAnyH_take (i := 23) (oi := _) (v := .int .i64 x) rfl (by kernel_rfl) (by kernel_rfl) (by kernel_rfl) (fun _ _ _ h => h) (Or.inl ⟨by first | (go_simp; done) | rfl, fun X hX => by have cX := hX.2.2; go_simp⟩) hHeld ?_
            try simp only [Act.put, List.setIfInBounds_toArray, List.set_cons_zero, List.set_cons_succ]
            refine' wpAnyH_take (i := 25) (oi := _) (v := .slice ao D.length cap) rfl (by kernel_rfl) (by kernel_rfl) (by kernel_rfl) (fun _ _ _ h => h) (Or.inl ⟨by first | (go_simp; done) | rfl, fun X _ => by go_simp⟩) hHeld ?_
            try simp only [Act.put, List.setIfInBounds_toArray, List.set_cons_zero, List.set_cons_succ]
            refine wpAnyH_ready (rs := [24]) (by kernel_rfl) (by simp) ?_
            refine AllReadyH.cons (o := _) rfl (fun K hK => ?_) AllReadyH.nil
            go_simp
            obtain ⟨Y, hY⟩ : ∃ Y, Y = wr.drew.alloc (.cells #[.int .i64 x] 3) := ⟨_, rfl⟩
            have bY0 : Below wr.drew.heap.size wr.drew Y := by rw [hY]; exact Bel.al (Below.refl _ _) _
            have bY : Below wr.heap.size wr Y := Bel.to (Below.drewSelf wr) bY0
            have nY : Rd I64 Y (.slice (some ⟨wr.heap.size, 0, none⟩) 1 1) [x] := by rw [hY]; exact Rd.new [x] rfl rfl (Nat.le_refl _) (by decide) rfl
            first | rw [← hY] | (have hY2 : Y = (wr.alloc (.cells #[.int .i64 x] 3)).drew := hY; rw [← hY2]; clear hY2)
            clear hY
            refine hK.out _ _ (⟨Bel.cellOf bY0 hHeld.1, Bel.cellOf bY0 hHeld.2.1, Bel.cellOf bY0 hHeld.2.2⟩) (fun hHeld => ?_)
            clear hK K
            try simp only [Act.put, List.setIfInBounds_toArray, List.set_cons_zero, List.set_cons_succ]
            have cN := hide (cnt15_any _ _ [x] D Y nY (hown.rd.below bY) (by simp) (by omega))
            rw [hcnt.out] at cN
            refine wpAnyH_ready (rs := [26]) (by kernel_rfl) (by simp) ?_
            refine AllReadyH.cons (o := _) rfl (fun K hK => ?_) AllReadyH.nil
            go_simp
            refine (cN.out).mono ?_
            rintro e w5 ⟨rfl, hb5⟩
            go_wp2_with fail
            refine hK.out _ _ (⟨Bel.cellOf hb5 hHeld.1, Bel.cellOf hb5 hHeld.2.1, Bel.cellOf hb5 hHeld.2.2⟩) (fun hHeld => ?_)
            clear hK K
            try simp only [Act.put, List.setIfInBounds_toArray, List.set_cons_zero, List.set_cons_succ]
            refine' wpAnyH_take (i := 27) (oi := _) (v := .bool false) rfl (by kernel_rfl) (by kernel_rfl) (by kernel_rfl) (fun _ _ _ h => h) (Or.inl ⟨by first | (go_simp; done) | rfl, fun X _ => by go_simp⟩) hHeld ?_
            try simp only [Act.put, List.setIfInBounds_toArray, List.set_cons_zero, List.set_cons_succ]
            refine' wpAnyH_take (i := 28) (oi := _) (v := .bool false) rfl (by kernel_rfl) (by kernel_rfl) (by kernel_rfl) (fun _ _ _ h => h) (Or.inl ⟨by first | (go_simp; done) | rfl, fun X _ => by go_simp⟩) hHeld ?_
            try simp only [Act.put, List.setIfInBounds_toArray, List.set_cons_zero, List.set_cons_succ]
            refine wpAnyH_done (by kernel_rfl) ?_ _
            go_simp
            clear hHeld
            have b5 : Below wr.heap.size wr w5 := Bel.to bY hb5
            have ey := Bel.cellOf b5 ey
            have em := Bel.cellOf b5 em
            have ex := Bel.cellOf b5 ex
            have hown5 := hown.keep b5
            have hB5 := Bel.to hB b5
            obtain ⟨b7, n7, c7, w7, hr7, hown7, b7b⟩ := drawn_step hown5 (by omega) x hB5.size
            rw [app_shut] at hr7
            have hn7 := Rd.len_eq hown7.rd
            subst hn7
            have eya := fun (o : Obj) => cell_alloc ey o
            have hB7 : Below w1.heap.size w1 w7 := hB5.trans b7b
            clear bY bY0 nY cN hb5 hB b5 hown hown5 hB5 BW Bd
            go_wp2
            go_region
            all_goals go_wp2
            all_goals go_roundg (ps.length - (i + 1))
            case measure => have := hgh.out; have := hlt2.out; omega
            case rel => exact ⟨i + 1, D ++ [x], b7, c7, rfl, by have := hlt2.out; omega, by simp, by go_num, hD9, hDl', hD1', hDc', hown7, hB7⟩
          · obtain ⟨t, ht⟩ : ∃ t, timesL D x = t + 1 := ⟨timesL D x - 1, by omega⟩
            rw [ht] at hc0
            have hcnt := hide (show ((cntL [x] D : Nat) : Int) = (t : Int) + 1 by omega)
            have ht1 : decide ((0 : Int) < (t : Int) + 1) = true := decide_eq_true (by omega)
            have ht2 : (0 : Int) < (t : Int) + 1 := by omega
            replace hc0 := hide hc0
            replace hcx := hide hcx
            replace ht := hide ht
            replace hx1 := hide hx1
            go_upto_region 8 with (fail)
            refine wp_region_held_drew (S := fun X => X.cell? ⟨pb, po + i, none⟩ = some (.int .i64 (y : Int)) ∧ X.cell? ⟨w.heap.size + 1, 0, none⟩ = some (.slice (some ⟨mb, mo, none⟩) a.length mc) ∧ X.cell? ⟨mb, mo + y, none⟩ = some (.int .i64 x)) (by kernel_rfl) (⟨ey, em, ex⟩) (fun hHeld => ?_)
            refine' wpAnyH_take (i := 0) (oi := _) (v := .slice (some ⟨pb, po, none⟩) ps.length pc) rfl (by kernel_rfl) (by kernel_rfl) (by kernel_rfl) (fun _ _ _ h => h) (Or.inl ⟨by first | (go_simp; done) | rfl, fun X _ => by go_simp⟩) hHeld ?_
            try simp only [Act.put, List.setIfInBounds_toArray, List.set_cons_zero, List.set_cons_succ]
            refine' wpAnyH_take (i := 1) (oi := _) (v := .int .i64 (i : Int)) rfl (by kernel_rfl) (by kernel_rfl) (by kernel_rfl) (fun _ _ _ h => h) (Or.inl ⟨by first | (go_simp; done) | rfl, fun X _ => by go_simp⟩) hHeld ?_
            try simp only [Act.put, List.setIfInBounds_toArray, List.set_cons_zero, List.set_cons_succ]
            refine' wpAnyH_take (i := 2) (oi := _) (v := .pointer (some ⟨pb, po + i, none⟩)) rfl (by kernel_rfl) (by kernel_rfl) (by kernel_rfl) (fun _ _ _ h => h) (Or.inl ⟨by first | (go_simp; done) | rfl, fun X _ => by go_simp⟩) hHeld ?_
            try simp only [Act.put, List.setIfInBounds_toArray, List.set_cons_zero, List.set_cons_succ]
            refine' wpAnyH_take (i := 3) (oi := _) (v := .int .i64 (y : Int)) rfl (by kernel_rfl) (by kernel_rfl) (by kernel_rfl) (fun _ _ _ h => h) (Or.inl ⟨by first | (go_simp; done) | rfl, fun X hX => by have cX := hX.1; go_simp⟩) hHeld ?_
            try simp only [Act.put, List.setIfInBounds_toArray, List.set_cons_zero, List.set_cons_succ]
            refine' wpAnyH_take (i := 4) (oi := _) (v := .bool false) rfl (by kernel_rfl) (by kernel_rfl) (by kernel_rfl) (fun _ _ _ h => h) (Or.inl ⟨by first | (go_simp; done) | rfl, fun X _ => by go_simp⟩) hHeld ?_
            try simp only [Act.put, List.setIfInBounds_toArray, List.set_cons_zero, List.set_cons_succ]
            refine' wpAnyH_take (i := 5) (oi := _) (v := .bool false) rfl (by kernel_rfl) (by kernel_rfl) (by kernel_rfl) (fun _ _ _ h => h) (Or.inl ⟨by first | (go_simp; done) | rfl, fun X _ => by go_simp⟩) hHeld ?_
            try simp only [Act.put, List.setIfInBounds_toArray, List.set_cons_zero, List.set_cons_succ]
            refine' wpAnyH_take (i := 6) (oi := _) (v := .slice (some ⟨pb, po, none⟩) ps.length pc) rfl (by kernel_rfl) (by kernel_rfl) (by kernel_rfl) (fun _ _ _ h => h) (Or.inl ⟨by first | (go_simp; done) | rfl, fun X _ => by go_simp⟩) hHeld ?_
            try simp only [Act.put, List.setIfInBounds_toArray, List.set_cons_zero, List.set_cons_succ]
            refine' wpAnyH_take (i := 7) (oi := _) (v := .int .i64 (i : Int)) rfl (by kernel_rfl) (by kernel_rfl) (by kernel_rfl) (fun _ _ _ h => h) (Or.inl ⟨by first | (go_simp; done) | rfl, fun X _ => by go_simp⟩) hHeld ?_
            try simp only [Act.put, List.setIfInBounds_toArray, List.set_cons_zero, List.set_cons_succ]
            refine' wpAnyH_take (i := 8) (oi := _) (v := .pointer (some ⟨pb, po + i, none⟩)) rfl (by kernel_rfl) (by kernel_rfl) (by kernel_rfl) (fun _ _ _ h => h) (Or.inl ⟨by first | (go_simp; done) | rfl, fun X _ => by go_simp⟩) hHeld ?_
            try simp only [Act.put, List.setIfInBounds_toArray, List.set_cons_zero, List.set_cons_succ]
            refine' wpAnyH_take (i := 9) (oi := _) (v := .int .i64 (y : Int)) rfl (by kernel_rfl) (by kernel_rfl) (by kernel_rfl) (fun _ _ _ h => h) (Or.inl ⟨by first | (go_simp; done) | rfl, fun X hX => by have cX := hX.1; go_simp⟩) hHeld ?_
            try simp only [Act.put, List.setIfInBounds_toArray, List.set_cons_zero, List.set_cons_succ]
            refine' wpAnyH_take (i := 10) (oi := _) (v := .pointer (some ⟨w.heap.size + 1, 0, none⟩)) rfl (by kernel_rfl) (by kernel_rfl) (by kernel_rfl) (fun _ _ _ h => h) (Or.inl ⟨by first | (go_simp; done) | rfl, fun X _ => by go_simp⟩) hHeld ?_
            try simp only [Act.put, List.setIfInBounds_toArray, List.set_cons_zero, List.set_cons_succ]
            refine' wpAnyH_take (i := 11) (oi := _) (v := .slice (some ⟨mb, mo, none⟩) a.length mc) rfl (by kernel_rfl) (by kernel_rfl) (by kernel_rfl) (fun _ _ _ h => h) (Or.inl ⟨by first | (go_simp; done) | rfl, fun X hX => by have cX := hX.2.1; go_simp⟩) hHeld ?_
            try simp only [Act.put, List.setIfInBounds_toArray, List.set_cons_zero, List.set_cons_succ]
            refine' wpAnyH_take (i := 12) (oi := _) (v := .int .i64 (a.length : Int)) rfl (by kernel_rfl) (by kernel_rfl) (by kernel_rfl) (fun _ _ _ h => h) (Or.inl ⟨by first | (go_simp; done) | rfl, fun X _ => by go_simp⟩) hHeld ?_
            try simp only [Act.put, List.setIfInBounds_toArray, List.set_cons_zero, List.set_cons_succ]
            refine' wpAnyH_take (i := 13) (oi := _) (v := .bool false) rfl (by kernel_rfl) (by kernel_rfl) (by kernel_rfl) (fun _ _ _ h => h) (Or.inl ⟨by first | (go_simp; done) | rfl, fun X _ => by go_simp⟩) hHeld ?_
            try simp only [Act.put, List.setIfInBounds_toArray, List.set_cons_zero, List.set_cons_succ]
            refine' wpAnyH_take (i := 14) (oi := _) (v := .bool false) rfl (by kernel_rfl) (by kernel_rfl) (by kernel_rfl) (fun _ _ _ h => h) (Or.inl ⟨by first | (go_simp; done) | rfl, fun X _ => by go_simp⟩) hHeld ?_
            try simp only [Act.put, List.setIfInBounds_toArray, List.set_cons_zero, List.set_cons_succ]
            refine' wpAnyH_take (i := 15) (oi := _) (v := .bool false) rfl (by kernel_rfl) (by kernel_rfl) (by kernel_rfl) (fun _ _ _ h => h) (Or.inl ⟨by first | (go_simp; done) | rfl, fun X _ => by go_simp⟩) hHeld ?_
            try simp only [Act.put, List.setIfInBounds_toArray, List.set_cons_zero, List.set_cons_succ]
            refine' wpAnyH_take (i := 16) (oi := _) (v := .pointer (some ⟨w.heap.size + 1, 0, none⟩)) rfl (by kernel_rfl) (by kernel_rfl) (by kernel_rfl) (fun _ _ _ h => h) (Or.inl ⟨by first | (go_simp; done) | rfl, fun X _ => by go_simp⟩) hHeld ?_
            try simp only [Act.put, List.setIfInBounds_toArray, List.set_cons_zero, List.set_cons_succ]
            refine' wpAnyH_take (i := 17) (oi := _) (v := .slice (some ⟨mb, mo, none⟩) a.length mc) rfl (by kernel_rfl) (by kernel_rfl) (by kernel_rfl) (fun _ _ _ h => h) (Or.inl ⟨by first | (go_simp; done) | rfl, fun X hX => by have cX := hX.2.1; go_simp⟩) hHeld ?_
            try simp only [Act.put, List.setIfInBounds_toArray, List.set_cons_zero, List.set_cons_succ]
            refine' wpAnyH_take (i := 18) (oi := _) (v := .slice (some ⟨pb, po, none⟩) ps.length pc) rfl (by kernel_rfl) (by kernel_rfl) (by kernel_rfl) (fun _ _ _ h => h) (Or.inl ⟨by first | (go_simp; done) | rfl, fun X _ => by go_simp⟩) hHeld ?_
            try simp only [Act.put, List.setIfInBounds_toArray, List.set_cons_zero, List.set_cons_succ]
            refine' wpAnyH_take (i := 19) (oi := _) (v := .int .i64 (i : Int)) rfl (by kernel_rfl) (by kernel_rfl) (by kernel_rfl) (fun _ _ _ h => h) (Or.inl ⟨by first | (go_simp; done) | rfl, fun X _ => by go_simp⟩) hHeld ?_
            try simp only [Act.put, List.setIfInBounds_toArray, List.set_cons_zero, List.set_cons_succ]
            refine' wpAnyH_take (i := 20) (oi := _) (v := .pointer (some ⟨pb, po + i, none⟩)) rfl (by kernel_rfl) (by kernel_rfl) (by kernel_rfl) (fun _ _ _ h => h) (Or.inl ⟨by first | (go_simp; done) | rfl, fun X _ => by go_simp⟩) hHeld ?_
            try simp only [Act.put, List.setIfInBounds_toArray, List.set_cons_zero, List.set_cons_succ]
            refine' wpAnyH_take (i := 21) (oi := _) (v := .int .i64 (y : Int)) rfl (by kernel_rfl) (by kernel_rfl) (by kernel_rfl) (fun _ _ _ h => h) (Or.inl ⟨by first | (go_simp; done) | rfl, fun X hX => by have cX := hX.1; go_simp⟩) hHeld ?_
            try simp only [Act.put, List.setIfInBounds_toArray, List.set_cons_zero, List.set_cons_succ]
            refine' wpAnyH_take (i := 22) (oi := _) (v := .pointer (some ⟨mb, mo + y, none⟩)) rfl (by kernel_rfl) (by kernel_rfl) (by kernel_rfl) (fun _ _ _ h => h) (Or.inl ⟨by first | (go_simp; done) | rfl, fun X _ => by go_simp⟩) hHeld ?_
            try simp only [Act.put, List.setIfInBounds_toArray, List.set_cons_zero, List.set_cons_succ]
            refine' wpAnyH_take (i := 23) (oi := _) (v := .int .i64 x) rfl (by kernel_rfl) (by kernel_rfl) (by kernel_rfl) (fun _ _ _ h => h) (Or.inl ⟨by first | (go_simp; done) | rfl, fun X hX => by have cX := hX.2.2; go_simp⟩) hHeld ?_
            try simp only [Act.put, List.setIfInBounds_toArray, List.set_cons_zero, List.set_cons_succ]
            refine' wpAnyH_take (i := 25) (oi := _) (v := .slice ao D.length cap) rfl (by kernel_rfl) (by kernel_rfl) (by kernel_rfl) (fun _ _ _ h => h) (Or.inl ⟨by first | (go_simp; done) | rfl, fun X _ => by go_simp⟩) hHeld ?_
            try simp only [Act.put, List.setIfInBounds_toArray, List.set_cons_zero, List.set_cons_succ]
            refine wpAnyH_ready (rs := [24]) (by kernel_rfl) (by simp) ?_
            refine AllReadyH.cons (o := _) rfl (fun K hK => ?_) AllReadyH.nil
            go_simp
            obtain ⟨Y, hY⟩ : ∃ Y, Y = wr.drew.alloc (.cells #[.int .i64 x] 3) := ⟨_, rfl⟩
            have bY0 : Below wr.drew.heap.size wr.drew Y := by rw [hY]; exact Bel.al (Below.refl _ _) _
            have bY : Below wr.heap.size wr Y := Bel.to (Below.drewSelf wr) bY0
            have nY : Rd I64 Y (.slice (some ⟨wr.heap.size, 0, none⟩) 1 1) [x] := by rw [hY]; exact Rd.new [x] rfl rfl (Nat.le_refl _) (by decide) rfl
            first | rw [← hY] | (have hY2 : Y = (wr.alloc (.cells #[.int .i64 x] 3)).drew := hY; rw [← hY2]; clear hY2)
            clear hY
            refine hK.out _ _ (⟨Bel.cellOf bY0 hHeld.1, Bel.cellOf bY0 hHeld.2.1, Bel.cellOf bY0 hHeld.2.2⟩) (fun hHeld => ?_)
            clear hK K
            try simp only [Act.put, List.setIfInBounds_toArray, List.set_cons_zero, List.set_cons_succ]
            have cN := hide (cnt15_any _ _ [x] D Y nY (hown.rd.below bY) (by simp) (by omega))
            rw [hcnt.out] at cN
            refine wpAnyH_ready (rs := [26]) (by kernel_rfl) (by simp) ?_
            refine AllReadyH.cons (o := _) rfl (fun K hK => ?_) AllReadyH.nil
            go_simp
            refine (cN.out).mono ?_
            rintro e w5 ⟨rfl, hb5⟩
            go_wp2_with fail
            refine hK.out _ _ (⟨Bel.cellOf hb5 hHeld.1, Bel.cellOf hb5 hHeld.2.1, Bel.cellOf hb5 hHeld.2.2⟩) (fun hHeld => ?_)
            clear hK K
            try simp only [Act.put, List.setIfInBounds_toArray, List.set_cons_zero, List.set_cons_succ]
            refine' wpAnyH_take (i := 27) (oi := _) (v := .bool true) rfl (by kernel_rfl) (by kernel_rfl) (by kernel_rfl) (fun _ _ _ h => h) (Or.inl ⟨by first | (go_simp; done) | rfl, fun X _ => by go_simp⟩) hHeld ?_
            try simp only [Act.put, List.setIfInBounds_toArray, List.set_cons_zero, List.set_cons_succ]
            refine' wpAnyH_take (i := 28) (oi := _) (v := .bool true) rfl (by kernel_rfl) (by kernel_rfl) (by kernel_rfl) (fun _ _ _ h => h) (Or.inl ⟨by first | (go_simp; done) | rfl, fun X _ => by go_simp⟩) hHeld ?_
            try simp only [Act.put, List.setIfInBounds_toArray, List.set_cons_zero, List.set_cons_succ]
            refine wpAnyH_done (by kernel_rfl) ?_ _
            go_simp
            have B5 := Bel.to BW (Bel.to bY hb5)
            clear bY bY0 nY cN
            clear hHeld
            go_wp2_with fail
            refine (lives15_any _).mono ?_
            rintro e w9 ⟨rfl, hb9⟩
            go_wp2
            go_ret
            exact ⟨rfl, Bel.to B5 hb9⟩
    · have hin : i = ps.length := by omega
      have hDl2 : D.length ≤ K := by have := hDl.out; omega
      have hrdD := hown.rd
      have r0 := r0.keep hB
      have r1 := r1.keep hB
      have d3 : wr.cell? ⟨w.heap.size, 3, none⟩ = some (.int .i64 (K : Int)) := by have := r0.main; rw [kh.out] at this; exact this
      have em := r1.main
      have hu := hide (hu.out.below hB)
      have hi2 : ¬ (i : Int) < (ps.length : Int) := by omega
      replace hin := hide hin
      clear hown hB hlt hgh
      go_wp2_with (first | (refine wpList_load_row rfl 25 _ rfl _ rfl _ _ _ _ r0 Try.underlying25 rfl (by kernel_rfl) ?_) | fail)
      refine (cS2.out _ D.length hDl2 BW).mono ?_
      rintro e w2 ⟨sv, rfl, hsv, hb2⟩
      obtain ⟨s1, s2, s3, rfl⟩ := Rd.shape hsv
      have hs2 : s2 = K + 1 := by rw [Rd.len_eq hsv]; simp
      subst hs2
      have B2 := Bel.to BW hb2
      have d3 := Bel.cellOf hb2 d3
      have hu := hide (hu.out.below hb2)
      have hrdD := hide (hrdD.below hb2)
      have hsv := hide hsv
      have zK : (((K : Int) + 1) != ((K : Int) + 1)) = false := by simp
      have zN : (((K + 1 : Nat) : Int) != ((K : Int) + 1)) = false := by simp
      obtain ⟨gF, hgF⟩ : ∃ gF, gF = w2.heap.size := ⟨_, rfl⟩
      clear hb2 BW r0 r1 em
      have d3b := d3
      go_wp2_with (with_reducible refine wpList_make_row _ rfl _ _ 26 rfl 3 (.int .i64 0) 8 Try.underlying26 infoInt rfl .i64 .i64 _ _ (K + 1) (K + 1) rfl rfl (by omega) (by omega) (Nat.le_refl _) (by omega) (by omega) ?_; intro w3 hrow3 hb3 hz3)
      have hrow0 := rdZero hrow3
      rw [← fndL_zero SA D K, ← hgF] at hrow0
      rw [← hgF]
      have hb3' : Below gF w2 w3 := by rw [hgF]; exact hb3
      have hgw : w.heap.size < gF := by rw [hgF]; exact World.block_lt_of_cell? w2 _ d3b
      have zs3 : gF + 1 ≤ w3.heap.size := by omega
      clear hb3 hz3 hrow3
      replace hgF := hide hgF
      have d3 : w3.cell? ⟨w.heap.size, 3, none⟩ = some (.int .i64 (K : Int)) := (hb3'.cell hgw).trans d3b
      go_wp2
      go_loopg [14, 15] q (fun gh t z wr => ∃ (r : Nat), gh = q - r ∧ r ≤ q ∧ t = .int .i64 (r : Int) ∧ Row wr gF 3 ((fndL SA D K r).map I64) ∧ Below gF w2 wr)
      case atStart => exact ⟨0, rfl, Nat.zero_le _, rfl, hrow0, hb3'⟩
      case round =>
        clear hrow0 hb3' d3 zs3
        obtain ⟨r, hgr, hr, rfl, hrow, hB⟩ := hrel
        replace hgr := hide hgr
        have hBs : Below w2.heap.size w2 wr := by rw [← hgF.out]; exact hB
        have d3 : wr.cell? ⟨w.heap.size, 3, none⟩ = some (.int .i64 (K : Int)) := (hB.cell hgw).trans d3b
        by_cases hrq : r < q
        · have hrq2 := hide hrq
          have hlk : r < L.length := by rw [hLl.out]; exact hrq
          obtain ⟨b1, off1, p, q', rfl, hbb, x1, y1, hlr⟩ := (hu.out.below hBs).at_ hlk
          rw [hget.out r hlk] at hlr
          simp only [] at hlr
          have hlp := hlr.1
          clear hlr y1
          obtain ⟨p1, p2, p3, rfl⟩ := Rd.shape hlp
          have hp2 : p2 = K := by rw [Rd.len_eq hlp]; exact hcl.out r hrq
          subst hp2
          have hcn := hide (fun Y (hY : Below wr.heap.size wr Y) => hide (cnt15_any _ _ (combS SA p2 r) D Y (hlp.below hY) (hrdD.out.below (Bel.to hBs hY)) (by rw [hcl.out r hrq]; omega) (by omega)))
          have hle := cntL_le1 hD1.out (combS SA p2 r)
          rw [hcl.out r hrq] at hle
          obtain ⟨hh, hhe⟩ : ∃ hh, hh = cntL (combS SA p2 r) D := ⟨_, rfl⟩
          rw [← hhe] at hcn hle
          have hhl : hh < (fndL SA D p2 r).length := by rw [fndL_len]; omega
          have e1 := hrow.cellV hhl
          have e3 := hrow.frozen hh
          obtain ⟨v0, v1⟩ := fndL_le SA D p2 r hh hhl
          have hst := fndL_step SA D p2 r hh hhl hhe.symm
          obtain ⟨v, hv⟩ : ∃ v, v = (fndL SA D p2 r)[hh] := ⟨_, rfl⟩
          rw [← hv] at e1 v0 v1 hst
          have hnw := hide (fun Y (hY : Below wr.heap.size wr Y) => (hst ▸ (Row.keep hrow hY).setV (V := I64) hh (v + 1) : Row (Y.setCell ⟨gF, hh, none⟩ (.int .i64 (v + 1))) gF 3 ((fndL SA D p2 (r + 1)).map I64)))
          have zq : ((p2 : Int) != (p2 : Int)) = false := by simp
          have zh : ¬ (p2 : Int) < (hh : Int) := by omega
          have zhd : decide ((p2 : Int) < (hh : Int)) = false := decide_eq_false zh
          have r1' : (0 : Int) ≤ (r : Int) := by omega
          have r2' : (r : Int) < (q : Int) := by omega
          have v3 : v ≤ 1024 := by omega
          have h1' : (hh : Int) < (p2 : Int) + 1 := by omega
          have h0' : (0 : Int) ≤ (hh : Int) := by omega
          have hszg : gF < wr.heap.size := hrow.lt
          replace hhe := hide hhe
          replace hst := hide hst
          replace hv := hide hv
          replace hrq := hide hrq
          clear hle v1 hlp hBs hrow
          go_wp2
          go_quiet (fail)
          go_wp2_with fail
          refine (hcn.out _ (Bel.drN (Below.refl _ wr) _)).out.mono ?_
          rintro e w5 ⟨rfl, hb5⟩
          have b5 : Below wr.heap.size wr w5 := Bel.to (Bel.drN (Below.refl _ wr) _) hb5
          have e1 := Bel.cellOf b5 e1
          have e3 := Bel.frozenOf b5 ‹wr.cell? ⟨gF, hh, none⟩ = _› e3
          have d3 := Bel.cellOf b5 d3
          have hn9 := hnw.out w5 b5
          have B9 : Below gF w2 (w5.setCell ⟨gF, hh, none⟩ (.int .i64 (v + 1))) := (hB.trans (b5.mono (by omega))).setCell (p := ⟨gF, hh, none⟩) (Nat.le_refl _) _
          clear hb5 hnw hB hcn
          go_wp2
          go_roundg (q - (r + 1))
          case measure => have := hgr.out; have := hrq2.out; omega
          case rel => exact ⟨r + 1, rfl, by have := hrq2.out; omega, by go_num, hn9, B9⟩
        · have hrr : r = q := by omega
          have hall := fndL_all hD1.out SA K (by rw [cntL_perm hperm.out]; exact hDc.out)
          rw [hSAl.out, ← hq.out, ← hrr] at hall
          have hrdF : Rd I64 wr (.slice (some ⟨gF, 0, none⟩) (K + 1) (K + 1)) (fndL SA D K r) := hrow.rdAll (by rw [fndL_len]) (Nat.le_refl _) (by omega)
          rw [hall] at hrdF
          have cI := hide (sameInts15_id _ _ _ wr hrdF (hsv.out.below hBs))
          have BW2 := Bel.to B2 hBs
          have hr2 : ¬ (r : Int) < (q : Int) := by omega
          replace hrr := hide hrr
          clear hall hrdF hrow hB hBs hrq
          go_wp2_with fail
          refine cI.out.mono ?_
          rintro e w6 ⟨rfl, hb6⟩
          go_wp2_with fail
          refine (lives15_any _).mono ?_
          rintro e w7 ⟨rfl, hb7⟩
          go_wp2
          go_ret
          exact ⟨rfl, Bel.to (Bel.to BW2 hb6) hb7⟩

theorem covers15_any (g : GameD) (av tv mv bv : Value) (ms : List AddonM) (a b : List Int) (pv : Value) (ps : List Int) (w : World) (h : GameR w av tv ms g) (hl : LineR w mv bv a b) (hp : Rd I64 w pv ps) :
    Calls Try.prog 4 #[gameVal g av tv, lineVal mv bv, pv] w (BoolB true w) := by
  by_cases he : (expP g a b).2 = 0
  · unfold expP at he
    by_cases h1 : sysE g a b = 0
    · rw [if_neg (by simpa using h1)] at he
      by_cases h2 : 1024 < choose a.length g.main.toNat
      · rw [if_pos h2] at he; exact absurd he (by simp)
      · by_cases h3 : g.main < (ps.length : Int)
        · exact covers15_big g av tv mv bv pv ms a b ps w h hl hp h1 (by omega) h3
        · exact covers15_ok g av tv mv bv pv ms a b ps w h hl hp h1 (by omega) (by omega)
    · rw [if_pos h1] at he; exact absurd he h1
  · exact covers15_no g av tv mv bv pv ms a b ps w h hl hp he
end Go.Proofs.Ytgmbnbdbmkdlgaa
end

section
/- SystemCovers: for every input the Go function lotterylaw15.SystemCovers returns true, and each argument reads afterwards as before. Conditions: none. -/
namespace Go.Proofs.Ytgmbnbdbmkdlgaa.systemCovers
open Go.ChangeShapes Go.WideShapes Go.ChangeAt Go.RowKit
set_option linter.unusedVariables false

theorem own : ownKnob Try.prog.godebug = none := by kernel_rfl
theorem laidOut : laidOutB Try.prog = true := by kernel_rfl

set_option maxRecDepth 100000 in
theorem lifted (os : Os) (started : os.Started) (H : Type) (enc : TypeId × Value → H) :
    ReturnsInHanded {} Try.checked os 4 .any (Rows.systemCoversSpec.pre6 enc Try.prog Try.f4 Rows.systemCoversRow.domain false) (Rows.systemCoversSpec.post enc Try.prog Try.f4 false true false false) := by
  refine returnsInHanded_of_change (C := Try.checked) own started (by kernel_rfl) Try.func4
    (ChangeSpec.witness6 (enc := enc) (C := Try.checked) false ⟨#[], #[.agg #[.string ⟨#[]⟩, .int .i64 0, .int .i64 0, .int .i64 0, .int .i64 0, .int .i64 0, .int .i64 0, .int .i64 0, .int .i64 0, .int .i64 0, .int .i64 0, .int .i64 0, .int .i64 0, .int .i64 0, .int .i64 0, .int .i64 0, .int .i64 0, .int .i64 0, .int .i64 0, .int .i64 0, .slice none 0 0, .slice none 0 0], .agg #[.slice none 0 0, .slice none 0 0], .slice none 0 0], []⟩ 8 (by kernel_rfl) (by kernel_rfl) (by kernel_rfl) (by kernel_rfl)) ?_
  intro W base args ds gs before hval0 hW hcnd _
  have hval : ∀ (j : Nat) t v, Try.f4.params[j]? = some t → args[j]? = some v → Value.okWide Try.prog W .any base t v := hval0
  have hW' := hW
  obtain ⟨p, q, hA0, hV, rfl, hfz, hnd⟩ := hW
  have hA : DataW.TrodAll enc Try.prog W 0 (fun _ => true) true Try.f4.params.toList args.toList ds p := hA0
  rw [Try.params4] at hA hval
  obtain ⟨v0, vs0, d0, ds0, p0, q0, hargs, rfl, rfl, h0, r0⟩ := trodAll_cons hA
  obtain ⟨v1, vs1, d1, ds1, p1, q1, rfl, rfl, rfl, h1, r1⟩ := trodAll_cons r0
  obtain ⟨v2, vs2, d2, ds2, p2, q2, rfl, rfl, rfl, h2, r2⟩ := trodAll_cons r1
  obtain ⟨rfl, rfl, rfl⟩ := trodAll_nil r2
  obtain rfl : args = #[v0, v1, v2] := by cases args; simp_all
  obtain ⟨rfl, rfl⟩ := trodVars_none hV
  obtain ⟨cs0, rfl, hsz0⟩ := okWide_struct Try.underlying25 (hval 0 25 v0 rfl rfl)
  have k0 := h0
  have lt0 : ∀ x ∈ p0, x.block < W.heap.size := by obtain ⟨m, hm⟩ := k0; exact DataW.trod_lt m _ _ _ hm
  obtain ⟨g0, av0, tv0, ms0, eg0, rg0⟩ := game_trod h0
  rw [eg0] at k0 hW' ⊢
  obtain ⟨cs1, rfl, hsz1⟩ := okWide_struct Try.underlying28 (hval 1 28 v1 rfl rfl)
  have k1 := h1
  have lt1 : ∀ x ∈ p1, x.block < W.heap.size := by obtain ⟨m, hm⟩ := k1; exact DataW.trod_lt m _ _ _ hm
  obtain ⟨mv1, bv1, la1, lb1, eg1, rg1⟩ := line_trod h1
  rw [eg1] at k1 hW' ⊢
  obtain ⟨a2, len2, cap2, rfl⟩ := okWide_slice Try.underlying26 (hval 2 26 v2 rfl rfl)
  have k2 := h2
  have lt2 : ∀ x ∈ p2, x.block < W.heap.size := by obtain ⟨m, hm⟩ := k2; exact DataW.trod_lt m _ _ _ hm
  obtain ⟨z2, w2⟩ := rd_of_trod Try.underlying26 Try.underlying3 (by kernel_rfl) h2
  clear hA0 hval0
  refine (covers15_any g0 av0 tv0 mv1 bv1 ms0 la1 lb1 _ z2 W rg0 rg1 w2).mono fun e W' ⟨he, bel⟩ => ?_
  subst he
  exact ⟨_, rfl, _, _, _, [], _, [], hW', trodAll_mk1 (shut_bool Try.underlying4 _), (trodAll_cons_mk (Below.trod laidOut (by kernel_rfl) (of_decide_eq_true (by kernel_rfl)) k0 bel lt0) (trodAll_cons_mk (Below.trod laidOut (by kernel_rfl) (of_decide_eq_true (by kernel_rfl)) k1 bel lt1) (trodAll_cons_mk (Below.trod laidOut (by kernel_rfl) (of_decide_eq_true (by kernel_rfl)) k2 bel lt2) trodAll_mk0))), rfl, bel.frame _, fun h => by cases h⟩

theorem over : Rows.systemCoversRow.holds Try.pinned (OpenSpec.ofChange Rows.systemCoversSpec) :=
  OpenClaim.holds_of_wide 4 Try.f4 rfl rfl rfl rfl rfl rfl rfl ⟨rfl, rfl, rfl, rfl, rfl⟩ rfl rfl rfl rfl rfl (by kernel_rfl) Try.func4 (by kernel_rfl)
    (of_decide_eq_true (by kernel_rfl)) (by unfold Func.isWrapper; first | (rw [if_pos (by decide +kernel)]; kernel_rfl) | (rw [if_neg (by decide +kernel)]; exact ⟨rfl, rfl⟩))
    (fun os started H enc _ => lifted os started H enc)

theorem proved : Rows.SystemCoversSaid := over
#print axioms proved
end Go.Proofs.Ytgmbnbdbmkdlgaa.systemCovers
end

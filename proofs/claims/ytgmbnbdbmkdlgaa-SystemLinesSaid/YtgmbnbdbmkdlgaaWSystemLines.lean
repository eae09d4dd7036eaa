/- SystemLines: for every input the Go function lotterylaw15.SystemLines returns true, and each argument reads afterwards as before. Conditions: none. -/
import Derived.BigQuiet
import Derived.Test.YtgmbnbdbmkdlgaaRows
import Derived.WalkKit
import Derived.ProofKit
import Derived.OpenShut
import Derived.ChangeOld
import Derived.Below
import Derived.Test.YtgmbnbdbmkdlgaaGLine
import Derived.Test.YtgmbnbdbmkdlgaaGRule
import Derived.Test.YtgmbnbdbmkdlgaaGSysB
import Derived.Test.YtgmbnbdbmkdlgaaGNat
import Derived.Test.YtgmbnbdbmkdlgaaGSysA
import Derived.Test.YtgmbnbdbmkdlgaaGTrod

section
/- lotteryref15.SameLine, Same: lists of lines. No condition. -/
open Go.RowKit
set_option linter.unusedVariables false
set_option linter.unusedSimpArgs false
namespace Go.Proofs.Ytgmbnbdbmkdlgaa

set_option maxHeartbeats 2000000 in
set_option maxRecDepth 100000 in
theorem line15_any (m1 b1 m2 b2 : Value) (a b c d : List Int) (w : World) (h1 : LineR w m1 b1 a b) (h2 : LineR w m2 b2 c d) :
    Calls Try.prog 34 #[lineVal m1 b1, lineVal m2 b2] w (BoolB (decide (a = c ∧ b = d)) w) := by
  have cA := hide (fun X (hX : Below w.heap.size w X) => sameInts15 m1 m2 a c X (h1.1.below hX) (h2.1.below hX))
  have cB := hide (fun X (hX : Below w.heap.size w X) => sameInts15 b1 b2 b d X (h1.2.below hX) (h2.2.below hX))
  obtain ⟨s1, n1, k1, rfl⟩ := Rd.shape h1.1
  obtain ⟨s2, n2, k2, rfl⟩ := Rd.shape h1.2
  obtain ⟨s3, n3, k3, rfl⟩ := Rd.shape h2.1
  obtain ⟨s4, n4, k4, rfl⟩ := Rd.shape h2.2
  clear h1 h2
  obtain ⟨p, hp⟩ : ∃ p, p = decide (a = c) := ⟨_, rfl⟩
  obtain ⟨q, hq⟩ : ∃ q, q = decide (b = d) := ⟨_, rfl⟩
  have hr : decide (a = c ∧ b = d) = (p && q) := by rw [hp, hq, Bool.decide_and]
  rw [hr]
  rw [← hp] at cA
  rw [← hq] at cB
  clear hp hq hr
  unfold lineVal
  go_enter Try.func34, Try.ntmps34
  go_upto_region 1 with (fail)
  obtain ⟨W, hW⟩ : ∃ W, W = ((w.alloc (Obj.cells #[(.slice s1 n1 k1), (.slice s2 n2 k2)] 28)).alloc (Obj.cells #[(.slice s3 n3 k3), (.slice s4 n4 k4)] 28)) := ⟨_, rfl⟩
  have bW : Below w.heap.size w W := by rw [hW]; exact Bel.al (Bel.al (Below.refl _ _) _) _
  have r0 : LineAt W (w.heap.size) ((.slice s1 n1 k1)) ((.slice s2 n2 k2)) := by rw [hW]; exact Row.alloc (Row.new _ _ _) _
  have r1 : LineAt W (w.heap.size + 1) ((.slice s3 n3 k3)) ((.slice s4 n4 k4)) := by rw [hW]; exact Row.at2 _ _ _ _
  have sW : w.heap.size + 1 < W.heap.size := by rw [hW]; simp
  rw [← hW]
  clear hW
  have c0 := r0.main
  have c2 := r1.main
  go_wp2_with fail
  refine (cA.out _ bW).mono ?_
  rintro e w1 ⟨rfl, hb1⟩
  have d1 := (r0.keep hb1).bonus
  have d3 := (r1.keep hb1).bonus
  have B1 := Bel.to bW hb1
  clear c0 c2 r0 r1 hb1
  cases p
  · go_wp2
    go_ret
    exact ⟨rfl, B1⟩
  · go_wp2_with fail
    refine (cB.out _ B1).mono ?_
    rintro e w2 ⟨rfl, hb2⟩
    go_wp2
    go_ret
    exact ⟨rfl, Bel.to B1 hb2⟩

/-- Two lines of the same numbers. -/
theorem line15_self (m1 b1 m2 b2 : Value) (a b : List Int) (w : World) (h1 : LineR w m1 b1 a b) (h2 : LineR w m2 b2 a b) :
    Calls Try.prog 34 #[lineVal m1 b1, lineVal m2 b2] w (BoolB true w) := by
  have := line15_any m1 b1 m2 b2 a b a b w h1 h2
  rwa [show decide (a = a ∧ b = b) = true by simp] at this

theorem rangeAt_keep15 {X Y : World} {b off : Nat} {cs : List Value} (h : X.rangeAt b off cs) (hb : Below X.heap.size X Y) : Y.rangeAt b off cs := fun j v hv => Bel.cellOf hb (h j v hv)

set_option maxHeartbeats 4000000 in
set_option maxRecDepth 100000 in
/-- Two lists of the same lines. -/
theorem same15_self (va vb : Value) (ls : List LineD) (w : World) (ha : LinesR w va ls) (hb : LinesR w vb ls) : Calls Try.prog 12 #[va, vb] w (BoolB true w) := by
  obtain ⟨n, hn⟩ : ∃ n, n = ls.length := ⟨_, rfl⟩
  obtain ⟨a1, c1, rfl, hc1, hm1⟩ := ha.shape
  obtain ⟨a2, c2, rfl, hc2, hm2⟩ := hb.shape
  rw [← hn] at ha hb hc1 hc2 ⊢
  unfold maxLen at hm1 hm2
  have hn9 : n ≤ 9223372036854775807 := by omega
  have hha := hide ha
  have hhb := hide hb
  replace hn := hide hn
  clear ha hb
  go_enter Try.func12, Try.ntmps12
  go_wp2
  go_loopg [5] n (fun gh t wr => ∃ k : Nat, gh = n - k ∧ k ≤ n ∧ t = .int .i64 (k : Int) ∧ Below w.heap.size w wr)
  case atStart => exact ⟨0, rfl, Nat.zero_le _, rfl, Below.refl _ _⟩
  case round =>
    obtain ⟨k, hgh, hk, rfl, hB⟩ := hrel
    replace hgh := hide hgh
    by_cases hlt : k < n
    · have hlt2 := hide hlt
      have hlk : k < ls.length := by rw [← hn.out]; exact hlt
      obtain ⟨b1, off1, p1, q1, rfl, hb1, x1, y1, l1⟩ := (hha.out.below hB).at_ hlk
      obtain ⟨b2, off2, p2, q2, rfl, hb2, x2, y2, l2⟩ := (hhb.out.below hB).at_ hlk
      have g1 : wr.rangeAt b1 (off1 + k * 2) [p1, q1] := by
        intro j v hv
        match j, hv with
        | 0, hv => simp at hv; subst hv; exact x1
        | 1, hv => simp at hv; subst hv; exact y1
      have g2 : wr.rangeAt b2 (off2 + k * 2) [p2, q2] := by
        intro j v hv
        match j, hv with
        | 0, hv => simp at hv; subst hv; exact x2
        | 1, hv => simp at hv; subst hv; exact y2
      have cS := hide (line15_self p1 q1 p2 q2 ls[k].1 ls[k].2 wr.drew l1 l2)
      unfold lineVal at cS
      have j1 : (0 : Int) ≤ (k : Int) := by omega
      have j2 : (k : Int) < (n : Int) := by omega
      clear l1 l2 x1 x2 y1 y2
      go_upto_region 6 with (fail)
      refine wp_region_held_drew (S := fun X => X.rangeAt b1 (off1 + k * 2) [p1, q1] ∧ X.rangeAt b2 (off2 + k * 2) [p2, q2]) (by kernel_rfl) (⟨g1, g2⟩) (fun hHeld => ?_)
      refine' wpAnyH_take (i := 0) (oi := _) (v := .slice (some ⟨b1, off1, none⟩) n c1) rfl (by kernel_rfl) (by kernel_rfl) (by kernel_rfl) (fun _ _ _ h => h) (Or.inl ⟨by rfl, fun X _ => by go_simp⟩) hHeld ?_
      try simp only [Act.put, List.setIfInBounds_toArray, List.set_cons_zero, List.set_cons_succ]
      refine' wpAnyH_take (i := 1) (oi := _) (v := .int .i64 (k : Int)) rfl (by kernel_rfl) (by kernel_rfl) (by kernel_rfl) (fun _ _ _ h => h) (Or.inl ⟨by rfl, fun X _ => by go_simp⟩) hHeld ?_
      try simp only [Act.put, List.setIfInBounds_toArray, List.set_cons_zero, List.set_cons_succ]
      refine' wpAnyH_take (i := 2) (oi := _) (v := .pointer (some ⟨b1, off1 + k * 2, none⟩)) rfl (by kernel_rfl) (by kernel_rfl) (by kernel_rfl) (fun _ _ _ h => h) (Or.inl ⟨by rfl, fun X _ => by go_simp⟩) hHeld ?_
      try simp only [Act.put, List.setIfInBounds_toArray, List.set_cons_zero, List.set_cons_succ]
      refine' wpAnyH_take (i := 3) (oi := _) (v := _) rfl (by kernel_rfl) (by kernel_rfl) (by kernel_rfl) (fun _ _ _ h => h) (yieldsIf_load_mid (by first | (go_simp; done) | rfl) 28 _ rfl _ _ rfl ([p1, q1]) _ (fun X h => h.1) Try.underlying28 rfl (by kernel_rfl)) hHeld ?_
      try simp only [Act.put, List.setIfInBounds_toArray, List.set_cons_zero, List.set_cons_succ]
      refine' wpAnyH_take (i := 4) (oi := _) (v := .slice (some ⟨b2, off2, none⟩) n c2) rfl (by kernel_rfl) (by kernel_rfl) (by kernel_rfl) (fun _ _ _ h => h) (Or.inl ⟨by rfl, fun X _ => by go_simp⟩) hHeld ?_
      try simp only [Act.put, List.setIfInBounds_toArray, List.set_cons_zero, List.set_cons_succ]
      refine' wpAnyH_take (i := 5) (oi := _) (v := .int .i64 (k : Int)) rfl (by kernel_rfl) (by kernel_rfl) (by kernel_rfl) (fun _ _ _ h => h) (Or.inl ⟨by rfl, fun X _ => by go_simp⟩) hHeld ?_
      try simp only [Act.put, List.setIfInBounds_toArray, List.set_cons_zero, List.set_cons_succ]
      refine' wpAnyH_take (i := 6) (oi := _) (v := .pointer (some ⟨b2, off2 + k * 2, none⟩)) rfl (by kernel_rfl) (by kernel_rfl) (by kernel_rfl) (fun _ _ _ h => h) (Or.inl ⟨by rfl, fun X _ => by go_simp⟩) hHeld ?_
      try simp only [Act.put, List.setIfInBounds_toArray, List.set_cons_zero, List.set_cons_succ]
      refine' wpAnyH_take (i := 7) (oi := _) (v := _) rfl (by kernel_rfl) (by kernel_rfl) (by kernel_rfl) (fun _ _ _ h => h) (yieldsIf_load_mid (by first | (go_simp; done) | rfl) 28 _ rfl _ _ rfl ([p2, q2]) _ (fun X h => h.2) Try.underlying28 rfl (by kernel_rfl)) hHeld ?_
      try simp only [Act.put, List.setIfInBounds_toArray, List.set_cons_zero, List.set_cons_succ]
      refine wpAnyH_ready (rs := [8]) (by kernel_rfl) (by simp) ?_
      refine AllReadyH.cons (o := _) rfl (fun K hK => ?_) AllReadyH.nil
      go_simp
      refine (cS.out).mono ?_
      rintro e w3 ⟨rfl, hb3⟩
      go_wp2_with fail
      refine hK.out _ _ (⟨rangeAt_keep15 hHeld.1 hb3, rangeAt_keep15 hHeld.2 hb3⟩) (fun hHeld => ?_)
      clear hK K
      try simp only [Act.put, List.setIfInBounds_toArray, List.set_cons_zero, List.set_cons_succ]
      refine' wpAnyH_take (i := 9) (oi := _) (v := .bool false) rfl (by kernel_rfl) (by kernel_rfl) (by kernel_rfl) (fun _ _ _ h => h) (Or.inl ⟨by rfl, fun X _ => by go_simp⟩) hHeld ?_
      try simp only [Act.put, List.setIfInBounds_toArray, List.set_cons_zero, List.set_cons_succ]
      refine wpAnyH_done (by kernel_rfl) ?_ _
      go_simp
      go_wp2
      go_roundg (n - (k + 1))
      case measure => have := hgh.out; have := hlt2.out; omega
      case rel => exact ⟨k + 1, rfl, by have := hlt2.out; omega, by go_num, Bel.to (Bel.to hB (Below.drew (Below.refl _ _))) hb3⟩
    · have hkn : k = n := by omega
      go_wp2
      go_ret
      exact ⟨rfl, hB⟩

end Go.Proofs.Ytgmbnbdbmkdlgaa
end

section
/- lotterylaw15.count: how many numbers of a list are in another one (numbers twice count twice). Condition: at most 1000 elements each. -/
open Go.RowKit
set_option linter.unusedVariables false
set_option linter.unusedSimpArgs false
namespace Go.Proofs.Ytgmbnbdbmkdlgaa

/-- How often a number stands in a list. -/
def timesL (of : List Int) (x : Int) : Nat := (of.filter fun y => decide (y = x)).length
/-- lotterylaw15.count. -/
def cntL (l of : List Int) : Nat := (l.map (timesL of)).sum

theorem timesL_snoc (of : List Int) (y x : Int) : timesL (of ++ [y]) x = timesL of x + (if y = x then 1 else 0) := by
  unfold timesL
  rw [List.filter_append, List.length_append]
  by_cases h : y = x
  · simp [h]
  · simp [h]
theorem timesL_le (of : List Int) (x : Int) : timesL of x ≤ of.length := List.length_filter_le _ _
theorem cntL_snoc (l of : List Int) (x : Int) : cntL (l ++ [x]) of = cntL l of + timesL of x := by
  unfold cntL
  simp
theorem cntL_le (l of : List Int) : cntL l of ≤ l.length * of.length := by
  induction l with
  | nil => simp [cntL]
  | cons x t ih =>
    have h1 : cntL (x :: t) of = timesL of x + cntL t of := by simp [cntL]
    have := timesL_le of x
    rw [h1, List.length_cons, Nat.add_mul]
    omega

set_option maxHeartbeats 4000000 in
set_option maxRecDepth 100000 in
theorem cnt15_any (va vb : Value) (l of : List Int) (w : World) (ha : Rd I64 w va l) (hb : Rd I64 w vb of) (hl : l.length ≤ 1000) (ho : of.length ≤ 1000) :
    Calls Try.prog 14 #[va, vb] w (IntB (cntL l of : Int) w) := by
  obtain ⟨aa, ca, rfl, hla, hca, hra⟩ := Rd.form ha
  obtain ⟨ab, cb, rfl, hlb, hcb, hrb⟩ := Rd.form hb
  have hca' : ca ≤ 9223372036854775807 := by unfold maxLen at hca; omega
  have hcb' : cb ≤ 9223372036854775807 := by unfold maxLen at hcb; omega
  have hl2 := hide hl
  have ho2 := hide ho
  clear ha hb
  go_enter Try.func14, Try.ntmps14
  go_wp2
  go_loopg [5, 6] l.length (fun gh t u wr => ∃ (i m e : Nat), gh = l.length - i ∧ i ≤ l.length ∧ t = .int .i64 (m : Int) ∧ u = .int .i64 (i : Int) ∧ Hid (m = cntL (l.take i) of) ∧ m ≤ i * 1000 ∧ wr = w.drewN e)
  case atStart => exact ⟨0, 0, 0, rfl, Nat.zero_le _, rfl, rfl, rfl, Nat.zero_le _, rfl⟩
  case round =>
    obtain ⟨i, m, e, hgh, hi, rfl, rfl, hm, hm2, rfl⟩ := hrel
    replace hgh := hide hgh
    by_cases hlt : i < l.length
    · have hlt2 := hide hlt
      obtain ⟨ba, offa, rfl, hba, hcella⟩ := hra.at_ hlt
      obtain ⟨x, hx, c1⟩ : ∃ x, x = l[i] ∧ w.cell? ⟨ba, offa + i, none⟩ = some (.int .i64 x) := ⟨_, rfl, hcella _ hlt⟩
      replace hx := hide hx
      have i1 : (0 : Int) ≤ (i : Int) := by omega
      have i2 : (i : Int) < (l.length : Int) := by omega
      clear hcella
      go_wp2
      go_loopg [5, 7] of.length (fun gh t u wr => ∃ (j k e : Nat), gh = of.length - j ∧ j ≤ of.length ∧ t = .int .i64 (k : Int) ∧ u = .int .i64 (j : Int) ∧ Hid (k = m + timesL (of.take j) x) ∧ k ≤ m + j ∧ wr = w.drewN e)
      case atStart => exact ⟨0, m, e, rfl, Nat.zero_le _, rfl, rfl, rfl, Nat.le_refl _, rfl⟩
      case round =>
        obtain ⟨j, k, e2, hgj, hj, rfl, rfl, hk, hk2, rfl⟩ := hrel
        replace hgj := hide hgj
        have hkb : (k : Int) ≤ 2000000 := by omega
        have hk0 : (0 : Int) ≤ (k : Int) := by omega
        by_cases hjl : j < of.length
        · have hjl2 := hide hjl
          obtain ⟨bb, offb, rfl, hbb, hcellb⟩ := hrb.at_ hjl
          obtain ⟨y, hy, c2⟩ : ∃ y, y = of[j] ∧ w.cell? ⟨bb, offb + j, none⟩ = some (.int .i64 y) := ⟨_, rfl, hcellb _ hjl⟩
          have hts : timesL (of.take (j + 1)) x = timesL (of.take j) x + (if y = x then 1 else 0) := by rw [take_snoc3 of j hjl, timesL_snoc, hy]; rfl
          replace hy := hide hy
          have j1 : (0 : Int) ≤ (j : Int) := by omega
          have j2 : (j : Int) < (of.length : Int) := by omega
          clear hcellb
          by_cases hyx : y = x
          · have hd : (y == x) = true := by simpa using hyx
            rw [if_pos hyx] at hts
            replace hts := hide hts
            replace hyx := hide hyx
            go_wp2
            go_quiet (fail)
            go_wp2
            go_roundg (of.length - (j + 1))
            case measure => have := hgj.out; have := hjl2.out; omega
            case rel => exact ⟨j + 1, k + 1, _, rfl, by have := hjl2.out; omega, by go_num, by go_num, by have := hts.out; have := hk.out; show _ = _; omega, by omega, rfl⟩
          · have hd : (y == x) = false := by simpa using hyx
            rw [if_neg hyx] at hts
            replace hts := hide hts
            replace hyx := hide hyx
            go_wp2
            go_quiet (fail)
            go_wp2
            go_roundg (of.length - (j + 1))
            case measure => have := hgj.out; have := hjl2.out; omega
            case rel => exact ⟨j + 1, k, _, rfl, by have := hjl2.out; omega, by go_num, by go_num, by have := hts.out; have := hk.out; show _ = _; omega, by omega, rfl⟩
        · have hjn : j = of.length := by omega
          have hkk : Hid (k = cntL (l.take (i + 1)) of) := by
            show _ = _
            have h1 := hk.out
            rw [hjn, List.take_length] at h1
            rw [take_snoc3 l i hlt2.out, cntL_snoc, ← hm.out, h1, hx.out]
            rfl
          have hk3 : k ≤ (i + 1) * 1000 := by have := ho2.out; omega
          replace hjn := hide hjn
          have j2 : ¬ (j : Int) < (of.length : Int) := by have := hjn.out; omega
          go_wp2
          go_roundg (l.length - (i + 1))
          case measure => have := hgh.out; have := hlt2.out; omega
          case rel => exact ⟨i + 1, k, _, rfl, by have := hlt2.out; omega, by go_num, by go_num, hkk, hk3, rfl⟩
    · have hin : i = l.length := by omega
      have hmm : Hid (m = cntL l of) := by
        show _ = _
        have h1 := hm.out
        rw [hin, List.take_length] at h1
        exact h1
      replace hin := hide hin
      have j2 : ¬ (i : Int) < (l.length : Int) := by have := hin.out; omega
      go_wp2
      go_ret
      exact ⟨by rw [← hmm.out]; rfl, Bel.drN (Below.refl _ _) _⟩
end Go.Proofs.Ytgmbnbdbmkdlgaa
end

section
/- Plain: how many of a system line's lines have h of the drawn numbers. -/
set_option linter.unusedVariables false
set_option linter.unusedSimpArgs false
namespace Go.Proofs.Ytgmbnbdbmkdlgaa

def pickW (S : List Int) (w : Nat) (p : List Int) : List Int := p.map fun x => S.getD (x - (w : Int)).toNat 0
theorem pickW_one (S p : List Int) : pickW S 1 p = pickL S p := rfl

/-- All ways to take k of a list's elements, in the order of their places. -/
def combsR : List Int → Nat → List (List Int)
  | _, 0 => [[]]
  | [], _ + 1 => []
  | x :: S, k + 1 => (combsR S k).map (fun l => x :: l) ++ combsR S (k + 1)
theorem combsR_zero (S : List Int) : combsR S 0 = [[]] := by cases S <;> rfl

theorem unrankL_mem {n w r k : Nat} (hw : 1 ≤ w) (h : r < choose n k) : ∀ x ∈ unrankL n w r k, (w : Int) ≤ x := by
  intro x hx
  have h2 := check_unrankL (n := n + w - 1) (m := n) (w := w) (r := r) (j := k) (by omega) hw h ((w : Int) - 1) (by omega)
  have := (checkL_pair h2).2 x hx
  omega

theorem pickW_cons (S : List Int) (x : Int) (w : Nat) (p : List Int) (h : ∀ v ∈ p, ((w + 1 : Nat) : Int) ≤ v) : pickW (x :: S) w p = pickW S (w + 1) p := by
  unfold pickW
  apply List.map_congr_left
  intro v hv
  have := h v hv
  rw [show (v - (w : Int)).toNat = (v - ((w + 1 : Nat) : Int)).toNat + 1 by omega]
  rfl

theorem combs_list (S : List Int) (w k : Nat) (hw : 1 ≤ w) : (List.range (choose S.length k)).map (fun r => pickW S w (unrankL S.length w r k)) = combsR S k := by
  induction S generalizing w k with
  | nil =>
    cases k with
    | zero => rw [combsR_zero, choose_zero]; simp [unrankL_zero, pickW, List.range_succ]
    | succ k => rfl
  | cons x S ih =>
    cases k with
    | zero => rw [combsR_zero, choose_zero]; simp [unrankL_zero, pickW, List.range_succ]
    | succ k =>
      rw [List.length_cons, choose_succ, List.range_add, List.map_append, combsR]
      congr 1
      · rw [← ih (w + 1) k (by omega), List.map_map]
        apply List.map_congr_left
        intro r hr
        have hr := List.mem_range.1 hr
        show _ = x :: _
        rw [unrankL_succ, if_pos hr]
        have h1 := pickW_cons S x w (unrankL S.length (w + 1) r k) (unrankL_mem (by omega) hr)
        unfold pickW at h1 ⊢
        rw [List.map_cons, h1, Int.sub_self]
        rfl
      · rw [← ih (w + 1) (k + 1) (by omega), List.map_map]
        apply List.map_congr_left
        intro r hr
        have hr := List.mem_range.1 hr
        show pickW (x :: S) w (unrankL (S.length + 1) w (choose S.length k + r) (k + 1)) = _
        rw [unrankL_succ, if_neg (by omega), Nat.add_sub_cancel_left]
        exact pickW_cons S x w _ (unrankL_mem (by omega) hr)

/-- How many lines have h hits. -/
def hitN (D : List Int) (h : Nat) (ls : List (List Int)) : Nat := (ls.filter fun l => decide (cntL l D = h)).length

theorem hitN_append (D : List Int) (h : Nat) (a b : List (List Int)) : hitN D h (a ++ b) = hitN D h a + hitN D h b := by
  unfold hitN; rw [List.filter_append, List.length_append]
theorem cntL_cons (x : Int) (l D : List Int) : cntL (x :: l) D = timesL D x + cntL l D := by simp [cntL]
theorem cntL_le1 {D : List Int} (hD : ∀ x, timesL D x ≤ 1) (l : List Int) : cntL l D ≤ l.length := by
  induction l with
  | nil => simp [cntL]
  | cons x t ih => have := hD x; rw [cntL_cons, List.length_cons]; omega

theorem hitN_map0 {D : List Int} {x : Int} (hx : timesL D x = 0) (h : Nat) (ls : List (List Int)) : hitN D h (ls.map fun l => x :: l) = hitN D h ls := by
  unfold hitN
  rw [List.filter_map, List.length_map]
  congr 2
  funext l
  show decide (cntL (x :: l) D = h) = _
  rw [cntL_cons, hx, Nat.zero_add]
theorem hitN_map1 {D : List Int} {x : Int} (hx : timesL D x = 1) (h : Nat) (ls : List (List Int)) : hitN D (h + 1) (ls.map fun l => x :: l) = hitN D h ls := by
  unfold hitN
  rw [List.filter_map, List.length_map]
  congr 2
  funext l
  show decide (cntL (x :: l) D = h + 1) = _
  rw [cntL_cons, hx]
  exact decide_eq_decide.2 (by omega)
theorem hitN_map2 {D : List Int} {x : Int} (hx : timesL D x = 1) (ls : List (List Int)) : hitN D 0 (ls.map fun l => x :: l) = 0 := by
  unfold hitN
  rw [List.filter_map, List.length_map]
  rw [List.length_eq_zero_iff, List.filter_eq_nil_iff]
  intro l _
  show ¬ decide (cntL (x :: l) D = 0) = true
  rw [cntL_cons, hx]
  simp

theorem cover_law {D : List Int} (hD : ∀ x, timesL D x ≤ 1) (S : List Int) (k h : Nat) :
    hitN D h (combsR S k) = choose (cntL S D) h * (if h ≤ k then choose (S.length - cntL S D) (k - h) else 0) := by
  induction S generalizing k h with
  | nil =>
    cases k with
    | zero =>
      cases h with
      | zero => rfl
      | succ h => simp [combsR, hitN, cntL]
    | succ k =>
      rw [combsR]
      cases h with
      | zero => simp [hitN, cntL, choose]
      | succ h => simp [hitN, cntL, choose]
  | cons x S ih =>
    have hle := cntL_le1 hD S
    cases k with
    | zero =>
      rw [combsR_zero]
      cases h with
      | zero => simp [hitN, cntL, choose_zero]
      | succ h => simp [hitN, cntL]
    | succ k =>
      rw [combsR, hitN_append]
      by_cases hx : timesL D x = 0
      · rw [hitN_map0 hx, ih k h, ih (k + 1) h, cntL_cons, hx, Nat.zero_add, List.length_cons]
        by_cases h1 : h ≤ k
        · rw [if_pos h1, if_pos (by omega), if_pos (by omega), show S.length + 1 - cntL S D = (S.length - cntL S D) + 1 by omega, show k + 1 - h = (k - h) + 1 by omega, choose_succ, Nat.mul_add]
        · rw [if_neg h1, Nat.mul_zero, Nat.zero_add]
          by_cases h2 : h ≤ k + 1
          · rw [if_pos h2, if_pos h2, show k + 1 - h = 0 by omega, choose_zero, choose_zero]
          · rw [if_neg h2, if_neg h2]
      · have hx1 : timesL D x = 1 := by have := hD x; omega
        rw [cntL_cons, hx1, List.length_cons]
        cases h with
        | zero =>
          rw [hitN_map2 hx1, ih (k + 1) 0, choose_zero, choose_zero, if_pos (by omega), if_pos (by omega), Nat.zero_add, show S.length + 1 - (1 + cntL S D) = S.length - cntL S D by omega]
        | succ h =>
          rw [hitN_map1 hx1, ih k h, ih (k + 1) (h + 1), Nat.add_comm 1 (cntL S D), choose_succ, show S.length + 1 - (cntL S D + 1) = S.length - cntL S D by omega, show k + 1 - (h + 1) = k - h by omega]
          by_cases h1 : h ≤ k
          · rw [if_pos h1, if_pos (by omega), Nat.add_mul]
          · rw [if_neg h1, if_neg (by omega)]; simp

/-- The hits of the first r lines. -/
def fndL (S D : List Int) (k r : Nat) : List Int := (List.range (k + 1)).map fun h => ((hitN D h ((List.range r).map fun r => combS S k r) : Nat) : Int)
theorem fndL_len (S D : List Int) (k r : Nat) : (fndL S D k r).length = k + 1 := by unfold fndL; simp
theorem fndL_zero (S D : List Int) (k : Nat) : fndL S D k 0 = List.replicate (k + 1) 0 := by
  unfold fndL
  apply List.ext_getElem
  · simp
  · intro i h1 h2
    simp [hitN]
theorem hitN_snoc (D : List Int) (h : Nat) (ls : List (List Int)) (l : List Int) : hitN D h (ls ++ [l]) = hitN D h ls + (if cntL l D = h then 1 else 0) := by
  rw [hitN_append]
  congr 1
  unfold hitN
  by_cases hc : cntL l D = h
  · simp [hc]
  · simp [hc]
theorem fndL_at (S D : List Int) (k r h : Nat) (hh : h < (fndL S D k r).length) : (fndL S D k r)[h] = ((hitN D h ((List.range r).map fun r => combS S k r) : Nat) : Int) := by
  have h1 := fndL_len S D k r
  have h2 : (fndL S D k r)[h]? = some ((hitN D h ((List.range r).map fun r => combS S k r) : Nat) : Int) := by
    unfold fndL
    rw [List.getElem?_map, List.getElem?_range (by omega)]
    rfl
  rw [List.getElem?_eq_getElem hh] at h2
  injection h2
theorem fndL_step (S D : List Int) (k r h : Nat) (hh : h < (fndL S D k r).length) (hc : cntL (combS S k r) D = h) : (fndL S D k r).set h ((fndL S D k r)[h] + 1) = fndL S D k (r + 1) := by
  apply List.ext_getElem
  · simp [fndL_len]
  · intro i h1 h2
    have h3 := fndL_at S D k r h hh
    have h4 := fndL_at S D k r i (by rw [List.length_set] at h1; exact h1)
    have h5 := fndL_at S D k (r + 1) i h2
    rw [List.range_succ, List.map_append, List.map_singleton, hitN_snoc, hc] at h5
    rw [List.getElem_set, h5]
    by_cases e : h = i
    · subst e; rw [if_pos rfl, if_pos rfl, h3]; omega
    · rw [if_neg e, if_neg e, h4]; omega
theorem hitN_le (D : List Int) (h : Nat) (ls : List (List Int)) : hitN D h ls ≤ ls.length := List.length_filter_le _ _
theorem fndL_le (S D : List Int) (k r h : Nat) (hh : h < (fndL S D k r).length) : 0 ≤ (fndL S D k r)[h] ∧ (fndL S D k r)[h] ≤ r := by
  rw [fndL_at]
  have := hitN_le D h ((List.range r).map fun r => combS S k r)
  rw [List.length_map, List.length_range] at this
  omega
/-- All lines' hits. -/
theorem fndL_all {D : List Int} (hD : ∀ x, timesL D x ≤ 1) (S : List Int) (k : Nat) (hc : cntL S D = D.length) :
    fndL S D k (choose S.length k) = (List.range (k + 1)).map fun h => ((choose D.length h * choose (S.length - D.length) (k - h) : Nat) : Int) := by
  unfold fndL
  apply List.map_congr_left
  intro h hh
  have hh := List.mem_range.1 hh
  have h1 := combs_list S 1 k (Nat.le_refl 1)
  have h2 : ((List.range (choose S.length k)).map fun r => combS S k r) = combsR S k := h1
  rw [h2, cover_law hD, if_pos (by omega), hc]

theorem timesL_cons (a : List Int) (x y : Int) : timesL (x :: a) y = (if x = y then 1 else 0) + timesL a y := by
  unfold timesL
  rw [List.filter_cons]
  by_cases h : x = y
  · simp [h]; omega
  · simp [h]
theorem cntL_snoc2 (l D : List Int) (y : Int) : cntL l (D ++ [y]) = cntL l D + timesL l y := by
  induction l with
  | nil => simp [cntL, timesL]
  | cons x t ih =>
    rw [cntL_cons, cntL_cons, ih, timesL_snoc, timesL_cons]
    by_cases h : x = y
    · rw [if_pos h, if_pos h.symm]; omega
    · rw [if_neg h, if_neg (fun e => h e.symm)]; omega
theorem times_not {a : List Int} {y : Int} (h : y ∉ a) : timesL a y = 0 := by
  unfold timesL
  rw [List.length_eq_zero_iff, List.filter_eq_nil_iff]
  intro x hx hd
  have : x = y := by simpa using hd
  exact h (this ▸ hx)
theorem times_one {a : List Int} {y : Int} (hn : a.Nodup) (h : y ∈ a) : timesL a y = 1 := by
  induction a with
  | nil => cases h
  | cons x t ih =>
    rw [timesL_cons]
    obtain ⟨h1, h2⟩ := List.nodup_cons.1 hn
    by_cases e : x = y
    · rw [if_pos e, times_not (e ▸ h1)]
    · rw [if_neg e, ih h2 ((List.mem_cons.1 h).resolve_left (fun h => e h.symm))]
theorem times_perm {a b : List Int} (h : a.Perm b) (y : Int) : timesL a y = timesL b y := (h.filter _).length_eq
theorem cntL_perm {a b : List Int} (h : a.Perm b) (D : List Int) : cntL a D = cntL b D := by
  induction h with
  | nil => rfl
  | cons x _ ih => rw [cntL_cons, cntL_cons, ih]
  | swap x y l => rw [cntL_cons, cntL_cons, cntL_cons, cntL_cons]; omega
  | trans _ _ h1 h2 => exact h1.trans h2
theorem cntL_full {l a : List Int} (hn : a.Nodup) (h : ∀ x ∈ l, x ∈ a) : cntL l a = l.length := by
  induction l with
  | nil => rfl
  | cons x t ih =>
    rw [cntL_cons, times_one hn (h x List.mem_cons_self), ih (fun y hy => h y (List.mem_cons_of_mem x hy)), List.length_cons]
    omega
end Go.Proofs.Ytgmbnbdbmkdlgaa
end

section
/- Plain: the lines of a system line are valid lines, of its numbers, in the order of their ranks. -/
set_option linter.unusedVariables false
set_option linter.unusedSimpArgs false
namespace Go.Proofs.Ytgmbnbdbmkdlgaa

theorem getD_mem {S : List Int} {x : Int} (h1 : 1 ≤ x) (h2 : x ≤ S.length) : S.getD (x - 1).toNat 0 ∈ S := by
  rw [List.getD_eq_getElem?_getD, List.getElem?_eq_getElem (show (x - 1).toNat < S.length by omega)]
  exact List.getElem_mem _
theorem getD_lt {S : List Int} (hS : S.Pairwise (· < ·)) {x y : Int} (h1 : 1 ≤ x) (h2 : x < y) (h3 : y ≤ S.length) : S.getD (x - 1).toNat 0 < S.getD (y - 1).toNat 0 := by
  rw [List.getD_eq_getElem?_getD, List.getElem?_eq_getElem (show (x - 1).toNat < S.length by omega), List.getD_eq_getElem?_getD, List.getElem?_eq_getElem (show (y - 1).toNat < S.length by omega)]
  exact List.pairwise_iff_getElem.1 hS _ _ _ _ (by omega)

theorem comb_mem {S : List Int} {k r : Nat} (h : r < choose S.length k) : ∀ x ∈ combS S k r, x ∈ S := by
  intro x hx
  unfold combS pickL at hx
  obtain ⟨v, hv, rfl⟩ := List.mem_map.1 hx
  obtain ⟨h1, h2⟩ := places_at h v hv
  exact getD_mem h1 h2

theorem comb_sorted {S : List Int} (hS : S.Pairwise (· < ·)) {k r : Nat} (h : r < choose S.length k) : (combS S k r).Pairwise (· < ·) := by
  unfold combS pickL
  rw [List.pairwise_map]
  have hp := (checkL_pair (check_unrankL (n := S.length) (m := S.length) (w := 1) (r := r) (j := k) (by omega) (by omega) h 0 (by omega))).1
  have hm := places_at h
  rw [List.pairwise_iff_getElem] at hp ⊢
  intro i j hi hj hij
  have h1 := hp i j hi hj hij
  have h2 := hm _ (List.getElem_mem hi)
  have h3 := hm _ (List.getElem_mem hj)
  exact getD_lt hS h2.1 h1 h3.2

theorem pick_less {S : List Int} (hS : S.Pairwise (· < ·)) (p q : List Int) (hp : ∀ x ∈ p, 1 ≤ x ∧ x ≤ S.length) (hq : ∀ x ∈ q, 1 ≤ x ∧ x ≤ S.length) : lessB (pickL S p) (pickL S q) = lessB p q := by
  induction p generalizing q with
  | nil => cases q <;> rfl
  | cons x p ih =>
    cases q with
    | nil => rfl
    | cons y q =>
      have h1 := ih q (fun v hv => hp v (List.mem_cons_of_mem x hv)) (fun v hv => hq v (List.mem_cons_of_mem y hv))
      obtain ⟨a1, a2⟩ := hp x List.mem_cons_self
      obtain ⟨b1, b2⟩ := hq y List.mem_cons_self
      show lessB (S.getD (x - 1).toNat 0 :: pickL S p) (S.getD (y - 1).toNat 0 :: pickL S q) = _
      rw [lessB, lessB, h1]
      rcases Int.lt_trichotomy x y with h | h | h
      · have := getD_lt hS a1 h b2
        rw [if_neg (by omega), if_neg (by omega), decide_eq_true h, decide_eq_true this]
      · subst h; rw [if_pos rfl, if_pos rfl]
      · have := getD_lt hS b1 h a2
        rw [if_neg (by omega), if_neg (by omega), decide_eq_false (by omega), decide_eq_false (by omega)]

theorem lessB_asymm (a b : List Int) (h : lessB a b = true) : lessB b a = false := by
  induction a generalizing b with
  | nil => cases b <;> cases h
  | cons x a ih =>
    cases b with
    | nil => cases h
    | cons y b =>
      rw [lessB] at h ⊢
      by_cases e : x = y
      · subst e; rw [if_pos rfl] at h ⊢; exact ih b h
      · rw [if_neg e] at h
        have := of_decide_eq_true h
        rw [if_neg (fun e2 => e e2.symm)]
        exact decide_eq_false (by omega)

theorem rankL_mono {n : Nat} {a b : List Int} (ha : checkL n 0 a = 0) (hb : checkL n 0 b = 0) (hl : a.length = b.length) (h : lessB a b = true) : rankL n 0 a < rankL n 0 b := by
  have a1 := unrank_rankL (n := n) (last := 0) (by omega) ha
  have b1 := unrank_rankL (n := n) (last := 0) (by omega) hb
  have a2 := rankL_lt (n := n) (last := 0) (by omega) ha
  rw [Nat.sub_zero] at a1 b1 a2
  rw [Nat.zero_add] at a1 b1
  rw [← hl] at b1
  rcases Nat.lt_trichotomy (rankL n 0 a) (rankL n 0 b) with h1 | h1 | h1
  · exact h1
  · rw [h1, b1] at a1
    subst a1
    rw [lessB_asymm _ _ h] at h; cases h
  · have h2 := unrankL_less (n := n) (m := n) (w := 1) (j := a.length) (by omega) a2 h1
    rw [a1, b1, lessB_asymm _ _ h] at h2
    cases h2

theorem choose_two {n k : Nat} (h1 : 1 ≤ k) (h2 : k < n) : 2 ≤ choose n k := by
  obtain ⟨k, rfl⟩ := Nat.exists_eq_succ_of_ne_zero (show k ≠ 0 by omega)
  obtain ⟨n, rfl⟩ := Nat.exists_eq_succ_of_ne_zero (show n ≠ 0 by omega)
  rw [choose_succ]
  have := choose_pos (n := n) (k := k) (by omega)
  have := choose_pos (n := n) (k := k + 1) (by omega)
  omega

/-- The lines of a system line: valid, of its numbers, in order. -/
structure LnOk (g : GameD) (a b : List Int) (C : Nat) : Prop where
  ok : ∀ r, r < C → lineE g (combS (sortI a) g.main.toNat r) (sortI b) = 0
  less : ∀ r s, r < s → s < C → rankG g (combS (sortI a) g.main.toNat r) (sortI b) < rankG g (combS (sortI a) g.main.toNat s) (sortI b)
  pos : ∀ r, r < C → 0 ≤ rankG g (combS (sortI a) g.main.toNat r) (sortI b)
  cntA : ∀ r, r < C → (cntL (combS (sortI a) g.main.toNat r) a : Int) = g.main
  cntB : (cntL (sortI b) b : Int) = g.bonus

theorem lines_law {g : GameD} {a b : List Int} (he : gameE g = 0) (hk : g.kind = 1) (m1 : 1 ≤ g.main) (m2 : g.main < a.length) (hb : (b.length : Int) = g.bonus) (ra : allB a 1 g.of = true) (rb : allB b 1 g.bonusOf = true) (da : dupB a = false) (db : dupB b = false) :
    LnOk g a b (choose a.length g.main.toNat) := by
  have na := dupB_no.1 da
  have nb := dupB_no.1 db
  have ia := allB_iff.1 ra
  have ib := allB_iff.1 rb
  have hS := sortI_lt na
  have hSl := sortI_len a
  have ha : ∀ r, r < choose a.length g.main.toNat → ∀ x ∈ combS (sortI a) g.main.toNat r, x ∈ a := fun r hr x hx => (sortI_perm a).mem_iff.1 (comb_mem (by rw [hSl]; exact hr) x hx)
  have hlen : ∀ r, r < choose a.length g.main.toNat → (combS (sortI a) g.main.toNat r).length = g.main.toNat := fun r hr => combS_len (by rw [hSl]; exact hr)
  have hsorted : ∀ r, r < choose a.length g.main.toNat → (combS (sortI a) g.main.toNat r).Pairwise (· < ·) := fun r hr => comb_sorted hS (by rw [hSl]; exact hr)
  have hk2 : g.kind ≠ 2 := by omega
  refine ⟨fun r hr => ?_, fun r s hrs hs => ?_, fun r hr => ?_, fun r hr => ?_, ?_⟩
  · refine lineE_ok.2 ⟨he, by rw [hlen r hr]; omega, by rw [sortI_len]; exact hb, fun x hx => ?_, fun x hx => ib x ((sortI_perm b).mem_iff.1 hx), fun _ => lt_nodup (hsorted r hr), (sortI_perm b).nodup_iff.2 nb⟩
    unfold lowG highG
    rw [if_neg hk2, if_neg hk2]
    exact ia x (ha r hr x hx)
  · have hr : r < choose a.length g.main.toNat := by omega
    have e1 : ∀ r, r < choose a.length g.main.toNat → sortI (combS (sortI a) g.main.toNat r) = combS (sortI a) g.main.toNat r := fun r hr => sortI_of (lt_le (hsorted r hr))
    have hc : ∀ r, r < choose a.length g.main.toNat → checkL g.of.toNat 0 (combS (sortI a) g.main.toNat r) = 0 := fun r hr => checkL_of (hsorted r hr) (fun x hx => by have := ia x (ha r hr x hx); omega)
    have hl : lessB (combS (sortI a) g.main.toNat r) (combS (sortI a) g.main.toNat s) = true := by
      unfold combS
      rw [pick_less hS _ _ (places_at (by rw [hSl]; exact hr)) (places_at (by rw [hSl]; exact hs))]
      exact unrankL_less (n := (sortI a).length) (by omega) (by rw [hSl]; exact hs) hrs
    have hm := rankL_mono (hc r hr) (hc s hs) (by rw [hlen r hr, hlen s hs]) hl
    unfold rankG
    rw [if_neg hk2, if_neg hk2, e1 r hr, e1 s hs]
    have hbc : checkL g.bonusOf.toNat 0 (sortI (sortI b)) = 0 := by
      rw [sortI_idem]
      exact check_sortI nb (fun x hx => by have := ib x hx; omega)
    have hN : 0 < bonusN g := by
      have := rankL_lt (n := g.bonusOf.toNat) (last := 0) (by omega) hbc
      rw [sortI_idem, sortI_len, Nat.sub_zero, show b.length = g.bonus.toNat by omega] at this
      unfold bonusN
      omega
    have := Nat.mul_lt_mul_of_pos_right hm hN
    omega
  · unfold rankG
    rw [if_neg hk2]
    exact Int.natCast_nonneg _
  · rw [cntL_full na (ha r hr), hlen r hr]; omega
  · rw [cntL_full nb (fun x hx => (sortI_perm b).mem_iff.1 hx), sortI_len]; exact hb
end Go.Proofs.Ytgmbnbdbmkdlgaa
end

section
/- matrix.Rank. No condition. -/
open Go.RowKit
set_option linter.unusedVariables false
set_option linter.unusedSimpArgs false
namespace Go.Proofs.Ytgmbnbdbmkdlgaa

/-- Digits below q: the number is below q to the power of how many there are. -/
theorem digitsN_bd {q : Int} {l : List Int} (hq : 1 ≤ q) (h : ∀ x ∈ l, 0 ≤ x ∧ x ≤ q - 1) : 0 ≤ digitsN q l ∧ digitsN q l < q ^ l.length := by
  have key : ∀ (n : Nat) (l : List Int), l.length = n → (∀ x ∈ l, 0 ≤ x ∧ x ≤ q - 1) → 0 ≤ digitsN q l ∧ digitsN q l < q ^ l.length := by
    intro n
    induction n with
    | zero => intro l hl _; obtain rfl := List.eq_nil_of_length_eq_zero hl; exact ⟨by simp [digitsN], by simp [digitsN]⟩
    | succ n ih =>
      intro l hl h
      have hne : l ≠ [] := by intro e; subst e; simp at hl
      obtain ⟨m, x, rfl⟩ : ∃ m x, l = m ++ [x] := ⟨l.dropLast, l.getLast hne, (List.dropLast_concat_getLast hne).symm⟩
      obtain ⟨i1, i2⟩ := ih m (by simpa using hl) (fun y hy => h y (List.mem_append_left _ hy))
      have hx := h x (by simp)
      rw [digitsN_snoc, List.length_append, List.length_singleton, Int.pow_succ]
      have a1 : 0 ≤ digitsN q m * q := Int.mul_nonneg i1 (by omega)
      have a2 : (digitsN q m + 1) * q ≤ q ^ m.length * q := Int.mul_le_mul_of_nonneg_right (by omega) (by omega)
      rw [Int.add_mul] at a2
      omega
  exact key l.length l rfl h

theorem int_pow_ten {q : Int} {n : Nat} (h0 : 0 ≤ q) (h : q ≤ 10) (hn : n ≤ 10) : q ^ n ≤ 10000000000 := by
  obtain ⟨a, rfl⟩ := Int.eq_ofNat_of_zero_le h0
  have := pow_ten (a := a) (n := n) (by omega) hn
  have e : ((a : Int)) ^ n = ((a ^ n : Nat) : Int) := by simp
  rw [e]; omega

theorem rankV_in {n : Nat} {l : List Int} (hn : n ≤ 80) (hc : checkL n 0 l = 0) (hx : choose n l.length ≤ 9223372036854775807) (m : Int) (hm : m = n) : rankV m l = ((rankL n 0 l : Int), 0) := by
  subst hm
  unfold rankV
  rw [if_pos ⟨by omega, by omega⟩, if_neg (by omega), Int.toNat_natCast, if_pos hx]

set_option maxHeartbeats 4000000 in
set_option maxRecDepth 100000 in
theorem mrank_bad (g : GameD) (av tv mv bv : Value) (ms : List AddonM) (a b : List Int) (w : World) (h : GameR w av tv ms g) (hl : LineR w mv bv a b) (he : lineE g a b ≠ 0) :
    Calls Try.prog 18 #[gameVal g av tv, lineVal mv bv] w (IntC 0 (lineE g a b) w) := by
  have hc := hide (fun X (hX : GameR X av tv ms g) (hY : LineR X mv bv a b) => mlcheck_any g av tv mv bv ms a b X hX hY)
  have hh := hide h
  have hl' := hide hl
  obtain ⟨aa, ac, rfl, hal, ham⟩ := h.1.1.shape
  obtain ⟨ta, tc, rfl, htl, htm⟩ := h.2.2.shape
  obtain ⟨ma, mc, rfl, hma, hmc, -⟩ := hl.1.form
  obtain ⟨ba, bc, rfl, hba, hbc, -⟩ := hl.2.form
  clear h hl
  obtain ⟨c, hcc⟩ : ∃ c, c = lineE g a b := ⟨_, rfl⟩
  rw [← hcc] at hc he ⊢
  clear hcc
  have hcb : (c != 0) = true := by simpa using he
  replace he := hide he
  unfold gameVal lineVal
  go_enter Try.func18, Try.ntmps18
  go_upto_region 1 with (fail)
  obtain ⟨W, hW⟩ : ∃ W, W = ((w.alloc (Obj.cells #[.string g.name, .int .i64 g.kind, .int .i64 g.price, .int .i64 g.main, .int .i64 g.of, .int .i64 g.bonus, .int .i64 g.bonusOf, .int .i64 g.extra, .int .i64 g.draws, .int .i64 g.system, .int .i64 g.days, .int .i64 g.at_, .int .i64 g.close, .int .i64 g.cancel, .int .i64 g.expiry, .int .i64 g.pool, .int .i64 g.reserve, .int .i64 g.round, .int .i64 g.cap, .int .i64 g.rolls, (.slice aa ms.length ac), (.slice ta g.tiers.length tc)] 25)).alloc (Obj.cells #[(.slice ma a.length mc), (.slice ba b.length bc)] 28)) := ⟨_, rfl⟩
  have bW : Below w.heap.size w W := by rw [hW]; exact Bel.al (Bel.al (Below.refl _ _) _) _
  have r0 : GameAt W (w.heap.size) g ((.slice aa ms.length ac)) ((.slice ta g.tiers.length tc)) := by rw [hW]; exact Row.alloc (Row.new _ _ _) _
  have r1 : LineAt W (w.heap.size + 1) ((.slice ma a.length mc)) ((.slice ba b.length bc)) := by rw [hW]; exact Row.at2 _ _ _ _
  have sW : w.heap.size + 1 < W.heap.size := by rw [hW]; simp
  rw [← hW]
  clear hW
  go_wp2_with (first | (refine wpList_load_row rfl 25 _ rfl _ rfl _ _ _ _ r0 Try.underlying25 rfl (by kernel_rfl) ?_) | (refine wpList_load_row rfl 28 _ rfl _ rfl _ _ _ _ r1 Try.underlying28 rfl (by kernel_rfl) ?_) | fail)
  refine (hc.out _ (hh.out.below bW) (hl'.out.below bW)).mono ?_
  rintro e w1 ⟨rfl, hb1⟩
  have B1 := Bel.to bW hb1
  clear hb1
  go_wp2
  go_ret2
  exact ⟨rfl, B1⟩

set_option maxHeartbeats 4000000 in
set_option maxRecDepth 100000 in
theorem mrank_digits (g : GameD) (av tv mv bv : Value) (ms : List AddonM) (a b : List Int) (w : World) (h : GameR w av tv ms g) (hl : LineR w mv bv a b) (he : lineE g a b = 0) (hk : g.kind = 2) :
    Calls Try.prog 18 #[gameVal g av tv, lineVal mv bv] w (IntC (rankG g a b) 0 w) := by
  have hc := hide (fun X (hX : GameR X av tv ms g) (hY : LineR X mv bv a b) => mlcheck_any g av tv mv bv ms a b X hX hY)
  have hh := hide h
  have hl' := hide hl
  obtain ⟨aa, ac, rfl, hal, ham⟩ := h.1.1.shape
  obtain ⟨ta, tc, rfl, htl, htm⟩ := h.2.2.shape
  obtain ⟨ma, mc, rfl, hma, hmc, -⟩ := hl.1.form
  obtain ⟨ba, bc, rfl, hba, hbc, -⟩ := hl.2.form
  obtain ⟨e1, e2, e3, e4, e5, e6, e7⟩ := lineE_ok.1 he
  have hf := mat_facts (game_mat e1)
  rw [he] at hc
  have hr : rankG g a b = digitsN g.of a := if_pos hk
  rw [hr]
  have hlo : lowG g = 0 := if_pos hk
  have hhi : highG g = g.of - 1 := if_pos hk
  rw [hlo, hhi] at e4
  have hof1 : 2 ≤ g.of := by omega
  have hof2 : g.of ≤ 10 := by omega
  have hlen : a.length ≤ 10 := by omega
  have hkb : (g.kind == 2) = true := by simpa using hk
  have hmc' : mc ≤ 9223372036854775807 := by unfold maxLen at hmc; omega
  have hbd : ∀ i : Nat, i ≤ a.length → 0 ≤ digitsN g.of (a.take i) ∧ digitsN g.of (a.take i) ≤ 10000000000 := by
    intro i hi
    have h1 := digitsN_bd (q := g.of) (l := a.take i) (by omega) (fun x hx => e4 x (List.mem_of_mem_take hx))
    have h2 := int_pow_ten (q := g.of) (n := (a.take i).length) (by omega) hof2 (by rw [List.length_take]; omega)
    omega
  replace hbd := hide hbd
  replace e4 := hide e4
  replace hk := hide hk
  clear h hl he e1 e2 e3 e5 e6 e7 hf hr hlo hhi
  unfold gameVal lineVal
  go_enter Try.func18, Try.ntmps18
  go_upto_region 1 with (fail)
  obtain ⟨W, hW⟩ : ∃ W, W = ((w.alloc (Obj.cells #[.string g.name, .int .i64 g.kind, .int .i64 g.price, .int .i64 g.main, .int .i64 g.of, .int .i64 g.bonus, .int .i64 g.bonusOf, .int .i64 g.extra, .int .i64 g.draws, .int .i64 g.system, .int .i64 g.days, .int .i64 g.at_, .int .i64 g.close, .int .i64 g.cancel, .int .i64 g.expiry, .int .i64 g.pool, .int .i64 g.reserve, .int .i64 g.round, .int .i64 g.cap, .int .i64 g.rolls, (.slice aa ms.length ac), (.slice ta g.tiers.length tc)] 25)).alloc (Obj.cells #[(.slice ma a.length mc), (.slice ba b.length bc)] 28)) := ⟨_, rfl⟩
  have bW : Below w.heap.size w W := by rw [hW]; exact Bel.al (Bel.al (Below.refl _ _) _) _
  have r0 : GameAt W (w.heap.size) g ((.slice aa ms.length ac)) ((.slice ta g.tiers.length tc)) := by rw [hW]; exact Row.alloc (Row.new _ _ _) _
  have r1 : LineAt W (w.heap.size + 1) ((.slice ma a.length mc)) ((.slice ba b.length bc)) := by rw [hW]; exact Row.at2 _ _ _ _
  have sW : w.heap.size + 1 < W.heap.size := by rw [hW]; simp
  rw [← hW]
  clear hW
  go_wp2_with (first | (refine wpList_load_row rfl 25 _ rfl _ rfl _ _ _ _ r0 Try.underlying25 rfl (by kernel_rfl) ?_) | (refine wpList_load_row rfl 28 _ rfl _ rfl _ _ _ _ r1 Try.underlying28 rfl (by kernel_rfl) ?_) | fail)
  refine (hc.out _ (hh.out.below bW) (hl'.out.below bW)).mono ?_
  rintro e w1 ⟨rfl, hb1⟩
  have B1 := Bel.to bW hb1
  have d1 := (r0.keep hb1).kind
  have d4 := (r0.keep hb1).of
  have l0 := (r1.keep hb1).main
  have hrd := (hl'.out.below B1).1
  clear hb1 r0 r1 bW hh hc hl'
  go_wp2
  go_loopg [7, 27] a.length (fun gh t q wr => ∃ (i : Nat) (p : Int), gh = a.length - i ∧ i ≤ a.length ∧ q = .int .i64 i ∧ t = .int .i64 p ∧ wr = w1 ∧ p = digitsN g.of (a.take i))
  case atStart => exact ⟨0, 0, rfl, Nat.zero_le _, rfl, rfl, rfl, rfl⟩
  case round =>
    obtain ⟨i, p, hg, hi, rfl, rfl, rfl, hp⟩ := hrel
    replace hg := hide hg
    by_cases hlt : i < a.length
    · have hlt2 := hide hlt
      obtain ⟨b2, off, rfl, hbb, hcell⟩ := hrd.at_ hlt
      have i1 : (0 : Int) ≤ (i : Int) := by omega
      have i2 : (i : Int) < (a.length : Int) := by omega
      obtain ⟨x, hx, c1⟩ : ∃ x, x = a[i] ∧ wr.cell? ⟨b2, off + i, none⟩ = some (.int .i64 x) := ⟨_, rfl, hcell _ hlt⟩
      have hnext : p * g.of + x = digitsN g.of (a.take (i + 1)) := by
        rw [take_snoc a i hlt, digitsN_snoc, ← hp, hx]; rfl
      have hb1 := hbd.out i hi
      have hb2 := hbd.out (i + 1) hlt
      have hx1 := e4.out x (by rw [hx]; exact List.getElem_mem hlt)
      rw [← hp] at hb1
      rw [← hnext] at hb2
      have p1 : 0 ≤ p * g.of := Int.mul_nonneg hb1.1 (by omega)
      have p2 : p * g.of ≤ 10000000000 := by omega
      obtain ⟨hb2a, hb2b⟩ := hb2
      obtain ⟨hx1a, hx1b⟩ := hx1
      replace hnext := hide hnext
      replace hp := hide hp
      replace hx := hide hx
      clear hcell hb1
      go_wp2
      go_roundg (a.length - (i + 1))
      case measure => have := hg.out; have := hlt2.out; omega
      case rel => exact ⟨i + 1, p * g.of + x, rfl, by have := hlt2.out; omega, by go_num, rfl, rfl, hnext.out⟩
    · have hin : i = a.length := by omega
      rw [hin, List.take_length] at hp
      replace hp := hide hp
      replace hin := hide hin
      go_wp2
      go_ret2
      rw [← hp.out]
      exact ⟨rfl, B1⟩

/-- What a valid line of a choose game comes to. -/
theorem choose_facts {g : GameD} {a b : List Int} (he : lineE g a b = 0) (hk : g.kind ≠ 2) :
    checkL g.of.toNat 0 (sortI a) = 0 ∧ checkL g.bonusOf.toNat 0 (sortI b) = 0 ∧ g.of = ((g.of.toNat : Nat) : Int) ∧ g.main = ((g.main.toNat : Nat) : Int) ∧ g.bonusOf = ((g.bonusOf.toNat : Nat) : Int) ∧ g.bonus = ((g.bonus.toNat : Nat) : Int) ∧
    g.of.toNat ≤ 80 ∧ g.bonusOf.toNat ≤ 80 ∧ (sortI a).length = g.main.toNat ∧ (sortI b).length = g.bonus.toNat ∧ choose g.of.toNat g.main.toNat ≤ 1646492110120 ∧ bonusN g ≤ 1581580 ∧
    rankL g.of.toNat 0 (sortI a) < choose g.of.toNat g.main.toNat ∧ rankL g.bonusOf.toNat 0 (sortI b) < bonusN g := by
  obtain ⟨e1, e2, e3, e4, e5, e6, e7⟩ := lineE_ok.1 he
  have hf := mat_facts (game_mat e1)
  have hlo : lowG g = 1 := if_neg hk
  have hhi : highG g = g.of := if_neg hk
  rw [hlo, hhi] at e4
  have o1 : g.of = ((g.of.toNat : Nat) : Int) := by omega
  have o2 : g.bonusOf = ((g.bonusOf.toNat : Nat) : Int) := by omega
  have c1 := check_sortI (n := ((g.of.toNat : Nat) : Int)) (e6 hk) (fun x hx => by have := e4 x hx; omega)
  have c2 := check_sortI (n := ((g.bonusOf.toNat : Nat) : Int)) e7 (fun x hx => by have := e5 x hx; omega)
  have l1 : (sortI a).length = g.main.toNat := by rw [sortI_len]; omega
  have l2 : (sortI b).length = g.bonus.toNat := by rw [sortI_len]; omega
  have r1 := rankL_lt (n := g.of.toNat) (last := 0) (l := sortI a) (by omega) c1
  have r2 := rankL_lt (n := g.bonusOf.toNat) (last := 0) (l := sortI b) (by omega) c2
  rw [l1] at r1
  rw [l2] at r2
  exact ⟨c1, c2, o1, by omega, o2, by omega, by omega, by omega, l1, l2, choose_main (by omega) (by omega), choose_bonus (by omega) (by omega), r1, r2⟩

set_option maxHeartbeats 4000000 in
set_option maxRecDepth 100000 in
theorem mrank_choose (g : GameD) (av tv mv bv : Value) (ms : List AddonM) (a b : List Int) (w : World) (h : GameR w av tv ms g) (hl : LineR w mv bv a b) (he : lineE g a b = 0) (hk : g.kind ≠ 2) :
    Calls Try.prog 18 #[gameVal g av tv, lineVal mv bv] w (IntC (rankG g a b) 0 w) := by
  have hc := hide (fun X (hX : GameR X av tv ms g) (hY : LineR X mv bv a b) => mlcheck_any g av tv mv bv ms a b X hX hY)
  have hh := hide h
  have hl' := hide hl
  obtain ⟨aa, ac, rfl, hal, ham⟩ := h.1.1.shape
  obtain ⟨ta, tc, rfl, htl, htm⟩ := h.2.2.shape
  obtain ⟨ma, mc, rfl, hma, hmc, -⟩ := hl.1.form
  obtain ⟨ba, bc, rfl, hba, hbc, -⟩ := hl.2.form
  obtain ⟨c1, c2, o1, o2, o3, o4, n1, n2, l1, l2, b1, b2, r1, r2⟩ := choose_facts he hk
  have hs1 : a.length ≤ 1000 := by
    have := mat_facts (game_mat (lineE_ok.1 he).1); have := (lineE_ok.1 he).2.1; omega
  have hs2 : b.length ≤ 1000 := by
    have := mat_facts (game_mat (lineE_ok.1 he).1); have := (lineE_ok.1 he).2.2.1; omega
  rw [he] at hc
  have hr : rankG g a b = ((rankL g.of.toNat 0 (sortI a) * bonusN g + rankL g.bonusOf.toNat 0 (sortI b) : Nat) : Int) := if_neg hk
  rw [hr]
  have hkb : (g.kind == 2) = false := by simpa using hk
  have cC := hide (fun X (hX : LineR X (.slice ma a.length mc) (.slice ba b.length bc) a b) => mcanon_any _ _ a b X hX hs1 hs2)
  have cM := hide (fun X u (hX : Rd I64 X u (sortI a)) => rank_any u (sortI a) g.of X hX)
  have cB := hide (fun X u (hX : Rd I64 X u (sortI b)) => rank_any u (sortI b) g.bonusOf X hX)
  have cN := hide (count_any g.bonusOf g.bonus)
  rw [rankV_in n1 c1 (by rw [l1]; omega) g.of o1] at cM
  rw [rankV_in n2 c2 (by rw [l2]; have : choose g.bonusOf.toNat g.bonus.toNat ≤ 1581580 := b2; omega) g.bonusOf o3] at cB
  rw [countV_fit o3 o4 n2 (by have : choose g.bonusOf.toNat g.bonus.toNat ≤ 1581580 := b2; omega)] at cN
  obtain ⟨ra, hra⟩ : ∃ r, r = rankL g.of.toNat 0 (sortI a) := ⟨_, rfl⟩
  obtain ⟨rb, hrb⟩ : ∃ r, r = rankL g.bonusOf.toNat 0 (sortI b) := ⟨_, rfl⟩
  obtain ⟨N, hN⟩ : ∃ r, r = bonusN g := ⟨_, rfl⟩
  rw [← hra] at cM r1 ⊢
  rw [← hrb] at cB r2 ⊢
  rw [← hN] at b2 r2 ⊢
  rw [show choose g.bonusOf.toNat g.bonus.toNat = N from hN.symm] at cN
  have p1 : ra * N ≤ 1646492110120 * 1581580 := Nat.mul_le_mul (by omega) b2
  have q1 : (ra : Int) * (N : Int) = ((ra * N : Nat) : Int) := by simp
  have q2 : (0 : Int) ≤ (ra : Int) * (N : Int) := by omega
  have q3 : (ra : Int) * (N : Int) ≤ 2604058991523589600 := by omega
  have q4 : (rb : Int) ≤ 1581580 := by omega
  have q5 : (ra : Int) * (N : Int) + (rb : Int) = ((ra * N + rb : Nat) : Int) := by simp
  replace q5 := hide q5
  replace hk := hide hk
  clear h hl he c1 c2 o1 o2 o3 o4 n1 n2 l1 l2 b1 b2 r1 r2 hs1 hs2 hr hra hrb hN p1 q1
  unfold gameVal lineVal at *
  go_enter Try.func18, Try.ntmps18
  go_upto_region 1 with (fail)
  obtain ⟨W, hW⟩ : ∃ W, W = ((w.alloc (Obj.cells #[.string g.name, .int .i64 g.kind, .int .i64 g.price, .int .i64 g.main, .int .i64 g.of, .int .i64 g.bonus, .int .i64 g.bonusOf, .int .i64 g.extra, .int .i64 g.draws, .int .i64 g.system, .int .i64 g.days, .int .i64 g.at_, .int .i64 g.close, .int .i64 g.cancel, .int .i64 g.expiry, .int .i64 g.pool, .int .i64 g.reserve, .int .i64 g.round, .int .i64 g.cap, .int .i64 g.rolls, (.slice aa ms.length ac), (.slice ta g.tiers.length tc)] 25)).alloc (Obj.cells #[(.slice ma a.length mc), (.slice ba b.length bc)] 28)) := ⟨_, rfl⟩
  have bW : Below w.heap.size w W := by rw [hW]; exact Bel.al (Bel.al (Below.refl _ _) _) _
  have r0 : GameAt W (w.heap.size) g ((.slice aa ms.length ac)) ((.slice ta g.tiers.length tc)) := by rw [hW]; exact Row.alloc (Row.new _ _ _) _
  have r1 : LineAt W (w.heap.size + 1) ((.slice ma a.length mc)) ((.slice ba b.length bc)) := by rw [hW]; exact Row.at2 _ _ _ _
  have sW : w.heap.size + 1 < W.heap.size := by rw [hW]; simp
  rw [← hW]
  clear hW
  go_wp2_with (first | (refine wpList_load_row rfl 25 _ rfl _ rfl _ _ _ _ r0 Try.underlying25 rfl (by kernel_rfl) ?_) | (refine wpList_load_row rfl 28 _ rfl _ rfl _ _ _ _ r1 Try.underlying28 rfl (by kernel_rfl) ?_) | fail)
  refine (hc.out _ (hh.out.below bW) (hl'.out.below bW)).mono ?_
  rintro e w1 ⟨rfl, hb1⟩
  have B1 := Bel.to bW hb1
  have r0 := r0.keep hb1
  have r1 := r1.keep hb1
  have d1 := r0.kind
  clear hb1
  go_wp2_with (first | (refine wpList_load_row rfl 28 _ rfl _ rfl _ _ _ _ r1 Try.underlying28 rfl (by kernel_rfl) ?_) | fail)
  refine (cC.out _ (hl'.out.below B1)).mono ?_
  rintro e w2 ⟨u, v, rfl, ⟨hu, hv⟩, hb2⟩
  have B2 := Bel.to B1 hb2
  have r0 := r0.keep hb2
  have z0 : w.heap.size < w2.heap.size := by have := hb2.size; have := B1.size; have := World.block_lt_of_cell? _ _ d1; simp at this; omega
  clear hb2 r1 d1 B1
  obtain ⟨u1, u2, u3, rfl⟩ := Rd.shape hu
  obtain ⟨v1, v2, v3, rfl⟩ := Rd.shape hv
  unfold lineVal
  go_upto_region 13 with (fail)
  obtain ⟨Z, hZ⟩ : ∃ Z, Z = (w2.alloc (Obj.cells #[(.slice u1 u2 u3), (.slice v1 v2 v3)] 28)) := ⟨_, rfl⟩
  have bZ : Below w2.heap.size w2 Z := by rw [hZ]; exact Bel.al (Below.refl _ _) _
  have rZ0 : LineAt Z (w2.heap.size) ((.slice u1 u2 u3)) ((.slice v1 v2 v3)) := by rw [hZ]; exact Row.new _ _ _
  have sZ : w2.heap.size < Z.heap.size := by rw [hZ]; simp
  rw [← hZ]
  clear hZ
  have d4 := (r0.keep bZ).of
  have d5 := (r0.keep bZ).bonus
  have d6 := (r0.keep bZ).bonusOf
  have l0 := rZ0.main
  have l1 := rZ0.bonus
  have hu2 := hu.below bZ
  have hv2 := hv.below bZ
  have B3 := Bel.to B2 bZ
  clear r0 rZ0 hu hv B2 bZ
  go_wp2_with fail
  refine (cM.out _ _ hu2).mono ?_
  rintro e w3 ⟨rfl, hb3⟩
  have B3 := Bel.to B3 hb3
  have d5 := Bel.cellOf hb3 d5
  have d6 := Bel.cellOf hb3 d6
  have l1 := Bel.cellOf hb3 l1
  have hv3 := hv2.below hb3
  clear hb3 hu2 hv2 d4 l0
  go_wp2_with fail
  refine (cN.out _).mono ?_
  rintro e w4 ⟨rfl, hb4⟩
  have B3 := Bel.to B3 hb4
  have d6 := Bel.cellOf hb4 d6
  have l1 := Bel.cellOf hb4 l1
  have hv4 := hv3.below hb4
  clear hb4 hv3 d5
  go_wp2_with fail
  refine (cB.out _ _ hv4).mono ?_
  rintro e w5 ⟨rfl, hb5⟩
  have B3 := Bel.to B3 hb5
  clear hb5 hv4 d6 l1
  go_wp2
  go_ret2
  rw [q5.out]
  exact ⟨rfl, B3⟩

theorem mrank_any (g : GameD) (av tv mv bv : Value) (ms : List AddonM) (a b : List Int) (w : World) (h : GameR w av tv ms g) (hl : LineR w mv bv a b) :
    Calls Try.prog 18 #[gameVal g av tv, lineVal mv bv] w (IntC (rankP g a b).1 (rankP g a b).2 w) := by
  unfold rankP
  by_cases he : lineE g a b = 0
  · rw [if_pos he]
    by_cases hk : g.kind = 2
    · exact mrank_digits g av tv mv bv ms a b w h hl he hk
    · exact mrank_choose g av tv mv bv ms a b w h hl he hk
  · rw [if_neg he]
    exact mrank_bad g av tv mv bv ms a b w h hl he
end Go.Proofs.Ytgmbnbdbmkdlgaa
end

section
/- The walk of the statement SystemLines: it returns true, whatever the game and the line. -/
open Go.RowKit
set_option linter.unusedVariables false
set_option linter.unusedSimpArgs false
namespace Go.Proofs.Ytgmbnbdbmkdlgaa

set_option maxHeartbeats 4000000 in
set_option maxRecDepth 100000 in
theorem lines15_no (g : GameD) (av tv mv bv : Value) (ms : List AddonM) (a b : List Int) (w : World) (h : GameR w av tv ms g) (hl : LineR w mv bv a b) (he : (expP g a b).2 ≠ 0) :
    Calls Try.prog 5 #[gameVal g av tv, lineVal mv bv] w (BoolB true w) := by
  have cA := hide (fun X (hX : Below w.heap.size w X) => sexpand_any g av tv mv bv ms a b X (h.below hX) (hl.below hX))
  have cC := hide (fun X (hX : Below w.heap.size w X) => scount15_any g av tv mv bv ms a b X (h.below hX) (hl.below hX))
  have hor : (sysP g a b).2 ≠ 0 ∨ ((sysP g a b).2 = 0 ∧ 1024 < (sysP g a b).1 ∧ (sysP g a b).1 ≤ 4000) := by
    unfold expP at he
    unfold sysP
    by_cases h1 : sysE g a b = 0
    · rw [if_neg (by simpa using h1)] at he
      rw [if_pos h1]
      by_cases h2 : 1024 < choose a.length g.main.toNat
      · obtain ⟨g1, g2, g3, g4, g5, g6, g7, g8⟩ := sysE_ok h1
        obtain ⟨f1, f2, f3, f4, f5, f6, f7, f8, f9⟩ := sys_bounds g1
        have := choose_14 (n := a.length) (k := g.main.toNat) (by omega)
        exact .inr ⟨rfl, by simp only []; omega, by simp only []; omega⟩
      · rw [if_neg h2] at he; exact absurd rfl he
    · rw [if_neg h1]; exact .inl h1
  obtain ⟨R, hR⟩ : ∃ R, R = expP g a b := ⟨_, rfl⟩
  obtain ⟨Q, hQ⟩ : ∃ Q, Q = sysP g a b := ⟨_, rfl⟩
  rw [← hR] at cA he
  rw [← hQ] at cC hor
  clear hR hQ
  obtain ⟨L, c⟩ := R
  obtain ⟨n, f⟩ := Q
  simp only [] at cA cC he hor
  have hcb : (c != 0) = true := by simpa using he
  obtain ⟨aa, ac, rfl, hal, ham⟩ := h.1.1.shape
  obtain ⟨ta, tc, rfl, htl, htm⟩ := h.2.2.shape
  obtain ⟨ma, mc, rfl, hma, hmc, -⟩ := hl.1.form
  obtain ⟨ba, bc, rfl, hba, hbc, -⟩ := hl.2.form
  clear h hl
  replace he := hide he
  unfold gameVal lineVal at cA cC ⊢
  rcases hor with hf | ⟨hf, hn, hn2⟩
  · have hfb : (f != 0) = true := by simpa using hf
    replace hf := hide hf
    go_enter Try.func5, Try.ntmps5
    go_upto_region 1 with (fail)
    obtain ⟨W, hW⟩ : ∃ W, W = ((w.alloc (Obj.cells #[.string g.name, .int .i64 g.kind, .int .i64 g.price, .int .i64 g.main, .int .i64 g.of, .int .i64 g.bonus, .int .i64 g.bonusOf, .int .i64 g.extra, .int .i64 g.draws, .int .i64 g.system, .int .i64 g.days, .int .i64 g.at_, .int .i64 g.close, .int .i64 g.cancel, .int .i64 g.expiry, .int .i64 g.pool, .int .i64 g.reserve, .int .i64 g.round, .int .i64 g.cap, .int .i64 g.rolls, (.slice aa ms.length ac), (.slice ta g.tiers.length tc)] 25)).alloc (Obj.cells #[(.slice ma a.length mc), (.slice ba b.length bc)] 28)) := ⟨_, rfl⟩
    have bW : Below w.heap.size w W := by rw [hW]; exact Bel.al (Bel.al (Below.refl _ _) _) _
    have r0 : GameAt W (w.heap.size) g ((.slice aa ms.length ac)) ((.slice ta g.tiers.length tc)) := by rw [hW]; exact Row.alloc (Row.new _ _ _) _
    have r1 : LineAt W (w.heap.size + 1) ((.slice ma a.length mc)) ((.slice ba b.length bc)) := by rw [hW]; exact Row.at2 _ _ _ _
    have sW : w.heap.size + 1 < W.heap.size := by rw [hW]; simp
    rw [← hW]
    clear hW
    go_wp2_with (first | (refine wpList_load_row rfl 25 _ rfl _ rfl _ _ _ _ r0 Try.underlying25 rfl (by kernel_rfl) ?_) | (refine wpList_load_row rfl 28 _ rfl _ rfl _ _ _ _ r1 Try.underlying28 rfl (by kernel_rfl) ?_) | fail)
    refine (cA.out _ bW).mono ?_
    rintro e w1 ⟨u, rfl, hu, hb1⟩
    have B1 := Bel.to bW hb1
    have r0 := r0.keep hb1
    have r1 := r1.keep hb1
    obtain ⟨ua, uc, rfl, -, -⟩ := hu.shape
    clear hb1 bW
    go_wp2_with (first | (refine wpList_load_row rfl 25 _ rfl _ rfl _ _ _ _ r0 Try.underlying25 rfl (by kernel_rfl) ?_) | (refine wpList_load_row rfl 28 _ rfl _ rfl _ _ _ _ r1 Try.underlying28 rfl (by kernel_rfl) ?_) | fail)
    refine (cC.out _ B1).mono ?_
    rintro e w2 ⟨rfl, hb2⟩
    have B2 := Bel.to B1 hb2
    clear hb2 B1 r0 r1 cA cC hu
    go_wp2_with fail
    refine (lives15_any _).mono ?_
    rintro e w4 ⟨rfl, hb4⟩
    go_wp2
    go_ret
    exact ⟨rfl, Bel.to B2 hb4⟩
  · subst hf
    go_enter Try.func5, Try.ntmps5
    go_upto_region 1 with (fail)
    obtain ⟨W, hW⟩ : ∃ W, W = ((w.alloc (Obj.cells #[.string g.name, .int .i64 g.kind, .int .i64 g.price, .int .i64 g.main, .int .i64 g.of, .int .i64 g.bonus, .int .i64 g.bonusOf, .int .i64 g.extra, .int .i64 g.draws, .int .i64 g.system, .int .i64 g.days, .int .i64 g.at_, .int .i64 g.close, .int .i64 g.cancel, .int .i64 g.expiry, .int .i64 g.pool, .int .i64 g.reserve, .int .i64 g.round, .int .i64 g.cap, .int .i64 g.rolls, (.slice aa ms.length ac), (.slice ta g.tiers.length tc)] 25)).alloc (Obj.cells #[(.slice ma a.length mc), (.slice ba b.length bc)] 28)) := ⟨_, rfl⟩
    have bW : Below w.heap.size w W := by rw [hW]; exact Bel.al (Bel.al (Below.refl _ _) _) _
    have r0 : GameAt W (w.heap.size) g ((.slice aa ms.length ac)) ((.slice ta g.tiers.length tc)) := by rw [hW]; exact Row.alloc (Row.new _ _ _) _
    have r1 : LineAt W (w.heap.size + 1) ((.slice ma a.length mc)) ((.slice ba b.length bc)) := by rw [hW]; exact Row.at2 _ _ _ _
    have sW : w.heap.size + 1 < W.heap.size := by rw [hW]; simp
    rw [← hW]
    clear hW
    go_wp2_with (first | (refine wpList_load_row rfl 25 _ rfl _ rfl _ _ _ _ r0 Try.underlying25 rfl (by kernel_rfl) ?_) | (refine wpList_load_row rfl 28 _ rfl _ rfl _ _ _ _ r1 Try.underlying28 rfl (by kernel_rfl) ?_) | fail)
    refine (cA.out _ bW).mono ?_
    rintro e w1 ⟨u, rfl, hu, hb1⟩
    have B1 := Bel.to bW hb1
    have r0 := r0.keep hb1
    have r1 := r1.keep hb1
    obtain ⟨ua, uc, rfl, -, -⟩ := hu.shape
    clear hb1 bW
    go_wp2_with (first | (refine wpList_load_row rfl 25 _ rfl _ rfl _ _ _ _ r0 Try.underlying25 rfl (by kernel_rfl) ?_) | (refine wpList_load_row rfl 28 _ rfl _ rfl _ _ _ _ r1 Try.underlying28 rfl (by kernel_rfl) ?_) | fail)
    refine (cC.out _ B1).mono ?_
    rintro e w2 ⟨rfl, hb2⟩
    have B2 := Bel.to B1 hb2
    clear hb2 B1 r0 r1 cA cC hu
    go_wp2_with fail
    refine (lives15_any _).mono ?_
    rintro e w4 ⟨rfl, hb4⟩
    go_wp2
    go_ret
    exact ⟨rfl, Bel.to B2 hb4⟩

theorem expL_get {S b : List Int} {k r : Nat} (h : r < (expL S b k).length) : (expL S b k)[r] = (combS S k r, b) := by
  have h2 : (expL S b k)[r]? = some (combS S k r, b) := by
    unfold expL
    rw [List.getElem?_map, List.getElem?_range (by rw [expL_len] at h; exact h)]
    rfl
  rw [List.getElem?_eq_getElem h] at h2
  injection h2

set_option maxHeartbeats 8000000 in
set_option maxRecDepth 100000 in
theorem lines15_ok (g : GameD) (av tv mv bv : Value) (ms : List AddonM) (a b : List Int) (w : World) (h : GameR w av tv ms g) (hl : LineR w mv bv a b) (he : sysE g a b = 0) (hm : choose a.length g.main.toNat ≤ 1024) :
    Calls Try.prog 5 #[gameVal g av tv, lineVal mv bv] w (BoolB true w) := by
  have cE := hide (fun X (hX : Below w.heap.size w X) => sexpand_ok g av tv mv bv ms a b X (h.below hX) (hl.below hX) he hm)
  have cC := hide (fun X (hX : Below w.heap.size w X) => scount15_any g av tv mv bv ms a b X (h.below hX) (hl.below hX))
  unfold sysP at cC
  rw [if_pos he] at cC
  obtain ⟨g1, g2, g3, g4, g5, g6, g7, g8⟩ := sysE_ok he
  obtain ⟨f1, f2, f3, f4, f5, f6, f7, f8, f9⟩ := sys_bounds g1
  obtain ⟨ge, gk⟩ := gameS_ok g1
  have hlaw := hide (lines_law ge gk f1 (by omega) g4 g5 g6 g7 g8)
  have htwo := choose_two (n := a.length) (k := g.main.toNat) (by omega) (by omega)
  have cR := hide (fun X p q c d (hX : Below w.heap.size w X) (hY : LineR X p q c d) => mrank_any g av tv p q ms c d X (h.below hX) hY)
  have hcl : ∀ r, r < choose a.length g.main.toNat → (combS (sortI a) g.main.toNat r).length ≤ 1000 := fun r hr => by rw [combS_len (by rw [sortI_len]; exact hr)]; omega
  have ha14 : a.length ≤ 14 := by omega
  have hb4 : b.length ≤ 4 := by omega
  have hSb : (sortI b).length ≤ 1000 := by rw [sortI_len]; omega
  have hexl := expL_len (sortI a) (sortI b) g.main.toNat
  rw [sortI_len] at hexl
  obtain ⟨q, hq⟩ : ∃ q, q = choose a.length g.main.toNat := ⟨_, rfl⟩
  rw [← hq] at cC hlaw hm hcl htwo hexl
  obtain ⟨SA, hSA⟩ : ∃ SA, SA = combS (sortI a) g.main.toNat := ⟨_, rfl⟩
  obtain ⟨SB, hSB⟩ : ∃ SB, SB = sortI b := ⟨_, rfl⟩
  obtain ⟨L, hL⟩ : ∃ L, L = expL (sortI a) (sortI b) g.main.toNat := ⟨_, rfl⟩
  have hget : ∀ r (hr : r < L.length), L[r] = (SA r, SB) := by
    intro r hr
    subst hL
    rw [expL_get hr, hSA, hSB]
  obtain ⟨lok, lless, lpos, lca, lcb⟩ := hlaw.out
  clear hlaw
  rw [← hSA, ← hSB] at lok lless lpos
  rw [← hSA] at lca hcl
  rw [← hSB] at lcb hSb
  rw [← hL] at cE hexl
  replace hSA := hide hSA
  replace hSB := hide hSB
  replace hL := hide hL
  replace hq := hide hq
  have hrule := hide (And.intro lok (And.intro lless (And.intro lpos (And.intro lca (And.intro hcl hget)))))
  replace lcb := hide lcb
  have n1 : (1 : Int) < (q : Int) := by omega
  have n2 : (q : Int) ≤ 1024 := by omega
  have hLl := hide hexl
  have hrdm := hide (fun X (hX : Below w.heap.size w X) => (hl.below hX))
  obtain ⟨aa, ac, rfl, hal, ham⟩ := h.1.1.shape
  obtain ⟨ta, tc, rfl, htl, htm⟩ := h.2.2.shape
  obtain ⟨ma, mc, rfl, hma, hmc, -⟩ := hl.1.form
  obtain ⟨ba, bc, rfl, hba, hbc, -⟩ := hl.2.form
  clear h hl he g1 g2 g3 g4 g5 g6 g7 g8 f1 f2 f3 f4 f5 f6 f7 f8 f9 ge gk lok lless lpos lca hcl hget hexl htwo hm
  unfold gameVal lineVal at cE cC ⊢
  go_enter Try.func5, Try.ntmps5
  go_upto_region 1 with (fail)
  obtain ⟨W, hW⟩ : ∃ W, W = ((w.alloc (Obj.cells #[.string g.name, .int .i64 g.kind, .int .i64 g.price, .int .i64 g.main, .int .i64 g.of, .int .i64 g.bonus, .int .i64 g.bonusOf, .int .i64 g.extra, .int .i64 g.draws, .int .i64 g.system, .int .i64 g.days, .int .i64 g.at_, .int .i64 g.close, .int .i64 g.cancel, .int .i64 g.expiry, .int .i64 g.pool, .int .i64 g.reserve, .int .i64 g.round, .int .i64 g.cap, .int .i64 g.rolls, (.slice aa ms.length ac), (.slice ta g.tiers.length tc)] 25)).alloc (Obj.cells #[(.slice ma a.length mc), (.slice ba b.length bc)] 28)) := ⟨_, rfl⟩
  have bW : Below w.heap.size w W := by rw [hW]; exact Bel.al (Bel.al (Below.refl _ _) _) _
  have r0 : GameAt W (w.heap.size) g ((.slice aa ms.length ac)) ((.slice ta g.tiers.length tc)) := by rw [hW]; exact Row.alloc (Row.new _ _ _) _
  have r1 : LineAt W (w.heap.size + 1) ((.slice ma a.length mc)) ((.slice ba b.length bc)) := by rw [hW]; exact Row.at2 _ _ _ _
  have sW : w.heap.size + 1 < W.heap.size := by rw [hW]; simp
  rw [← hW]
  clear hW
  go_wp2_with (first | (refine wpList_load_row rfl 25 _ rfl _ rfl _ _ _ _ r0 Try.underlying25 rfl (by kernel_rfl) ?_) | (refine wpList_load_row rfl 28 _ rfl _ rfl _ _ _ _ r1 Try.underlying28 rfl (by kernel_rfl) ?_) | fail)
  refine (cE.out _ bW).mono ?_
  rintro e w1 ⟨u, rfl, hu, hb1⟩
  have B1 := Bel.to bW hb1
  have r0 := r0.keep hb1
  have r1 := r1.keep hb1
  obtain ⟨ua, uc, rfl, hc1, hm1⟩ := hu.shape
  rw [hLl.out] at hu hc1 ⊢
  unfold maxLen at hm1
  clear hb1 bW
  go_wp2_with (first | (refine wpList_load_row rfl 25 _ rfl _ rfl _ _ _ _ r0 Try.underlying25 rfl (by kernel_rfl) ?_) | (refine wpList_load_row rfl 28 _ rfl _ rfl _ _ _ _ r1 Try.underlying28 rfl (by kernel_rfl) ?_) | fail)
  refine (cC.out _ B1).mono ?_
  rintro e w2 ⟨rfl, hb2⟩
  have B2 := Bel.to B1 hb2
  have r0 := r0.keep hb2
  have r1 := r1.keep hb2
  have hu := hide (hu.below hb2)
  clear hb2 B1 cE cC
  go_wp2
  go_loopg [9, 10, 11, 12] q (fun gh x t y z wr => ∃ (r : Nat) (last : Int), gh = q - r ∧ r ≤ q ∧ x = .int .i64 last ∧ t = .int .i64 (r : Int) ∧ Hid (∀ s, r ≤ s → s < q → last < rankG g (SA s) SB) ∧ Below w2.heap.size w2 wr)
  case atStart => exact ⟨0, -1, rfl, Nat.zero_le _, rfl, rfl, fun s _ hs => by have := hrule.out.2.2.1 s hs; omega, Below.refl _ _⟩
  case round =>
    obtain ⟨r, last, hgh, hr, rfl, rfl, hlast, hB⟩ := hrel
    replace hgh := hide hgh
    by_cases hlt : r < q
    · have hlt2 := hide hlt
      have hlk : r < L.length := by rw [hLl.out]; exact hlt
      obtain ⟨b1, off1, p, q', rfl, hbb, x1, y1, hl⟩ := (hu.out.below hB).at_ hlk
      rw [hrule.out.2.2.2.2.2 r hlk] at hl
      simp only [] at hl
      obtain ⟨p1, p2, p3, rfl⟩ := Rd.shape hl.1
      obtain ⟨q1, q2, q3, rfl⟩ := Rd.shape hl.2
      have hle := hrule.out.1 r hlt
      have hX1 := hlast.out r (Nat.le_refl _) hlt
      have hnext : Hid (∀ s, r + 1 ≤ s → s < q → rankG g (SA r) SB < rankG g (SA s) SB) := fun s hs hs2 => hrule.out.2.1 r s (by omega) hs2
      have hcA := hrule.out.2.2.2.1 r hlt
      have hcl := hrule.out.2.2.2.2.1 r hlt
      have g1 : wr.rangeAt w.heap.size 0 (gameCells g (.slice aa ms.length ac) (.slice ta g.tiers.length tc)) := by
        have h9 := r0.keep hB
        intro j v hv
        rw [Nat.zero_add]
        exact (Row.cell? h9 j).trans hv
      have g2 : wr.rangeAt b1 (off1 + r * 2) [.slice p1 p2 p3, .slice q1 q2 q3] := by
        intro j v hv
        match j, hv with
        | 0, hv => simp at hv; subst hv; exact x1
        | 1, hv => simp at hv; subst hv; exact y1
      have BW := Bel.to B2 hB
      have cK := cR.out wr.drew _ _ _ _ (Bel.to BW (Below.drewSelf _)) (hl.below (Below.drewSelf _))
      unfold rankP at cK
      rw [if_pos hle] at cK
      obtain ⟨X, hX⟩ : ∃ X, X = rankG g (SA r) SB := ⟨_, rfl⟩
      rw [← hX] at cK hX1 hnext
      replace cK := hide cK
      unfold lineVal gameVal at cK
      have j1 : (0 : Int) ≤ (r : Int) := by omega
      have j2 : (r : Int) < (q : Int) := by omega
      replace hle := hide hle
      replace hcA := hide hcA
      replace hX := hide hX
      clear x1 y1 hlast
      go_upto_region 9 with (fail)
      refine wp_region_held_drew (S := fun X => X.rangeAt w.heap.size 0 (gameCells g (.slice aa ms.length ac) (.slice ta g.tiers.length tc)) ∧ X.rangeAt b1 (off1 + r * 2) [.slice p1 p2 p3, .slice q1 q2 q3]) (by kernel_rfl) (⟨g1, g2⟩) (fun hHeld => ?_)
      refine' wpAnyH_take (i := 0) (oi := _) (v := _) rfl (by kernel_rfl) (by kernel_rfl) (by kernel_rfl) (fun _ _ _ h => h) (yieldsIf_load_mid (by first | (go_simp; done) | rfl) 25 _ rfl _ _ rfl (gameCells g (.slice aa ms.length ac) (.slice ta g.tiers.length tc)) _ (fun X h => h.1) Try.underlying25 rfl (by kernel_rfl)) hHeld ?_
      try simp only [Act.put, List.setIfInBounds_toArray, List.set_cons_zero, List.set_cons_succ]
      refine' wpAnyH_take (i := 1) (oi := _) (v := .slice (some ⟨b1, off1, none⟩) q uc) rfl (by kernel_rfl) (by kernel_rfl) (by kernel_rfl) (fun _ _ _ h => h) (Or.inl ⟨by first | (go_simp; done) | rfl, fun X _ => by go_simp⟩) hHeld ?_
      try simp only [Act.put, List.setIfInBounds_toArray, List.set_cons_zero, List.set_cons_succ]
      refine' wpAnyH_take (i := 2) (oi := _) (v := .int .i64 (r : Int)) rfl (by kernel_rfl) (by kernel_rfl) (by kernel_rfl) (fun _ _ _ h => h) (Or.inl ⟨by first | (go_simp; done) | rfl, fun X _ => by go_simp⟩) hHeld ?_
      try simp only [Act.put, List.setIfInBounds_toArray, List.set_cons_zero, List.set_cons_succ]
      refine' wpAnyH_take (i := 3) (oi := _) (v := .pointer (some ⟨b1, off1 + r * 2, none⟩)) rfl (by kernel_rfl) (by kernel_rfl) (by kernel_rfl) (fun _ _ _ h => h) (Or.inl ⟨by first | (go_simp; done) | rfl, fun X _ => by go_simp⟩) hHeld ?_
      try simp only [Act.put, List.setIfInBounds_toArray, List.set_cons_zero, List.set_cons_succ]
      refine' wpAnyH_take (i := 4) (oi := _) (v := .agg #[.slice p1 p2 p3, .slice q1 q2 q3]) rfl (by kernel_rfl) (by kernel_rfl) (by kernel_rfl) (fun _ _ _ h => h) (by refine (yieldsIf_load_mid ?_ 28 (.tmp 46) rfl b1 (off1 + r * 2) ?_ ([.slice p1 p2 p3, .slice q1 q2 q3]) _ (fun X h => h.2) Try.underlying28 rfl (by kernel_rfl)) <;> go_simp) hHeld ?_
      try simp only [Act.put, List.setIfInBounds_toArray, List.set_cons_zero, List.set_cons_succ]
      refine wpAnyH_ready (rs := [5]) (by kernel_rfl) (by simp) ?_
      refine AllReadyH.cons (o := _) rfl (fun K hK => ?_) AllReadyH.nil
      go_simp
      refine (cK.out).mono ?_
      rintro e w3 ⟨rfl, hb3⟩
      go_wp2_with fail
      refine hK.out _ _ (⟨rangeAt_keep15 hHeld.1 hb3, rangeAt_keep15 hHeld.2 hb3⟩) (fun hHeld => ?_)
      clear hK K
      try simp only [Act.put, List.setIfInBounds_toArray, List.set_cons_zero, List.set_cons_succ]
      refine' wpAnyH_take (i := 6) (oi := _) (v := .tuple #[.int .i64 X, .int .i64 0]) rfl (by kernel_rfl) (by kernel_rfl) (by kernel_rfl) (fun _ _ _ h => h) (Or.inl ⟨by first | (go_simp; done) | rfl, fun X _ => by go_simp⟩) hHeld ?_
      try simp only [Act.put, List.setIfInBounds_toArray, List.set_cons_zero, List.set_cons_succ]
      refine' wpAnyH_take (i := 7) (oi := _) (v := .int .i64 X) rfl (by kernel_rfl) (by kernel_rfl) (by kernel_rfl) (fun _ _ _ h => h) (Or.inl ⟨by first | (go_simp; done) | rfl, fun X _ => by go_simp⟩) hHeld ?_
      try simp only [Act.put, List.setIfInBounds_toArray, List.set_cons_zero, List.set_cons_succ]
      refine' wpAnyH_take (i := 8) (oi := _) (v := .int .i64 0) rfl (by kernel_rfl) (by kernel_rfl) (by kernel_rfl) (fun _ _ _ h => h) (Or.inl ⟨by first | (go_simp; done) | rfl, fun X _ => by go_simp⟩) hHeld ?_
      try simp only [Act.put, List.setIfInBounds_toArray, List.set_cons_zero, List.set_cons_succ]
      refine' wpAnyH_take (i := 9) (oi := _) (v := .int .i64 X) rfl (by kernel_rfl) (by kernel_rfl) (by kernel_rfl) (fun _ _ _ h => h) (Or.inl ⟨by first | (go_simp; done) | rfl, fun X _ => by go_simp⟩) hHeld ?_
      try simp only [Act.put, List.setIfInBounds_toArray, List.set_cons_zero, List.set_cons_succ]
      refine' wpAnyH_take (i := 10) (oi := _) (v := .int .i64 0) rfl (by kernel_rfl) (by kernel_rfl) (by kernel_rfl) (fun _ _ _ h => h) (Or.inl ⟨by first | (go_simp; done) | rfl, fun X _ => by go_simp⟩) hHeld ?_
      try simp only [Act.put, List.setIfInBounds_toArray, List.set_cons_zero, List.set_cons_succ]
      refine wpAnyH_done (by kernel_rfl) ?_ _
      go_simp
      have b3 := Bel.to (Below.drewSelf wr) hb3
      have hl3 := hl.below b3
      have B3 := Bel.to BW b3
      have hB3 := Bel.to hB b3
      have r03 := (r0.keep hB3).drew
      have r13 := (r1.keep hB3).drew
      replace g2 := rangeAt_keep15 g2 b3
      have cA := hide (fun Y (hY : Below w3.heap.size w3 Y) => hide (cnt15_any (.slice p1 p2 p3) (.slice ma a.length mc) (SA r) a Y (hl3.1.below hY) (hrdm.out Y (Bel.to B3 hY)).1 hcl (by omega)))
      have cB := hide (fun Y (hY : Below w3.heap.size w3 Y) => hide (cnt15_any (.slice q1 q2 q3) (.slice ba b.length bc) SB b Y (hl3.2.below hY) (hrdm.out Y (Bel.to B3 hY)).2 hSb (by omega)))
      have hB15 : Below w3.heap.size w3 w3.drew := Below.drewSelf w3
      rw [hcA.out] at cA
      rw [lcb.out] at cB
      have z1 : (g.main != g.main) = false := by simp
      have z2 : (g.bonus != g.bonus) = false := by simp
      have z3 : ¬ X ≤ last := by omega
      have z4 : decide (X ≤ last) = false := decide_eq_false z3
      clear cK g1 hl BW hB hb3
      go_upto_region 10 with (fail)
      refine wp_region_held_drew (S := fun X => Rng X [(w.heap.size, gameCells g (.slice aa ms.length ac) (.slice ta g.tiers.length tc)), (w.heap.size + 1, [(.slice ma a.length mc), (.slice ba b.length bc)])] ∧ X.rangeAt b1 (off1 + r * 2) [.slice p1 p2 p3, .slice q1 q2 q3]) (by kernel_rfl) (⟨Rng.cons r03 (Rng.cons r13 (Rng.nil _)), g2⟩) (fun hHeld => ?_)
      refine' wpAnyH_take (i := 0) (oi := _) (v := .int .i64 0) rfl (by kernel_rfl) (by kernel_rfl) (by kernel_rfl) (fun _ _ _ h => h) (Or.inl ⟨by first | (go_simp; done) | rfl, fun X _ => by go_simp⟩) hHeld ?_
      try simp only [Act.put, List.setIfInBounds_toArray, List.set_cons_zero, List.set_cons_succ]
      refine' wpAnyH_take (i := 1) (oi := _) (v := .bool false) rfl (by kernel_rfl) (by kernel_rfl) (by kernel_rfl) (fun _ _ _ h => h) (Or.inl ⟨by first | (go_simp; done) | rfl, fun X _ => by go_simp⟩) hHeld ?_
      try simp only [Act.put, List.setIfInBounds_toArray, List.set_cons_zero, List.set_cons_succ]
      refine' wpAnyH_take (i := 2) (oi := _) (v := .bool false) rfl (by kernel_rfl) (by kernel_rfl) (by kernel_rfl) (fun _ _ _ h => h) (Or.inl ⟨by first | (go_simp; done) | rfl, fun X _ => by go_simp⟩) hHeld ?_
      try simp only [Act.put, List.setIfInBounds_toArray, List.set_cons_zero, List.set_cons_succ]
      refine' wpAnyH_take (i := 3) (oi := _) (v := .int .i64 X) rfl (by kernel_rfl) (by kernel_rfl) (by kernel_rfl) (fun _ _ _ h => h) (Or.inl ⟨by first | (go_simp; done) | rfl, fun X _ => by go_simp⟩) hHeld ?_
      try simp only [Act.put, List.setIfInBounds_toArray, List.set_cons_zero, List.set_cons_succ]
      refine' wpAnyH_take (i := 4) (oi := _) (v := .int .i64 last) rfl (by kernel_rfl) (by kernel_rfl) (by kernel_rfl) (fun _ _ _ h => h) (Or.inl ⟨by first | (go_simp; done) | rfl, fun X _ => by go_simp⟩) hHeld ?_
      try simp only [Act.put, List.setIfInBounds_toArray, List.set_cons_zero, List.set_cons_succ]
      refine' wpAnyH_take (i := 5) (oi := _) (v := .bool false) rfl (by kernel_rfl) (by kernel_rfl) (by kernel_rfl) (fun _ _ _ h => h) (Or.inl ⟨by first | (go_simp; done) | rfl, fun X _ => by go_simp⟩) hHeld ?_
      try simp only [Act.put, List.setIfInBounds_toArray, List.set_cons_zero, List.set_cons_succ]
      refine' wpAnyH_take (i := 6) (oi := _) (v := .bool false) rfl (by kernel_rfl) (by kernel_rfl) (by kernel_rfl) (fun _ _ _ h => h) (Or.inl ⟨by first | (go_simp; done) | rfl, fun X _ => by go_simp⟩) hHeld ?_
      try simp only [Act.put, List.setIfInBounds_toArray, List.set_cons_zero, List.set_cons_succ]
      refine' wpAnyH_take (i := 7) (oi := _) (v := .bool false) rfl (by kernel_rfl) (by kernel_rfl) (by kernel_rfl) (fun _ _ _ h => h) (Or.inl ⟨by first | (go_simp; done) | rfl, fun X _ => by go_simp⟩) hHeld ?_
      try simp only [Act.put, List.setIfInBounds_toArray, List.set_cons_zero, List.set_cons_succ]
      refine' wpAnyH_take (i := 8) (oi := _) (v := .slice (some ⟨b1, off1, none⟩) q uc) rfl (by kernel_rfl) (by kernel_rfl) (by kernel_rfl) (fun _ _ _ h => h) (Or.inl ⟨by first | (go_simp; done) | rfl, fun X _ => by go_simp⟩) hHeld ?_
      try simp only [Act.put, List.setIfInBounds_toArray, List.set_cons_zero, List.set_cons_succ]
      refine' wpAnyH_take (i := 9) (oi := _) (v := .int .i64 (r : Int)) rfl (by kernel_rfl) (by kernel_rfl) (by kernel_rfl) (fun _ _ _ h => h) (Or.inl ⟨by first | (go_simp; done) | rfl, fun X _ => by go_simp⟩) hHeld ?_
      try simp only [Act.put, List.setIfInBounds_toArray, List.set_cons_zero, List.set_cons_succ]
      refine' wpAnyH_take (i := 10) (oi := _) (v := .pointer (some ⟨b1, off1 + r * 2, none⟩)) rfl (by kernel_rfl) (by kernel_rfl) (by kernel_rfl) (fun _ _ _ h => h) (Or.inl ⟨by first | (go_simp; done) | rfl, fun X _ => by go_simp⟩) hHeld ?_
      try simp only [Act.put, List.setIfInBounds_toArray, List.set_cons_zero, List.set_cons_succ]
      refine' wpAnyH_take (i := 11) (oi := _) (v := .pointer (some ⟨b1, off1 + r * 2, none⟩)) rfl (by kernel_rfl) (by kernel_rfl) (by kernel_rfl) (fun _ _ _ h => h) (Or.inl ⟨by first | (go_simp; done) | rfl, fun X _ => by go_simp⟩) hHeld ?_
      try simp only [Act.put, List.setIfInBounds_toArray, List.set_cons_zero, List.set_cons_succ]
      refine' wpAnyH_take (i := 12) (oi := _) (v := .slice p1 p2 p3) rfl (by kernel_rfl) (by kernel_rfl) (by kernel_rfl) (fun _ _ _ h => h) (Or.inl ⟨by first | (go_simp; done) | rfl, fun X hX => by have cX := show X.cell? ⟨b1, off1 + r * 2, none⟩ = some (.slice p1 p2 p3) from hX.2 0 _ rfl; go_simp⟩) hHeld ?_
      try simp only [Act.put, List.setIfInBounds_toArray, List.set_cons_zero, List.set_cons_succ]
      refine' wpAnyH_take (i := 13) (oi := _) (v := .pointer (some ⟨w.heap.size + 1, 0, none⟩)) rfl (by kernel_rfl) (by kernel_rfl) (by kernel_rfl) (fun _ _ _ h => h) (Or.inl ⟨by first | (go_simp; done) | rfl, fun X _ => by go_simp⟩) hHeld ?_
      try simp only [Act.put, List.setIfInBounds_toArray, List.set_cons_zero, List.set_cons_succ]
      refine' wpAnyH_take (i := 14) (oi := _) (v := (.slice ma a.length mc)) rfl (by kernel_rfl) (by kernel_rfl) (by kernel_rfl) (fun _ _ _ h => h) (Or.inl ⟨by first | (go_simp; done) | rfl, fun X hX => by have cX := hX.1.cell1 0 _ rfl; go_simp⟩) hHeld ?_
      try simp only [Act.put, List.setIfInBounds_toArray, List.set_cons_zero, List.set_cons_succ]
      refine' wpAnyH_take (i := 16) (oi := _) (v := .pointer (some ⟨w.heap.size, 3, none⟩)) rfl (by kernel_rfl) (by kernel_rfl) (by kernel_rfl) (fun _ _ _ h => h) (Or.inl ⟨by first | (go_simp; done) | rfl, fun X _ => by go_simp⟩) hHeld ?_
      try simp only [Act.put, List.setIfInBounds_toArray, List.set_cons_zero, List.set_cons_succ]
      refine' wpAnyH_take (i := 17) (oi := _) (v := .int .i64 g.main) rfl (by kernel_rfl) (by kernel_rfl) (by kernel_rfl) (fun _ _ _ h => h) (Or.inl ⟨by first | (go_simp; done) | rfl, fun X hX => by have cX := hX.1.cell0 3 _ rfl; go_simp⟩) hHeld ?_
      try simp only [Act.put, List.setIfInBounds_toArray, List.set_cons_zero, List.set_cons_succ]
      refine wpAnyH_ready (rs := [15]) (by kernel_rfl) (by simp) ?_
      refine AllReadyH.cons (o := _) rfl (fun K hK => ?_) AllReadyH.nil
      go_simp
      refine ((cA.out _ hB15).out).mono ?_
      rintro e w5 ⟨rfl, hb5⟩
      go_wp2_with fail
      refine hK.out _ _ (⟨hHeld.1.keep hb5, rangeAt_keep15 hHeld.2 hb5⟩) (fun hHeld => ?_)
      clear hK K
      try simp only [Act.put, List.setIfInBounds_toArray, List.set_cons_zero, List.set_cons_succ]
      refine' wpAnyH_take (i := 18) (oi := _) (v := .bool false) rfl (by kernel_rfl) (by kernel_rfl) (by kernel_rfl) (fun _ _ _ h => h) (Or.inl ⟨by first | (go_simp; done) | rfl, fun X _ => by go_simp⟩) hHeld ?_
      try simp only [Act.put, List.setIfInBounds_toArray, List.set_cons_zero, List.set_cons_succ]
      refine' wpAnyH_take (i := 19) (oi := _) (v := .bool false) rfl (by kernel_rfl) (by kernel_rfl) (by kernel_rfl) (fun _ _ _ h => h) (Or.inl ⟨by first | (go_simp; done) | rfl, fun X _ => by go_simp⟩) hHeld ?_
      try simp only [Act.put, List.setIfInBounds_toArray, List.set_cons_zero, List.set_cons_succ]
      refine' wpAnyH_take (i := 20) (oi := _) (v := .bool false) rfl (by kernel_rfl) (by kernel_rfl) (by kernel_rfl) (fun _ _ _ h => h) (Or.inl ⟨by first | (go_simp; done) | rfl, fun X _ => by go_simp⟩) hHeld ?_
      try simp only [Act.put, List.setIfInBounds_toArray, List.set_cons_zero, List.set_cons_succ]
      refine' wpAnyH_take (i := 21) (oi := _) (v := .slice (some ⟨b1, off1, none⟩) q uc) rfl (by kernel_rfl) (by kernel_rfl) (by kernel_rfl) (fun _ _ _ h => h) (Or.inl ⟨by first | (go_simp; done) | rfl, fun X _ => by go_simp⟩) hHeld ?_
      try simp only [Act.put, List.setIfInBounds_toArray, List.set_cons_zero, List.set_cons_succ]
      refine' wpAnyH_take (i := 22) (oi := _) (v := .int .i64 (r : Int)) rfl (by kernel_rfl) (by kernel_rfl) (by kernel_rfl) (fun _ _ _ h => h) (Or.inl ⟨by first | (go_simp; done) | rfl, fun X _ => by go_simp⟩) hHeld ?_
      try simp only [Act.put, List.setIfInBounds_toArray, List.set_cons_zero, List.set_cons_succ]
      refine' wpAnyH_take (i := 23) (oi := _) (v := .pointer (some ⟨b1, off1 + r * 2, none⟩)) rfl (by kernel_rfl) (by kernel_rfl) (by kernel_rfl) (fun _ _ _ h => h) (Or.inl ⟨by first | (go_simp; done) | rfl, fun X _ => by go_simp⟩) hHeld ?_
      try simp only [Act.put, List.setIfInBounds_toArray, List.set_cons_zero, List.set_cons_succ]
      refine' wpAnyH_take (i := 24) (oi := _) (v := .pointer (some ⟨b1, off1 + r * 2 + 1, none⟩)) rfl (by kernel_rfl) (by kernel_rfl) (by kernel_rfl) (fun _ _ _ h => h) (Or.inl ⟨by first | (go_simp; done) | rfl, fun X _ => by go_simp⟩) hHeld ?_
      try simp only [Act.put, List.setIfInBounds_toArray, List.set_cons_zero, List.set_cons_succ]
      refine' wpAnyH_take (i := 25) (oi := _) (v := .slice q1 q2 q3) rfl (by kernel_rfl) (by kernel_rfl) (by kernel_rfl) (fun _ _ _ h => h) (Or.inl ⟨by first | (go_simp; done) | rfl, fun X hX => by have cX := hX.2 1 _ rfl; go_simp⟩) hHeld ?_
      try simp only [Act.put, List.setIfInBounds_toArray, List.set_cons_zero, List.set_cons_succ]
      refine' wpAnyH_take (i := 26) (oi := _) (v := .pointer (some ⟨w.heap.size + 1, 1, none⟩)) rfl (by kernel_rfl) (by kernel_rfl) (by kernel_rfl) (fun _ _ _ h => h) (Or.inl ⟨by first | (go_simp; done) | rfl, fun X _ => by go_simp⟩) hHeld ?_
      try simp only [Act.put, List.setIfInBounds_toArray, List.set_cons_zero, List.set_cons_succ]
      refine' wpAnyH_take (i := 27) (oi := _) (v := (.slice ba b.length bc)) rfl (by kernel_rfl) (by kernel_rfl) (by kernel_rfl) (fun _ _ _ h => h) (Or.inl ⟨by first | (go_simp; done) | rfl, fun X hX => by have cX := hX.1.cell1 1 _ rfl; go_simp⟩) hHeld ?_
      try simp only [Act.put, List.setIfInBounds_toArray, List.set_cons_zero, List.set_cons_succ]
      refine' wpAnyH_take (i := 29) (oi := _) (v := .pointer (some ⟨w.heap.size, 5, none⟩)) rfl (by kernel_rfl) (by kernel_rfl) (by kernel_rfl) (fun _ _ _ h => h) (Or.inl ⟨by first | (go_simp; done) | rfl, fun X _ => by go_simp⟩) hHeld ?_
      try simp only [Act.put, List.setIfInBounds_toArray, List.set_cons_zero, List.set_cons_succ]
      refine' wpAnyH_take (i := 30) (oi := _) (v := .int .i64 g.bonus) rfl (by kernel_rfl) (by kernel_rfl) (by kernel_rfl) (fun _ _ _ h => h) (Or.inl ⟨by first | (go_simp; done) | rfl, fun X hX => by have cX := hX.1.cell0 5 _ rfl; go_simp⟩) hHeld ?_
      try simp only [Act.put, List.setIfInBounds_toArray, List.set_cons_zero, List.set_cons_succ]
      refine wpAnyH_ready (rs := [28]) (by kernel_rfl) (by simp) ?_
      refine AllReadyH.cons (o := _) rfl (fun K hK => ?_) AllReadyH.nil
      go_simp
      refine ((cB.out _ (Bel.to hB15 hb5)).out).mono ?_
      rintro e w6 ⟨rfl, hb6⟩
      go_wp2_with fail
      refine hK.out _ _ (⟨hHeld.1.keep hb6, rangeAt_keep15 hHeld.2 hb6⟩) (fun hHeld => ?_)
      clear hK K
      try simp only [Act.put, List.setIfInBounds_toArray, List.set_cons_zero, List.set_cons_succ]
      refine' wpAnyH_take (i := 31) (oi := _) (v := .bool false) rfl (by kernel_rfl) (by kernel_rfl) (by kernel_rfl) (fun _ _ _ h => h) (Or.inl ⟨by first | (go_simp; done) | rfl, fun X _ => by go_simp⟩) hHeld ?_
      try simp only [Act.put, List.setIfInBounds_toArray, List.set_cons_zero, List.set_cons_succ]
      refine' wpAnyH_take (i := 32) (oi := _) (v := .bool false) rfl (by kernel_rfl) (by kernel_rfl) (by kernel_rfl) (fun _ _ _ h => h) (Or.inl ⟨by first | (go_simp; done) | rfl, fun X _ => by go_simp⟩) hHeld ?_
      try simp only [Act.put, List.setIfInBounds_toArray, List.set_cons_zero, List.set_cons_succ]
      refine wpAnyH_done (by kernel_rfl) ?_ _
      go_simp
      have B6 := Bel.to hB3 (Bel.to (Bel.to hB15 hb5) hb6)
      clear hHeld cA cB hb5 hb6 g2 hB3
      go_wp2
      go_roundg (q - (r + 1))
      case measure => have := hgh.out; have := hlt2.out; omega
      case rel => exact ⟨r + 1, X, rfl, by have := hlt2.out; omega, rfl, by go_num, hnext, B6⟩
    · have hrq : r = q := by omega
      subst hrq
      have B3 := Bel.to B2 hB
      have j2 : ((r : Int) == (r : Int)) = true := by simp
      clear hlast hB hu
      go_wp2_with fail
      refine (lives15_any _).mono ?_
      rintro e w4 ⟨rfl, hb4⟩
      go_wp2
      go_ret
      exact ⟨rfl, Bel.to B3 hb4⟩

theorem lines15_any (g : GameD) (av tv mv bv : Value) (ms : List AddonM) (a b : List Int) (w : World) (h : GameR w av tv ms g) (hl : LineR w mv bv a b) :
    Calls Try.prog 5 #[gameVal g av tv, lineVal mv bv] w (BoolB true w) := by
  by_cases he : (expP g a b).2 = 0
  · unfold expP at he
    by_cases h1 : sysE g a b = 0
    · rw [if_neg (by simpa using h1)] at he
      by_cases h2 : 1024 < choose a.length g.main.toNat
      · rw [if_pos h2] at he; exact absurd he (by simp)
      · exact lines15_ok g av tv mv bv ms a b w h hl h1 (by omega)
    · rw [if_pos h1] at he; exact absurd he h1
  · exact lines15_no g av tv mv bv ms a b w h hl he
end Go.Proofs.Ytgmbnbdbmkdlgaa
end

section
/- SystemLines: for every input the Go function lotterylaw15.SystemLines returns true, and each argument reads afterwards as before. Conditions: none. -/
namespace Go.Proofs.Ytgmbnbdbmkdlgaa.systemLines
open Go.ChangeShapes Go.WideShapes Go.ChangeAt Go.RowKit
set_option linter.unusedVariables false

theorem own : ownKnob Try.prog.godebug = none := by kernel_rfl
theorem laidOut : laidOutB Try.prog = true := by kernel_rfl

set_option maxRecDepth 100000 in
theorem lifted (os : Os) (started : os.Started) (H : Type) (enc : TypeId × Value → H) :
    ReturnsInHanded {} Try.checked os 5 .any (Rows.systemLinesSpec.pre6 enc Try.prog Try.f5 Rows.systemLinesRow.domain false) (Rows.systemLinesSpec.post enc Try.prog Try.f5 false true false false) := by
  refine returnsInHanded_of_change (C := Try.checked) own started (by kernel_rfl) Try.func5
    (ChangeSpec.witness6 (enc := enc) (C := Try.checked) false ⟨#[], #[.agg #[.string ⟨#[]⟩, .int .i64 0, .int .i64 0, .int .i64 0, .int .i64 0, .int .i64 0, .int .i64 0, .int .i64 0, .int .i64 0, .int .i64 0, .int .i64 0, .int .i64 0, .int .i64 0, .int .i64 0, .int .i64 0, .int .i64 0, .int .i64 0, .int .i64 0, .int .i64 0, .int .i64 0, .slice none 0 0, .slice none 0 0], .agg #[.slice none 0 0, .slice none 0 0]], []⟩ 8 (by kernel_rfl) (by kernel_rfl) (by kernel_rfl) (by kernel_rfl)) ?_
  intro W base args ds gs before hval0 hW hcnd _
  have hval : ∀ (j : Nat) t v, Try.f5.params[j]? = some t → args[j]? = some v → Value.okWide Try.prog W .any base t v := hval0
  have hW' := hW
  obtain ⟨p, q, hA0, hV, rfl, hfz, hnd⟩ := hW
  have hA : DataW.TrodAll enc Try.prog W 0 (fun _ => true) true Try.f5.params.toList args.toList ds p := hA0
  rw [Try.params5] at hA hval
  obtain ⟨v0, vs0, d0, ds0, p0, q0, hargs, rfl, rfl, h0, r0⟩ := trodAll_cons hA
  obtain ⟨v1, vs1, d1, ds1, p1, q1, rfl, rfl, rfl, h1, r1⟩ := trodAll_cons r0
  obtain ⟨rfl, rfl, rfl⟩ := trodAll_nil r1
  obtain rfl : args = #[v0, v1] := by cases args; simp_all
  obtain ⟨rfl, rfl⟩ := trodVars_none hV
  obtain ⟨cs0, rfl, hsz0⟩ := okWide_struct Try.underlying25 (hval 0 25 v0 rfl rfl)
  have k0 := h0
  have lt0 : ∀ x ∈ p0, x.block < W.heap.size := by obtain ⟨m, hm⟩ := k0; exact DataW.trod_lt m _ _ _ hm
  obtain ⟨g0, av0, tv0, ms0, eg0, rg0⟩ := game_trod h0
  rw [eg0] at k0 hW' ⊢
  obtain ⟨cs1, rfl, hsz1⟩ := okWide_struct Try.underlying28 (hval 1 28 v1 rfl rfl)
  have k1 := h1
  have lt1 : ∀ x ∈ p1, x.block < W.heap.size := by obtain ⟨m, hm⟩ := k1; exact DataW.trod_lt m _ _ _ hm
  obtain ⟨mv1, bv1, la1, lb1, eg1, rg1⟩ := line_trod h1
  rw [eg1] at k1 hW' ⊢
  clear hA0 hval0
  refine (lines15_any g0 av0 tv0 mv1 bv1 ms0 la1 lb1 W rg0 rg1).mono fun e W' ⟨he, bel⟩ => ?_
  subst he
  exact ⟨_, rfl, _, _, _, [], _, [], hW', trodAll_mk1 (shut_bool Try.underlying4 _), (trodAll_cons_mk (Below.trod laidOut (by kernel_rfl) (of_decide_eq_true (by kernel_rfl)) k0 bel lt0) (trodAll_cons_mk (Below.trod laidOut (by kernel_rfl) (of_decide_eq_true (by kernel_rfl)) k1 bel lt1) trodAll_mk0)), rfl, bel.frame _, fun h => by cases h⟩

theorem over : Rows.systemLinesRow.holds Try.pinned (OpenSpec.ofChange Rows.systemLinesSpec) :=
  OpenClaim.holds_of_wide 5 Try.f5 rfl rfl rfl rfl rfl rfl rfl ⟨rfl, rfl, rfl, rfl, rfl⟩ rfl rfl rfl rfl rfl (by kernel_rfl) Try.func5 (by kernel_rfl)
    (of_decide_eq_true (by kernel_rfl)) (by unfold Func.isWrapper; first | (rw [if_pos (by decide +kernel)]; kernel_rfl) | (rw [if_neg (by decide +kernel)]; exact ⟨rfl, rfl⟩))
    (fun os started H enc _ => lifted os started H enc)

theorem proved : Rows.SystemLinesSaid := over
#print axioms proved
end Go.Proofs.Ytgmbnbdbmkdlgaa.systemLines
end

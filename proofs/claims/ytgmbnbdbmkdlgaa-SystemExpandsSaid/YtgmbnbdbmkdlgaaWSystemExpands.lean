/- SystemExpands: for every input the Go function lotterylaw15.SystemExpands returns true, and each argument reads afterwards as before. Conditions: none. -/
import Derived.BigQuiet
import Derived.Test.YtgmbnbdbmkdlgaaRows
import Derived.WalkKit
import Derived.ProofKit
import Derived.OpenShut
import Derived.ChangeOld
import Derived.Below
import Derived.Test.YtgmbnbdbmkdlgaaGLine
import Derived.Test.YtgmbnbdbmkdlgaaGSysB
import Derived.Test.YtgmbnbdbmkdlgaaGRule
import Derived.Test.YtgmbnbdbmkdlgaaGSysA
import Derived.Test.YtgmbnbdbmkdlgaaGTrod

section
/- lotteryref15.Sorted: a list in ascending order, sorted in place. Condition: at most 1000 elements. -/
open Go.RowKit
set_option linter.unusedVariables false
set_option linter.unusedSimpArgs false
namespace Go.Proofs.Ytgmbnbdbmkdlgaa

def InsP (P : List Int) (i k : Nat) : Prop := (∀ a b, a < b → b ≤ i → a ≠ k → b ≠ k → P.getD a 0 ≤ P.getD b 0) ∧ (∀ b, k < b → b ≤ i → P.getD k 0 < P.getD b 0)
def SrtP (P : List Int) (i : Nat) : Prop := ∀ a b, a < b → b < i → P.getD a 0 ≤ P.getD b 0

theorem getD_swap {P : List Int} {k m : Nat} (hk : k < P.length) (hm : m < P.length) (x y : Int) (j : Nat) : ((P.set k y).set m x).getD j 0 = if j = m then x else if j = k then y else P.getD j 0 := by
  rw [List.getD_eq_getElem?_getD, List.getElem?_set, List.getElem?_set]
  by_cases h1 : j = m
  · subst h1
    rw [if_pos rfl, if_pos (by simpa using hm), if_pos rfl]
    rfl
  · rw [if_neg (fun h => h1 h.symm), if_neg h1]
    by_cases h2 : j = k
    · subst h2
      rw [if_pos rfl, if_pos hk, if_pos rfl]
      rfl
    · rw [if_neg (fun h => h2 h.symm), if_neg h2, List.getD_eq_getElem?_getD]

theorem insP_start {P : List Int} {i : Nat} (h : SrtP P i) : InsP P i i := ⟨fun a b hab hb _ hbi => h a b hab (by omega), fun b h1 h2 => by omega⟩
theorem insP_stop {P : List Int} {i k : Nat} (h : InsP P i k) (hk : k ≤ i) (hs : k = 0 ∨ P.getD (k - 1) 0 ≤ P.getD k 0) : SrtP P (i + 1) := by
  intro a b hab hb
  by_cases ha : a = k
  · subst ha
    have := h.2 b hab (by omega)
    omega
  · by_cases hbk : b = k
    · subst hbk
      rcases hs with hs | hs
      · omega
      · by_cases hak : a = b - 1
        · rw [hak]; exact hs
        · have := h.1 a (b - 1) (by omega) (by omega) (by omega) (by omega)
          omega
    · exact h.1 a b hab (by omega) ha hbk
theorem insP_step {P : List Int} {i k : Nat} (h : InsP P i k) (hk0 : 0 < k) (hk : k ≤ i) (hi : i < P.length) (hlt : P.getD k 0 < P.getD (k - 1) 0) : InsP ((P.set k (P.getD (k - 1) 0)).set (k - 1) (P.getD k 0)) i (k - 1) := by
  refine ⟨fun a b hab hb ha hbk => ?_, fun b h1 h2 => ?_⟩
  · rw [getD_swap (by omega) (by omega), getD_swap (by omega) (by omega), if_neg ha, if_neg hbk]
    by_cases e1 : a = k
    · subst e1
      rw [if_pos rfl, if_neg (by omega)]
      exact h.1 (a - 1) b (by omega) hb (by omega) (by omega)
    · rw [if_neg e1]
      by_cases e2 : b = k
      · subst e2
        rw [if_pos rfl]
        exact h.1 a (b - 1) (by omega) (by omega) (by omega) (by omega)
      · rw [if_neg e2]
        exact h.1 a b hab hb e1 e2
  · rw [getD_swap (by omega) (by omega), getD_swap (by omega) (by omega), if_pos rfl, if_neg (by omega)]
    by_cases e2 : b = k
    · rw [if_pos e2]; exact hlt
    · rw [if_neg e2]; exact h.2 b (by omega) h2
theorem srt_all {P : List Int} (h : SrtP P P.length) : P.Pairwise (· ≤ ·) := by
  rw [List.pairwise_iff_getElem]
  intro i j hi hj hij
  have := h i j hij hj
  rwa [List.getD_eq_getElem?_getD, List.getD_eq_getElem?_getD, List.getElem?_eq_getElem hi, List.getElem?_eq_getElem hj] at this
theorem swap_perm {P : List Int} {k m : Nat} (hk : k < P.length) (hm : m < P.length) : ((P.set k (P.getD m 0)).set m (P.getD k 0)).Perm P := by
  rw [List.getD_eq_getElem?_getD, List.getD_eq_getElem?_getD, List.getElem?_eq_getElem hk, List.getElem?_eq_getElem hm]
  exact List.set_set_perm hk hm

section
variable {α : Type} {V : α → Value} {w : World} {g : Nat} {t : TypeId} {P : List α} {rest : List Value}
theorem Row.cellA (h : Row w g t (P.map V ++ rest)) {i : Nat} (hi : i < P.length) : w.cell? ⟨g, i, none⟩ = some (V P[i]) := by
  rw [h.cell?, List.getElem?_append_left (by simpa using hi), List.getElem?_map, List.getElem?_eq_getElem hi]; rfl
theorem Row.setA (h : Row w g t (P.map V ++ rest)) {i : Nat} (hi : i < P.length) (x : α) : Row (w.setCell ⟨g, i, none⟩ (V x)) g t ((P.set i x).map V ++ rest) := by
  have := h.set i (V x)
  rw [List.set_append_left _ _ (by simpa using hi), ← List.map_set] at this
  exact this
theorem Row.rdA (h : Row w g t (P.map V ++ rest)) {n c : Nat} (hn : n = P.length) (hc : n ≤ c) (hm : c ≤ maxLen) : Rd V w (.slice (some ⟨g, 0, none⟩) n c) P := by
  subst hn
  refine ⟨_, c, rfl, hc, hm, fun _ => ⟨g, 0, rfl, h.lt, fun i x hx => ?_⟩⟩
  obtain ⟨hi, rfl⟩ := List.getElem?_eq_some_iff.1 hx
  rw [Nat.zero_add]
  exact h.cellA hi
end
theorem Own.row {α : Type} {V : α → Value} {w : World} {base e : Nat} {v : Value} {l : List α} (h : Own V w base e v l) (hl : 0 < l.length) : ∃ g cap rest, v = .slice (some ⟨g, 0, none⟩) l.length cap ∧ base ≤ g ∧ Row w g e (l.map V ++ rest) ∧ l.length ≤ cap ∧ cap ≤ maxLen := by
  rcases h.2 with ⟨rfl, h0⟩ | ⟨g, cap, cur, rfl, hb, hh, hnc, hcm, hsz, ht⟩
  · omega
  · refine ⟨g, cap, cur.toList.drop (l.length * 1), rfl, hb, ?_, hnc, hcm⟩
    rw [← ht, List.take_append_drop]
    exact hh

set_option maxHeartbeats 4000000 in
set_option maxRecDepth 100000 in
theorem sorted15_fr (v : Value) (l : List Int) (w : World) (h : Rd I64 w v l) (hl : l.length ≤ 1000) :
    Calls Try.prog 33 #[v] w (ListF (sortI l) w) := by
  have hh := hide h
  obtain ⟨ao, cap, rfl, hle, hmax, hrd⟩ := Rd.form h
  have hmax2 : cap ≤ 9223372036854775807 := by unfold maxLen at hmax; omega
  clear h hrd
  obtain ⟨n, hn⟩ : ∃ n, n = l.length := ⟨_, rfl⟩
  have hns := hide hn.symm
  rw [← hn] at hl hle hh ⊢
  clear hn
  go_enter Try.func33, Try.ntmps33
  go_wp2_with (with_reducible refine wpList_append_rd _ rfl _ _ 26 rfl (V := I64) (fun _ => rfl) w.heap.size 3 (.int .i64 0) 8 Try.underlying26 infoInt rfl _ [] rfl ?_ _ l rfl ?_ ?_ ?_ ?_ ?_)
  case refine_1 => exact Own.ofRow (m := 0) (z := .int .i64 0) (Row.new _ _ _) (Nat.le_refl _) (by omega)
  case refine_2 => exact hh.out.alloc _
  case refine_3 => have := hns.out; simp; omega
  case refine_4 => have := hns.out; simp; omega
  case refine_5 => simp
  intro v2 w2 hown2 hg2w hv2
  have bw2 : Below w.heap.size w w2 := (Bel.al (Below.refl _ _) _).grown hg2w (by simp) (fun g hg => by simp [Value.ownBlock] at hg; omega)
  clear hg2w hv2 hh
  by_cases h0 : n = 0
  · have hnil : l = [] := List.eq_nil_of_length_eq_zero (by rw [hns.out]; exact h0)
    subst hnil
    subst h0
    obtain ⟨a2, c2, rfl⟩ := hown2.shape
    have hrd2 := hown2.rd
    rw [List.length_nil] at hrd2 ⊢
    clear hown2 hns
    go_wp2
    go_loopg [4] 0 (fun gh t wr => gh = 0 ∧ t = .int .i64 1 ∧ wr = w2)
    case atStart => exact ⟨rfl, rfl, rfl⟩
    case round =>
      obtain ⟨-, rfl, rfl⟩ := hrel
      go_wp2
      go_ret
      refine ⟨_, rfl, ?_, .inl sortI_nil, bw2⟩
      rw [sortI_nil]
      exact hrd2
  · obtain ⟨g, c2, rest, rfl, hg, hrow, hc1, hc2⟩ := hown2.row (by rw [hns.out]; omega)
    rw [hns.out] at hc1 ⊢
    have hc3 : c2 ≤ 9223372036854775807 := by unfold maxLen at hc2; omega
    have n0 : 1 ≤ n := by omega
    clear hown2 h0
    go_wp2
    go_loopg [4] (n - 1) (fun gh t wr => ∃ (i : Nat) (P : List Int), gh = n - i ∧ 1 ≤ i ∧ i ≤ n ∧ t = .int .i64 (i : Int) ∧ Row wr g 3 (P.map I64 ++ rest) ∧ Hid (P.length = n) ∧ Hid (P.Perm l) ∧ Hid (SrtP P i) ∧ Below w.heap.size w wr)
    case atStart => exact ⟨1, l, rfl, Nat.le_refl _, n0, rfl, hrow, hns.out, List.Perm.refl _, fun a b hab hb => by omega, bw2⟩
    case round =>
      obtain ⟨i, P, hgh, hi1, hi, rfl, hrowP, hlen, hperm, hsrt, hB⟩ := hrel
      replace hgh := hide hgh
      by_cases hlt : i < n
      · have hlt2 := hide hlt
        have i1 : (0 : Int) ≤ (i : Int) := by omega
        have i2 : (i : Int) < (n : Int) := by omega
        go_wp2
        go_loopg [5] i (fun gh t wr => ∃ (k : Nat) (Q : List Int), gh = k ∧ k ≤ i ∧ t = .int .i64 (k : Int) ∧ Row wr g 3 (Q.map I64 ++ rest) ∧ Hid (Q.length = n) ∧ Hid (Q.Perm l) ∧ Hid (InsP Q i k) ∧ Below w.heap.size w wr)
        case atStart => exact ⟨i, P, rfl, Nat.le_refl _, rfl, hrowP, hlen, hperm, insP_start hsrt.out, hB⟩
        case round =>
          obtain ⟨k, Q, hgk, hk, rfl, hrowQ, hlenQ, hpermQ, hins, hBQ⟩ := hrel
          replace hgk := hide hgk
          have k2 : (k : Int) < (n : Int) := by omega
          have kQ : k < Q.length := by rw [hlenQ.out]; omega
          by_cases hk0 : k = 0
          · subst hk0
            have hs := hide (insP_stop hins.out hk (.inl rfl))
            go_wp2
            go_quiet (fail)
            go_wp2
            go_roundg (n - (i + 1))
            case measure => have := hgh.out; have := hlt2.out; omega
            case rel => exact ⟨i + 1, Q, rfl, by omega, by have := hlt2.out; omega, by go_num, hrowQ.drewN _, hlenQ, hpermQ, hs, Bel.drN hBQ _⟩
          · obtain ⟨m, rfl⟩ := Nat.exists_eq_succ_of_ne_zero hk0
            have mQ : m < Q.length := by omega
            have c1 := hrowQ.cellA kQ
            have c2 := hrowQ.cellA mQ
            have c3 := hrowQ.frozen (m + 1)
            have c4 := hrowQ.frozen m
            have e1 : Q.getD (m + 1) 0 = Q[m + 1] := by rw [List.getD_eq_getElem?_getD, List.getElem?_eq_getElem kQ]; rfl
            have e2 : Q.getD m 0 = Q[m] := by rw [List.getD_eq_getElem?_getD, List.getElem?_eq_getElem mQ]; rfl
            obtain ⟨x, hx⟩ : ∃ x, x = Q[m + 1] := ⟨_, rfl⟩
            obtain ⟨y, hy⟩ : ∃ y, y = Q[m] := ⟨_, rfl⟩
            rw [← hx] at c1 e1
            rw [← hy] at c2 e2
            replace hx := hide hx
            replace hy := hide hy
            have k1 : (0 : Int) ≤ (m : Int) := by omega
            have k3 : (m : Int) < (n : Int) := by omega
            by_cases hxy : x < y
            · have hd : decide (x < y) = true := decide_eq_true hxy
              have hs := insP_step hins.out (by omega) hk (by rw [hlenQ.out]; exact hlt) (by rw [e1, Nat.succ_sub_one, e2]; exact hxy)
              have hp := (swap_perm kQ mQ).trans hpermQ.out
              rw [Nat.succ_sub_one] at hs
              rw [e1, e2] at hs hp
              have hrow1 := hrowQ.setA kQ y
              have hrow2 := hrow1.setA (i := m) (by rw [List.length_set]; exact mQ) x
              have hgs : w.heap.size ≤ g := hg
              have b1 := fun q => Bel.st (Bel.st (Bel.drN hBQ q) (p := ⟨g, m + 1, none⟩) hgs (I64 y)) (p := ⟨g, m, none⟩) hgs (I64 x)
              have hl2 : Hid (((Q.set (m + 1) y).set m x).length = n) := by show _ = _; rw [List.length_set, List.length_set]; exact hlenQ.out
              replace hs := hide hs
              replace hp := hide hp
              clear hrow1 e1 e2 hxy
              go_wp2
              go_quiet (fail)
              go_wp2
              go_roundg m
              case measure => have := hgk.out; omega
              case rel => exact ⟨m, _, rfl, by omega, by go_num, hrow2.drewN _, hl2, hp, hs, b1 _⟩
            · have hd : decide (x < y) = false := decide_eq_false hxy
              have hs := hide (insP_stop hins.out hk (.inr (by rw [e1, Nat.succ_sub_one, e2]; omega)))
              clear e1 e2 hxy
              go_wp2
              go_quiet (fail)
              go_wp2
              go_roundg (n - (i + 1))
              case measure => have := hgh.out; have := hlt2.out; omega
              case rel => exact ⟨i + 1, Q, rfl, by omega, by have := hlt2.out; omega, by go_num, hrowQ.drewN _, hlenQ, hpermQ, hs, Bel.drN hBQ _⟩
      · have hin : i = n := by omega
        subst hin
        have hrd := hrowP.rdA hlen.out.symm hc1 hc2
        have hs := srt_all (P := P) (by rw [hlen.out]; exact hsrt.out)
        have he := sortI_eq hperm.out hs
        rw [he] at hrd
        have hfr : Fr w.heap.size (.slice (some ⟨g, 0, none⟩) i c2) (sortI l) := .inr ⟨g, rfl, hg⟩
        clear hrowP hsrt hperm hlen
        go_wp2
        go_ret
        exact ⟨_, rfl, hrd, hfr, hB⟩
end Go.Proofs.Ytgmbnbdbmkdlgaa
end

section
/- Plain and memory: the reference's step from one combination to the next. -/
open Go.RowKit
set_option linter.unusedVariables false
set_option linter.unusedSimpArgs false
namespace Go.Proofs.Ytgmbnbdbmkdlgaa

theorem bump_dn (x : Int) (m : Nat) : dn (bump x m) = bump (x - 1) m := by
  unfold dn bump
  rw [List.map_map]
  apply List.map_congr_left
  intro t _
  show x + (t : Int) - 1 = _
  omega
theorem dn_step (l : List Int) (i m : Nat) (hi : i < l.length) : (dn l).take i ++ bump ((dn l).getD i 0 + 1) m = dn (l.take i ++ bump (l.getD i 0 + 1) m) := by
  have h1 : dn (l.take i ++ bump (l.getD i 0 + 1) m) = dn (l.take i) ++ dn (bump (l.getD i 0 + 1) m) := by unfold dn; rw [List.map_append]
  have h2 : dn (l.take i) = (dn l).take i := by unfold dn; rw [List.map_take]
  rw [h1, h2, bump_dn, dn_at l i hi]
  congr 2
  omega
theorem dn_first (n k : Nat) (h : k ≤ n) (P : List Int) (hP : P.length = k) (hv : ∀ j, j < k → P.getD j 0 = (j : Int)) : P = dn (unrankL n 1 0 k) := by
  rw [unrankL_first n k 1 h, bump_dn]
  apply List.ext_getElem
  · rw [hP, length_bump]
  · intro j h1 h2
    have := hv j (by omega)
    rw [List.getD_eq_getElem?_getD, List.getElem?_eq_getElem h1] at this
    rw [getElem_bump]
    simp at this
    omega

/-- The state of the search for the place. -/
def SrchI (l : List Int) (n : Int) (k i : Nat) : Prop := (nextI l n k (i + 1)).getD 0 = (nextI l n k k).getD 0
theorem srch_start (l : List Int) (n : Int) (k : Nat) (h : 1 ≤ k) : SrchI l n k (k - 1) := by
  unfold SrchI; rw [show k - 1 + 1 = k by omega]
theorem srch_step {l : List Int} {n : Int} {k i : Nat} (h : SrchI l n k i) (h0 : 0 < i) (he : l.getD i 0 = n - k + 1 + i) : SrchI l n k (i - 1) := by
  unfold SrchI at h ⊢
  rw [nextI, if_pos he] at h
  rw [show i - 1 + 1 = i by omega]
  exact h
theorem srch_end {l : List Int} {n : Int} {k i : Nat} (h : SrchI l n k i) (he : i = 0 ∨ l.getD i 0 ≠ n - k + 1 + i) : (nextI l n k k).getD 0 = i := by
  unfold SrchI at h
  rw [← h, nextI]
  by_cases hc : l.getD i 0 = n - k + 1 + i
  · rw [if_pos hc]
    rcases he with he | he
    · subst he; rfl
    · exact absurd hc he
  · rw [if_neg hc]; rfl

/-- Behind the round. -/
theorem step_next {n k r i : Nat} {P : List Int} (hk : k ≤ n) (hn : n ≤ 80) (hr : r < choose n k) (hi : i < k) (hs : (nextI (unrankL n 1 r k) n k k).getD 0 = i) (hm : midP (dn (unrankL n 1 r k)) i k P) :
    P.length = k ∧ (r + 1 < choose n k → P = dn (unrankL n 1 (r + 1) k)) := by
  have hl := unrankL_len hr (w := 1)
  have hd := dn_len (unrankL n 1 r k)
  have hP : P.length = k := by rw [hm.1, hd, hl]
  refine ⟨hP, fun h1 => ?_⟩
  have h2 : midP (dn (unrankL n 1 r k)) i (dn (unrankL n 1 r k)).length P := by rw [hd, hl]; exact hm
  have h3 := midP_end h2 (by rw [hd, hl]; exact hi)
  rw [dn_step _ i _ (by rw [hl]; exact hi), hd] at h3
  rw [h3, ← stepI_mid hk h1 hn]
  unfold stepI
  rw [hl, hs]

theorem dn_bounds {n k r : Nat} (hr : r < choose n k) (i : Nat) (hi : i < (dn (unrankL n 1 r k)).length) : 0 ≤ (dn (unrankL n 1 r k))[i] ∧ (dn (unrankL n 1 r k))[i] < n ∧ (dn (unrankL n 1 r k))[i] = (unrankL n 1 r k).getD i 0 - 1 := by
  have hi' : i < (unrankL n 1 r k).length := by rw [dn_len] at hi; exact hi
  have h1 := dn_at (unrankL n 1 r k) i hi'
  rw [List.getD_eq_getElem?_getD, List.getElem?_eq_getElem hi] at h1
  simp only [Option.getD_some] at h1
  have h2 := places_at hr _ (List.getElem_mem hi')
  have h3 : (unrankL n 1 r k).getD i 0 = (unrankL n 1 r k)[i] := by rw [List.getD_eq_getElem?_getD, List.getElem?_eq_getElem hi']; rfl
  rw [h1, h3]
  omega

theorem comb_at {S : List Int} {k r i y : Nat} (hr : r < choose S.length k) (hi : i < (combS S k r).length) (hy : (unrankL S.length 1 r k).getD i 0 - 1 = (y : Int)) (hyl : y < S.length) : (combS S k r)[i] = S[y] := by
  have hl := unrankL_len hr (w := 1)
  have hi' : i < (unrankL S.length 1 r k).length := by rw [combS_len hr] at hi; omega
  have h3 : (unrankL S.length 1 r k).getD i 0 = (unrankL S.length 1 r k)[i] := by rw [List.getD_eq_getElem?_getD, List.getElem?_eq_getElem hi']; rfl
  rw [h3] at hy
  have h4 : (combS S k r)[i]? = some (S.getD ((unrankL S.length 1 r k)[i] - 1).toNat 0) := by
    unfold combS pickL
    rw [List.getElem?_map, List.getElem?_eq_getElem hi']
    rfl
  rw [List.getElem?_eq_getElem hi, hy, Int.toNat_natCast, List.getD_eq_getElem?_getD, List.getElem?_eq_getElem hyl] at h4
  injection h4

theorem Bel.drNAt {b : Nat} {w W : World} (h : Below b w W) (n : Nat) : Below b w (W.drewN n) := ⟨h.os, h.tape, h.output, h.size, h.block⟩
theorem Bel.thenAt {b : Nat} {w W W1 : World} (h : Below b w W) (hb : Below b W W1) : Below b w W1 := h.trans hb

/-- x.Main = append(x.Main, y). -/
theorem main_step {X : World} {R1 xb : Nat} {A : List Int} {ao : Option Addr} {n cap : Nat} {bv : Value} (hx : LineAt X xb (.slice ao n cap) bv) (hown : Own I64 X R1 3 (.slice ao n cap) A) (hA : A.length ≤ 100) (y : Int) (hR : R1 ≤ X.heap.size) (hxb : xb < R1) :
    ∃ b7 n7 c7 w7, (Builtin.append_ #[26, 26] 26 #[.slice ao n cap, .slice (some ⟨X.heap.size, 0, none⟩) 1 1]).run Try.prog (X.alloc (Obj.cells #[.int .i64 y] 3)).drew = .ok (.slice b7 n7 c7) w7 ∧
      w7.cell? ⟨xb, 0, none⟩ = some (.slice ao n cap) ∧ w7.frozen? ⟨xb, 0, none⟩ = false ∧
      ∀ Y, Y = w7.setCell ⟨xb, 0, none⟩ (.slice b7 n7 c7) → LineAt Y xb (.slice b7 n7 c7) bv ∧ Own I64 Y R1 3 (.slice b7 n7 c7) (A ++ [y]) ∧ Below xb X Y ∧ R1 ≤ Y.heap.size := by
  have hownA : Own I64 (X.drew.alloc (Obj.cells #[.int .i64 y] 3)) R1 3 (.slice ao n cap) A := Own.alloc (w := X.drew) hown _
  have hsz : (X.drew.alloc (Obj.cells #[.int .i64 y] 3)).heap.size = X.heap.size + 1 := by simp
  have bA : Below X.heap.size X (X.drew.alloc (Obj.cells #[.int .i64 y] 3)) := Bel.al (Below.drew (Below.refl X.heap.size X)) _
  have nY : Rd I64 (X.drew.alloc (Obj.cells #[.int .i64 y] 3)) (.slice (some ⟨X.heap.size, 0, none⟩) 1 1) [y] := Rd.new [y] rfl rfl (Nat.le_refl _) (by decide) rfl
  obtain ⟨v7, w7, hr, h2, h3, h4⟩ := run_append_rd (P := Try.prog) (X.drew.alloc (Obj.cells #[.int .i64 y] 3)) (V := I64) (fun _ => rfl) R1 26 26 3 (.int .i64 0) 8 Try.underlying26 infoInt rfl _ A hownA _ [y] nY (by simp; omega) (by simp; omega) (by omega)
  obtain ⟨b7, n7, c7, rfl⟩ := Rd.shape h2.rd
  have hlt := hownA.lt
  have hne : ∀ b, (Value.slice ao n cap).ownBlock = some b → b ≠ xb := fun b hb => by have := (hlt b hb).1; omega
  have hsx := Row.lt hx
  have hx7 : LineAt w7 xb (.slice ao n cap) bv := Row.grown (Row.keep hx bA) h3 (by intro e; exact hne xb e.symm rfl)
  refine ⟨b7, n7, c7, w7, hr, hx7.main, Row.frozen hx7 0, ?_⟩
  rintro Y rfl
  refine ⟨Row.set hx7 0 _, h2.far (by intro e; have := (h2.lt xb e).1; omega) _, ?_, ?_⟩
  · have h5 : Below xb X w7 := ((bA.mono (by omega))).grown h3 (by omega) (fun g hg => by have := (hlt g hg).1; omega)
    exact h5.setCell (Nat.le_refl _) _
  · have := h3.size
    simp [World.setCell]
    omega

/-- at[i] = x. -/
theorem at_store {w2 X : World} {gA : Nat} {v : Value} {ls : List LineD} {P : List Int} (h1 : OwnLn X (gA + 1) v ls) (h2 : Row X gA 3 (P.map I64)) (h3 : Below gA w2 X) (h4 : gA + 1 ≤ X.heap.size) (i : Nat) (x : Int) :
    OwnLn (X.setCell ⟨gA, i, none⟩ (.int .i64 x)) (gA + 1) v ls ∧ Row (X.setCell ⟨gA, i, none⟩ (.int .i64 x)) gA 3 ((P.set i x).map I64) ∧ Below gA w2 (X.setCell ⟨gA, i, none⟩ (.int .i64 x)) ∧ gA + 1 ≤ (X.setCell ⟨gA, i, none⟩ (.int .i64 x)).heap.size :=
  ⟨h1.grown (Gb.set (g := gA) (Gb.refl X (some gA)) (p := ⟨gA, i, none⟩) (.inl rfl) _) (fun k hk => by injection hk with hk; omega), h2.setV (V := I64) i x, h3.setCell (p := ⟨gA, i, none⟩) (Nat.le_refl _) _, by simpa [World.setCell] using h4⟩
end Go.Proofs.Ytgmbnbdbmkdlgaa
end

section
/- lotteryref15.Expand: the lines of a system line. No condition. -/
open Go.RowKit
set_option linter.unusedVariables false
set_option linter.unusedSimpArgs false
namespace Go.Proofs.Ytgmbnbdbmkdlgaa

set_option maxHeartbeats 2000000 in
set_option maxRecDepth 100000 in
theorem rexpand_bad (g : GameD) (av tv mv bv : Value) (ms : List AddonM) (a b : List Int) (w : World) (h : GameR w av tv ms g) (hl : LineR w mv bv a b) (he : sysE g a b ≠ 0) :
    Calls Try.prog 11 #[gameVal g av tv, lineVal mv bv] w (LinesX [] (sysE g a b) w) := by
  have cV := hide (fun X (hX : Below w.heap.size w X) => rcount15_any g av tv mv bv ms a b X (h.below hX) (hl.below hX))
  unfold sysP at cV
  rw [if_neg he] at cV
  obtain ⟨c, hcc⟩ : ∃ c, c = sysE g a b := ⟨_, rfl⟩
  rw [← hcc] at cV he ⊢
  have hcb : (c != 0) = true := by simpa using he
  obtain ⟨aa, ac, rfl, hal, ham⟩ := h.1.1.shape
  obtain ⟨ta, tc, rfl, htl, htm⟩ := h.2.2.shape
  obtain ⟨ma, mc, rfl, hma, hmc, -⟩ := hl.1.form
  obtain ⟨ba, bc, rfl, hba, hbc, -⟩ := hl.2.form
  replace he := hide he
  clear h hl hcc
  unfold gameVal lineVal at cV ⊢
  go_enter Try.func11, Try.ntmps11
  go_upto_region 1 with (fail)
  obtain ⟨W, hW⟩ : ∃ W, W = ((w.alloc (Obj.cells #[.string g.name, .int .i64 g.kind, .int .i64 g.price, .int .i64 g.main, .int .i64 g.of, .int .i64 g.bonus, .int .i64 g.bonusOf, .int .i64 g.extra, .int .i64 g.draws, .int .i64 g.system, .int .i64 g.days, .int .i64 g.at_, .int .i64 g.close, .int .i64 g.cancel, .int .i64 g.expiry, .int .i64 g.pool, .int .i64 g.reserve, .int .i64 g.round, .int .i64 g.cap, .int .i64 g.rolls, (.slice aa ms.length ac), (.slice ta g.tiers.length tc)] 25)).alloc (Obj.cells #[(.slice ma a.length mc), (.slice ba b.length bc)] 28)) := ⟨_, rfl⟩
  have bW : Below w.heap.size w W := by rw [hW]; exact Bel.al (Bel.al (Below.refl _ _) _) _
  have r0 : GameAt W (w.heap.size) g ((.slice aa ms.length ac)) ((.slice ta g.tiers.length tc)) := by rw [hW]; exact Row.alloc (Row.new _ _ _) _
  have r1 : LineAt W (w.heap.size + 1) ((.slice ma a.length mc)) ((.slice ba b.length bc)) := by rw [hW]; exact Row.at2 _ _ _ _
  have sW : w.heap.size + 1 < W.heap.size := by rw [hW]; simp
  rw [← hW]
  clear hW
  go_wp2_with (first | (refine wpList_load_row rfl 25 _ rfl _ rfl _ _ _ _ r0 Try.underlying25 rfl (by kernel_rfl) ?_) | (refine wpList_load_row rfl 28 _ rfl _ rfl _ _ _ _ r1 Try.underlying28 rfl (by kernel_rfl) ?_) | fail)
  refine (cV.out _ bW).mono ?_
  rintro e w1 ⟨rfl, hb1⟩
  have B1 := Bel.to bW hb1
  go_wp2
  go_ret2
  exact ⟨.slice none 0 0, rfl, LinesR.nil, B1⟩

set_option maxHeartbeats 2000000 in
set_option maxRecDepth 100000 in
theorem rexpand_many (g : GameD) (av tv mv bv : Value) (ms : List AddonM) (a b : List Int) (w : World) (h : GameR w av tv ms g) (hl : LineR w mv bv a b) (he : sysE g a b = 0) (hm : 1024 < choose a.length g.main.toNat) (hm2 : choose a.length g.main.toNat ≤ 4000) :
    Calls Try.prog 11 #[gameVal g av tv, lineVal mv bv] w (LinesX [] 3 w) := by
  have cV := hide (fun X (hX : Below w.heap.size w X) => rcount15_any g av tv mv bv ms a b X (h.below hX) (hl.below hX))
  unfold sysP at cV
  rw [if_pos he] at cV
  obtain ⟨q, hq⟩ : ∃ q, q = choose a.length g.main.toNat := ⟨_, rfl⟩
  rw [← hq] at cV hm hm2
  have hq1 : (1024 : Int) < (q : Int) := by omega
  have hq2 : (q : Int) ≤ 4000 := by omega
  obtain ⟨aa, ac, rfl, hal, ham⟩ := h.1.1.shape
  obtain ⟨ta, tc, rfl, htl, htm⟩ := h.2.2.shape
  obtain ⟨ma, mc, rfl, hma, hmc, -⟩ := hl.1.form
  obtain ⟨ba, bc, rfl, hba, hbc, -⟩ := hl.2.form
  clear h hl hq he
  unfold gameVal lineVal at cV ⊢
  go_enter Try.func11, Try.ntmps11
  go_upto_region 1 with (fail)
  obtain ⟨W, hW⟩ : ∃ W, W = ((w.alloc (Obj.cells #[.string g.name, .int .i64 g.kind, .int .i64 g.price, .int .i64 g.main, .int .i64 g.of, .int .i64 g.bonus, .int .i64 g.bonusOf, .int .i64 g.extra, .int .i64 g.draws, .int .i64 g.system, .int .i64 g.days, .int .i64 g.at_, .int .i64 g.close, .int .i64 g.cancel, .int .i64 g.expiry, .int .i64 g.pool, .int .i64 g.reserve, .int .i64 g.round, .int .i64 g.cap, .int .i64 g.rolls, (.slice aa ms.length ac), (.slice ta g.tiers.length tc)] 25)).alloc (Obj.cells #[(.slice ma a.length mc), (.slice ba b.length bc)] 28)) := ⟨_, rfl⟩
  have bW : Below w.heap.size w W := by rw [hW]; exact Bel.al (Bel.al (Below.refl _ _) _) _
  have r0 : GameAt W (w.heap.size) g ((.slice aa ms.length ac)) ((.slice ta g.tiers.length tc)) := by rw [hW]; exact Row.alloc (Row.new _ _ _) _
  have r1 : LineAt W (w.heap.size + 1) ((.slice ma a.length mc)) ((.slice ba b.length bc)) := by rw [hW]; exact Row.at2 _ _ _ _
  have sW : w.heap.size + 1 < W.heap.size := by rw [hW]; simp
  rw [← hW]
  clear hW
  go_wp2_with (first | (refine wpList_load_row rfl 25 _ rfl _ rfl _ _ _ _ r0 Try.underlying25 rfl (by kernel_rfl) ?_) | (refine wpList_load_row rfl 28 _ rfl _ rfl _ _ _ _ r1 Try.underlying28 rfl (by kernel_rfl) ?_) | fail)
  refine (cV.out _ bW).mono ?_
  rintro e w1 ⟨rfl, hb1⟩
  have B1 := Bel.to bW hb1
  go_wp2
  go_ret2
  exact ⟨.slice none 0 0, rfl, LinesR.nil, B1⟩
end Go.Proofs.Ytgmbnbdbmkdlgaa
end

section
/- lotteryref15.Expand: the lines of a system line. -/
open Go.RowKit
set_option linter.unusedVariables false
set_option linter.unusedSimpArgs false
namespace Go.Proofs.Ytgmbnbdbmkdlgaa

attribute [local go_sem ↓] app_shut

set_option maxHeartbeats 8000000 in
set_option maxRecDepth 100000 in
theorem rexpand_ok (g : GameD) (av tv mv bv : Value) (ms : List AddonM) (a b : List Int) (w : World) (h : GameR w av tv ms g) (hl : LineR w mv bv a b) (he : sysE g a b = 0) (hm : choose a.length g.main.toNat ≤ 1024) :
    Calls Try.prog 11 #[gameVal g av tv, lineVal mv bv] w (LinesX (expL (sortI a) (sortI b) g.main.toNat) 0 w) := by
  have cV := hide (fun X (hX : Below w.heap.size w X) => rcount15_any g av tv mv bv ms a b X (h.below hX) (hl.below hX))
  unfold sysP at cV
  rw [if_pos he] at cV
  obtain ⟨g1, g2, g3, g4, g5, g6, g7, g8⟩ := sysE_ok he
  obtain ⟨f1, f2, f3, f4, f5, f6, f7, f8, f9⟩ := sys_bounds g1
  have cA := hide (fun X (hX : Below w.heap.size w X) => sorted15_fr mv a X (hl.below hX).1 (by omega))
  have cB := hide (fun X (hX : Below w.heap.size w X) => sorted15_fr bv b X (hl.below hX).2 (by omega))
  obtain ⟨k, hk⟩ := Int.eq_ofNat_of_zero_le (show 0 ≤ g.main by omega)
  rw [hk, Int.toNat_natCast] at cV hm ⊢
  have k1 : 1 ≤ k := by omega
  have k2 : k ≤ 10 := by omega
  have k3 : k ≤ a.length := by omega
  have a14 : a.length ≤ 14 := by omega
  have b4 : b.length ≤ 4 := by omega
  obtain ⟨q, hq⟩ : ∃ q, q = choose a.length k := ⟨_, rfl⟩
  rw [← hq] at cV hm
  have hq1 : (q : Int) ≤ 1024 := by omega
  have hq0 : (0 : Int) ≤ (q : Int) := by omega
  have hq2 := hide hq
  have a14h := hide a14
  have k3h := hide k3
  have b4h := hide b4
  have kh := hide hk
  obtain ⟨SA, hSA⟩ : ∃ SA, SA = sortI a := ⟨_, rfl⟩
  obtain ⟨SB, hSB⟩ : ∃ SB, SB = sortI b := ⟨_, rfl⟩
  rw [← hSA, ← hSB]
  rw [← hSA] at cA
  rw [← hSB] at cB
  have hSAl : SA.length = a.length := by rw [hSA]; exact sortI_len a
  have hSBl : SB.length = b.length := by rw [hSB]; exact sortI_len b
  replace hSAl := hide hSAl
  replace hSBl := hide hSBl
  replace hSA := hide hSA
  replace hSB := hide hSB
  obtain ⟨i0, hi, hz0, hz1, hz2⟩ := info_parts infoLine15
  obtain ⟨aa, ac, rfl, hal, ham⟩ := h.1.1.shape
  obtain ⟨ta, tc, rfl, htl, htm⟩ := h.2.2.shape
  obtain ⟨ma, mc, rfl, hma, hmc, -⟩ := hl.1.form
  obtain ⟨ba, bc, rfl, hba, hbc, -⟩ := hl.2.form
  clear h hl hq he g1 g2 g3 g4 g5 g6 g7 g8 f1 f2 f3 f4 f5 f6 f7 f8 f9 a14 b4 k3 hk
  unfold gameVal lineVal at cV ⊢
  go_enter Try.func11, Try.ntmps11
  go_upto_region 1 with (fail)
  obtain ⟨W, hW⟩ : ∃ W, W = ((w.alloc (Obj.cells #[.string g.name, .int .i64 g.kind, .int .i64 g.price, .int .i64 g.main, .int .i64 g.of, .int .i64 g.bonus, .int .i64 g.bonusOf, .int .i64 g.extra, .int .i64 g.draws, .int .i64 g.system, .int .i64 g.days, .int .i64 g.at_, .int .i64 g.close, .int .i64 g.cancel, .int .i64 g.expiry, .int .i64 g.pool, .int .i64 g.reserve, .int .i64 g.round, .int .i64 g.cap, .int .i64 g.rolls, (.slice aa ms.length ac), (.slice ta g.tiers.length tc)] 25)).alloc (Obj.cells #[(.slice ma a.length mc), (.slice ba b.length bc)] 28)) := ⟨_, rfl⟩
  have bW : Below w.heap.size w W := by rw [hW]; exact Bel.al (Bel.al (Below.refl _ _) _) _
  have r0 : GameAt W (w.heap.size) g ((.slice aa ms.length ac)) ((.slice ta g.tiers.length tc)) := by rw [hW]; exact Row.alloc (Row.new _ _ _) _
  have r1 : LineAt W (w.heap.size + 1) ((.slice ma a.length mc)) ((.slice ba b.length bc)) := by rw [hW]; exact Row.at2 _ _ _ _
  have sW : w.heap.size + 1 < W.heap.size := by rw [hW]; simp
  rw [← hW]
  clear hW
  go_wp2_with (first | (refine wpList_load_row rfl 25 _ rfl _ rfl _ _ _ _ r0 Try.underlying25 rfl (by kernel_rfl) ?_) | (refine wpList_load_row rfl 28 _ rfl _ rfl _ _ _ _ r1 Try.underlying28 rfl (by kernel_rfl) ?_) | fail)
  refine (cV.out _ bW).mono ?_
  rintro e w1 ⟨rfl, hb1⟩
  have B1 := Bel.to bW hb1
  have r0 := r0.keep hb1
  have r1 := r1.keep hb1
  clear hb1 bW
  have x0 := r1.main
  go_wp2_with fail
  refine (cA.out _ B1).mono ?_
  rintro e w2 ⟨u, rfl, hrdA, hfA, hb2⟩
  have B2 := Bel.to B1 hb2
  have r0 := r0.keep hb2
  have r1 := r1.keep hb2
  clear hb2 B1 x0 hfA cV cA
  obtain ⟨uo, uc, rfl, hul, hum, -⟩ := Rd.form hrdA
  have hum2 : uc ≤ 9223372036854775807 := by unfold maxLen at hum; omega
  have hSA0 : 0 < SA.length := by have := hSAl.out; have := k3h.out; omega
  obtain ⟨bm, om, rfl, hbm, hcm⟩ := hrdA.at_ hSA0
  have hSA14 : SA.length ≤ 14 := by have := hSAl.out; have := a14h.out; omega
  have hkSA : k ≤ SA.length := by have := hSAl.out; have := k3h.out; omega
  have hC : choose SA.length k = q := by rw [hSAl.out]; exact hq2.out.symm
  have hcm := hide hcm
  clear hrdA
  have d3 : w2.cell? ⟨w.heap.size, 3, none⟩ = some (.int .i64 (k : Int)) := by have := r0.main; rw [kh.out] at this; exact this
  have x1 := r1.bonus
  replace hC := hide hC
  obtain ⟨gA, hgA⟩ : ∃ gA, gA = w2.heap.size := ⟨_, rfl⟩
  have hwA : w.heap.size < gA := by rw [hgA]; exact World.block_lt_of_cell? w2 _ d3
  go_wp2_with (with_reducible refine wpList_make_row _ rfl _ _ 26 rfl 3 (.int .i64 0) 8 Try.underlying26 infoInt rfl .i64 .i64 _ _ k k rfl rfl rfl rfl (Nat.le_refl _) (by omega) (by omega) ?_; intro w3 hrow3 hb3 hz3)
  rw [← hgA] at hrow3
  rw [← hgA]
  have hsz3 : w3.heap.size = gA + 1 := by rw [hz3, hgA]
  have hb3' : Below gA w2 w3 := by rw [hgA]; exact hb3
  have d3' := Bel.cellOf hb3 d3
  clear hb3 hz3
  replace hgA := hide hgA
  go_wp2
  go_loopg [10] k (fun gh t wr => ∃ (i : Nat) (P : List Int), gh = k - i ∧ i ≤ k ∧ t = .int .i64 (i : Int) ∧ Row wr gA 3 (P.map I64) ∧ Hid (P.length = k) ∧ Hid (∀ j, j < i → P.getD j 0 = (j : Int)) ∧ Below gA w2 wr ∧ Hid (wr.heap.size = gA + 1))
  case atStart => exact ⟨0, List.replicate k 0, rfl, Nat.zero_le _, rfl, by rw [List.map_replicate]; exact hrow3, List.length_replicate, fun j hj => by omega, hb3', hsz3⟩
  case round =>
    obtain ⟨i, P, hgh, hik, rfl, hP, hPl, hPv, hB, hsz⟩ := hrel
    replace hgh := hide hgh
    have d3w : wr.cell? ⟨w.heap.size, 3, none⟩ = some (.int .i64 (k : Int)) := (hB.cell hwA).trans d3
    by_cases hlt : i < k
    · have hlt2 := hide hlt
      have e2 := hP.cellV (i := i) (by have := hPl.out; omega)
      have e3 := hP.frozen i
      obtain ⟨y, hy⟩ : ∃ y, y = P[i]'(by have := hPl.out; omega) := ⟨_, rfl⟩
      rw [← hy] at e2
      have hP2 := hP.setV (V := I64) i (i : Int)
      have hl2 : Hid ((P.set i (i : Int)).length = k) := by show _ = _; rw [List.length_set]; exact hPl.out
      have hv2 : Hid (∀ j, j < i + 1 → (P.set i (i : Int)).getD j 0 = (j : Int)) := by
        intro j hj
        have := hPl.out
        rw [List.getD_eq_getElem?_getD, List.getElem?_set]
        by_cases e : i = j
        · subst e; rw [if_pos rfl, if_pos (by omega)]; rfl
        · rw [if_neg e, ← List.getD_eq_getElem?_getD]; exact hPv.out j (by omega)
      have B9 := hB.setCell (p := ⟨gA, i, none⟩) (Nat.le_refl _) (.int .i64 (i : Int))
      have s9 : Hid ((wr.setCell ⟨gA, i, none⟩ (.int .i64 (i : Int))).heap.size = gA + 1) := by show _ = _; rw [← hsz.out]; simp [World.setCell]
      have i1 : (0 : Int) ≤ (i : Int) := by omega
      have i2 : (i : Int) < (k : Int) := by omega
      clear hy hP hPl hPv hB hsz
      go_wp2
      go_roundg (k - (i + 1))
      case measure => have := hgh.out; have := hlt2.out; omega
      case rel => exact ⟨i + 1, _, rfl, by have := hlt2.out; omega, by go_num, hP2, hl2, hv2, B9, s9⟩
    · obtain rfl : i = k := by omega
      have hL0 := hide (dn_first SA.length i hkSA P hPl.out hPv.out)
      clear hlt hPv hgh
      go_wp2
      obtain ⟨wA, hwA2⟩ : ∃ wA, wA = wr := ⟨_, rfl⟩
      subst hwA2

      go_loopg [11, 12, 13, 14, 15] q (fun gh v11 v12 v13 v14 v15 wr => ∃ (r : Nat) (L : List Int) (la : Option Addr) (lc : Nat), gh = q - r ∧ r ≤ q ∧ v11 = .slice la r lc ∧ OwnLn wr (gA + 1) (.slice la r lc) ((List.range r).map fun r => (combS SA i r, SB)) ∧ Row wr gA 3 (L.map I64) ∧ Hid (L.length = i) ∧ Hid (r < q → L = dn (unrankL SA.length 1 r i)) ∧ Below gA w2 wr ∧ gA + 1 ≤ wr.heap.size)
      case atStart => exact ⟨0, P, none, 0, rfl, Nat.zero_le _, rfl, OwnLn.nil _ _, hP, hPl, fun _ => hL0.out, hB, by have := hsz.out; omega⟩
      case round =>
        clear hP hPl hL0 hB hsz d3w
        obtain ⟨r, L, la, lc, hgh, hrq, rfl, hown, hLr, hLl, hLv, hB, hszr⟩ := hrel
        replace hgh := hide hgh
        obtain ⟨wo, hwo⟩ : ∃ wo, wo = wr := ⟨_, rfl⟩
        subst hwo
        by_cases hrlt : r < q
        · have hL := hLv.out hrlt
          subst hL
          have hrC : r < choose SA.length i := by rw [hC.out]; exact hrlt
          have hr1024 : r < 1024 := by omega
          have hrC := hide hrC
          have hrlt2 := hide hrlt
          have hi0 : (r : Int) < (q : Int) := by omega
          have r1o : LineAt wo (w.heap.size + 1) (.slice ma a.length mc) (.slice ba b.length bc) := (hB.block _ (by have := Row.lt r1; have := hgA.out; omega)).trans r1
          have x1 := r1o.bonus
          have Bw : Below w.heap.size w wo := Bel.to B2 (by rw [← hgA.out]; exact hB)
          have hown := hown
          clear hrlt hLv r1o
          go_wp2_with fail
          refine (cB.out _ Bw).mono ?_
          rintro e w3 ⟨nv, rfl, hrd3, hfr3, hb3⟩
          obtain ⟨n1, n2, n3, rfl⟩ := Rd.shape hrd3
          go_upto_region 15 with (fail)
          obtain ⟨W4, hW4⟩ : ∃ W4, W4 = w3.alloc (Obj.cells #[.slice none 0 0, .slice n1 n2 n3] 28) := ⟨_, rfl⟩
          obtain ⟨xb, hxb⟩ : ∃ xb, xb = w3.heap.size := ⟨_, rfl⟩
          have rX : LineAt W4 xb (.slice none 0 0) (.slice n1 n2 n3) := by rw [hW4, hxb]; exact Row.new _ _ _
          have b34 : Below w3.heap.size w3 W4 := by rw [hW4]; exact Bel.al (Below.refl _ _) _
          have z4 : W4.heap.size = xb + 1 := by rw [hW4, hxb]; simp
          rw [← hW4, ← hxb]
          have hxo : wo.heap.size ≤ xb := by rw [hxb]; exact hb3.size
          have b4 : Below wo.heap.size wo W4 := Bel.to hb3 b34
          have hrdT := hide (show ∀ Y, Below xb W4 Y → Rd I64 Y (.slice n1 n2 n3) SB by
            intro Y hY
            rw [hxb] at hY
            exact hrd3.below (b34.trans hY))
          have hown4 : Own I64 W4 (xb + 1) 3 (.slice none 0 0) [] := Own.nil _ _ _
          have d4 : W4.cell? ⟨w.heap.size, 3, none⟩ = some (.int .i64 (i : Int)) := Bel.cellOf b4 ((hB.cell hwA).trans d3)
          replace z4 := hide z4
          replace hfr3 := hide hfr3
          clear hrd3 hb3 hW4 hxb b34
          go_wp2
          go_loopg [13] i (fun gh t wr => ∃ (j : Nat) (ao : Option Addr) (m cap : Nat), gh = i - j ∧ j ≤ i ∧ t = .int .i64 (j : Int) ∧ LineAt wr xb (.slice ao m cap) (.slice n1 n2 n3) ∧ Own I64 wr (xb + 1) 3 (.slice ao m cap) ((combS SA i r).take j) ∧ Below xb W4 wr ∧ xb + 1 ≤ wr.heap.size)
          case atStart => exact ⟨0, none, 0, 0, rfl, Nat.zero_le _, rfl, rX, by rw [List.take_zero]; exact hown4, Below.refl _ _, by have := z4.out; omega⟩
          case round =>
            obtain ⟨j, ao, m, cap, hgj, hji, rfl, rX, hownA, hBx, hszx⟩ := hrel
            replace hgj := hide hgj
            have hL4 : Row W4 gA 3 ((dn (unrankL SA.length 1 r i)).map I64) := Row.keep hLr b4
            have hLx : Row wr gA 3 ((dn (unrankL SA.length 1 r i)).map I64) := (hBx.block _ (by omega)).trans hL4
            have d5 : wr.cell? ⟨w.heap.size, 3, none⟩ = some (.int .i64 (i : Int)) := (hBx.cell (by simp only []; omega)).trans d4
            by_cases hlt : j < i
            · have hlt2 := hide hlt
              have hjl : j < (dn (unrankL SA.length 1 r i)).length := by have := hLl.out; omega
              obtain ⟨p1, p2, p3⟩ := dn_bounds hrC.out j hjl
              have e1 := hLx.cellV hjl
              obtain ⟨y, hy⟩ := Int.eq_ofNat_of_zero_le p1
              rw [hy] at e1 p2 p3
              have hyl : y < SA.length := by omega
              have hjc : j < (combS SA i r).length := by rw [combS_len hrC.out]; exact hlt
              have hz := comb_at hrC.out hjc p3.symm hyl
              have hcz : wr.cell? ⟨bm, om + y, none⟩ = some (.int .i64 (SA[y])) := by
                have h9 := hcm.out y hyl
                have h10 : wo.cell? ⟨bm, om + y, none⟩ = some (I64 SA[y]) := (hB.cell (by have := hgA.out; simp only []; omega)).trans h9
                exact (hBx.cell (by simp only []; have := hgA.out; omega)).trans (Bel.cellOf b4 h10)
              obtain ⟨z, hz2⟩ : ∃ z, z = SA[y] := ⟨_, rfl⟩
              rw [← hz2] at hz hcz
              have hsn : (combS SA i r).take (j + 1) = (combS SA i r).take j ++ [z] := by rw [take_snoc _ j hjc, hz]
              have hAl : ((combS SA i r).take j).length ≤ 100 := by rw [List.length_take]; omega
              obtain ⟨b7, n7, c7, w7, hr7, q1, q2, hfin⟩ := main_step rX hownA hAl z hszx (Nat.lt_succ_self _)
              rw [← hsn] at hfin
              rw [app_shut] at hr7
              replace hfin := hide hfin
              have c8 := rX.main
              have j1 : (0 : Int) ≤ (j : Int) := by omega
              have j2 : (j : Int) < (i : Int) := by omega
              have y1 : (0 : Int) ≤ (y : Int) := by omega
              have y2 : (y : Int) < (SA.length : Int) := by omega
              have c8a := fun (o : Obj) => cell_alloc c8 o
              replace hz := hide hz
              replace hz2 := hide hz2
              replace hsn := hide hsn
              replace hy := hide hy
              clear p1 p2 p3 hAl hownA rX hLx hL4
              go_wp2
              go_region
              all_goals go_wp2
              all_goals obtain ⟨t1, t2, t3, t4⟩ := hfin.out _ rfl
              all_goals go_roundg (i - (j + 1))
              case measure => have := hgj.out; have := hlt2.out; omega
              case rel => exact ⟨j + 1, b7, n7, c7, rfl, by have := hlt2.out; omega, by go_num, t1, t2, Bel.thenAt hBx t3, t4⟩
            · obtain rfl : j = i := by omega
              have hlenc : (combS SA j r).length = j := combS_len hrC.out
              have hownA : Own I64 wr (xb + 1) 3 (.slice ao m cap) (combS SA j r) := by
                have h9 : (combS SA j r).take j = combS SA j r := List.take_of_length_le (by omega)
                rw [h9] at hownA; exact hownA
              have hrdM := hownA.rd
              have hrdB := hrdT.out wr hBx
              have bx5 : Below wo.heap.size wo wr := b4.trans (hBx.mono hxo)
              have hownO := hown.keep bx5
              have hL5 : Row wr gA 3 ((dn (unrankL SA.length 1 r j)).map I64) := Row.keep hLr bx5
              have B5 : Below gA w2 wr := hB.trans (bx5.mono (by omega))
              have s5 := bx5.size
              have q1 := hide (ap_fr15 (v := .slice la r lc) hownA.fr (fun k hk => by have := (hown.lt k hk).2; omega))
              have q2 := hide (ap_fr15 (v := .slice la r lc) hfr3.out (fun k hk => (hown.lt k hk).2))
              have g1 := hide (hownA.fr.mono (show gA + 1 ≤ xb + 1 by omega))
              have g2 := hide (hfr3.out.mono hszr)
              have hrowlt := hide (show ∀ b, (Value.slice la r lc).ownBlock = some b → gA + 1 ≤ b from fun b hb => (hown.lt b hb).1)
              have hle5 : gA + 1 ≤ wr.heap.size := by omega
              obtain ⟨w5, hw5⟩ : ∃ w5, w5 = wr := ⟨_, rfl⟩
              subst hw5
              replace hlenc := hide hlenc
              replace hrdM := hide hrdM
              replace hrdB := hide hrdB
              have x8 := rX.main
              have x9 := rX.bonus
              clear hownA hBx hown hLr hB hszr hLx b4 bx5 hrdT hfr3 hlt d4 hszx s5 x1
              go_upto_region 20 with (first | (refine wpList_load_row rfl 28 _ rfl _ rfl _ _ _ _ rX Try.underlying28 rfl (by kernel_rfl) ?_) | (with_reducible refine wpList_append_ln _ rfl _ _ 29 rfl (gA + 1) (.agg #[.slice none 0 0, .slice none 0 0]) 48 Try.underlying29 infoLine15 lineZ15 _ ((List.range r).map fun r => (combS SA j r, SB)) rfl ?_ w5.heap.size 1 rfl (.slice ao m cap) (.slice n1 n2 n3) (combS SA j r) SB ?_ ?_ (slice_one15 _ _ _) (slice_one15 _ _ _) ?_ g1.out g2.out ?_ ?_ ?_ ?_ ?_ ?_))
              case refine_1 => exact hownO.keep (Bel.al (Below.refl _ _) _)
              case refine_2 => exact (Row.cell? (Row.new w5 28 [.slice ao m cap, .slice n1 n2 n3]) 0).trans rfl
              case refine_3 => exact (Row.cell? (Row.new w5 28 [.slice ao m cap, .slice n1 n2 n3]) 1).trans rfl
              case refine_4 => exact ⟨hrdM.out.below (Bel.al (Below.refl _ _) _), hrdB.out.below (Bel.al (Below.refl _ _) _)⟩
              case refine_5 => exact q1.out
              case refine_6 => exact q2.out
              case refine_7 => rw [List.length_map, List.length_range]; omega
              case refine_8 => rw [List.length_map, List.length_range]; omega
              case refine_9 => simp; omega
              intro v7 w7 hown7 hg7
              rw [← expL_step] at hown7
              have hnz : w5.heap.size ≤ (w5.alloc (Obj.cells #[.slice ao m cap, .slice n1 n2 n3] 28)).heap.size := by simp
              have hL7 : Row w7 gA 3 ((dn (unrankL SA.length 1 r j)).map I64) := Row.grown (Row.alloc hL5 _) hg7 (by intro e; have := hrowlt.out gA e.symm; omega)
              have B7 : Below gA w2 w7 := (B5.alloc (by omega) _).grown hg7 (by omega) (fun b hb => by have := hrowlt.out b hb; omega)
              have s7 : gA + 1 ≤ w7.heap.size := by have := hg7.size; omega
              obtain ⟨la7, lc7, rfl⟩ := hown7.shape
              rw [List.length_map, List.length_range] at hown7 ⊢
              have d7 : w7.cell? ⟨w.heap.size, 3, none⟩ = some (.int .i64 (j : Int)) := (B7.cell hwA).trans d3
              clear hg7 hnz hownO hL5 B5 hle5 hrowlt q1 q2 g1 g2 hrdM hrdB x8 x9 rX d5
              go_wp2
              go_loopg [14] (j - 1) (fun gh t wr => ∃ (x : Nat), gh = x ∧ x < j ∧ t = .int .i64 (x : Int) ∧ Hid (SrchI (unrankL SA.length 1 r j) SA.length j x) ∧ OwnLn wr (gA + 1) (.slice la7 (r + 1) lc7) ((List.range (r + 1)).map fun r => (combS SA j r, SB)) ∧ Row wr gA 3 ((dn (unrankL SA.length 1 r j)).map I64) ∧ Below gA w2 wr ∧ gA + 1 ≤ wr.heap.size)
              case atStart => exact ⟨j - 1, rfl, by omega, by go_num, srch_start _ _ _ k1, hown7, hL7, B7, s7⟩
              case round =>
                clear hown7 hL7 B7 s7 d7
                obtain ⟨x, hgx, hxj, rfl, hsr, hown7, hL7, B7, s7⟩ := hrel
                replace hgx := hide hgx
                have d7 : wr.cell? ⟨w.heap.size, 3, none⟩ = some (.int .i64 (j : Int)) := (B7.cell hwA).trans d3
                have hxl : x < (dn (unrankL SA.length 1 r j)).length := by have := hLl.out; omega
                obtain ⟨p1, p2, p3⟩ := dn_bounds hrC.out x hxl
                have e1 := hL7.cellV hxl
                have e3 := hL7.frozen x
                have hLx0 : (dn (unrankL SA.length 1 r j)).getD x 0 = (dn (unrankL SA.length 1 r j))[x] := by rw [List.getD_eq_getElem?_getD, List.getElem?_eq_getElem hxl]; rfl
                obtain ⟨y, hy⟩ := Int.eq_ofNat_of_zero_le p1
                rw [hy] at e1 p2 p3 hLx0
                have hmid : midP (dn (unrankL SA.length 1 r j)) x (x + 1) ((dn (unrankL SA.length 1 r j)).set x ((y : Int) + 1)) := by
                  have h0 : midP (dn (unrankL SA.length 1 r j)) x x (dn (unrankL SA.length 1 r j)) := ⟨rfl, fun t _ _ => by rw [if_neg (by omega)]⟩
                  have := midP_set h0 (Nat.le_refl x) hxl
                  rw [hLx0, Int.sub_self, Int.add_zero] at this
                  exact this
                have y1 : (y : Int) ≤ 14 := by omega
                have y0 : (0 : Int) ≤ (y : Int) := by omega
                have j1 : (0 : Int) ≤ (x : Int) := by omega
                have j2 : (x : Int) < (j : Int) := by omega
                have v1 : IntKind.i64.wrap ((SA.length : Int) - (j : Int)) = (SA.length : Int) - (j : Int) := IntWalk.i64_in _ (by omega)
                have v2 : IntKind.i64.wrap ((SA.length : Int) - (j : Int) + (x : Int)) = (SA.length : Int) - (j : Int) + (x : Int) := IntWalk.i64_in _ (by omega)
                replace hLx0 := hide hLx0
                replace hmid := hide hmid
                replace hy := hide hy
                by_cases hx0 : x = 0
                · subst hx0
                  have hst := hide (srch_end hsr.out (.inl rfl))
                  clear p1 p2 p3 hsr
                  go_wp2
                  go_quiet (fail)
                  go_wp2
                  have oo := hide (fun (n : Nat) => at_store (hown7.keep (Bel.drN (Below.refl _ wr) n)) (hL7.drewN n) (Bel.drNAt B7 n) s7 0 ((y : Int) + 1))
                  clear hown7 hL7 B7 s7 d7 e1 e3
                  go_loopg [15] (j - (0 + 1)) (fun gh t wr => ∃ (m : Nat) (P : List Int), gh = j - m ∧ 0 + 1 ≤ m ∧ m ≤ j ∧ t = .int .i64 (m : Int) ∧ Hid (midP (dn (unrankL SA.length 1 r j)) 0 m P) ∧ OwnLn wr (gA + 1) (.slice la7 (r + 1) lc7) ((List.range (r + 1)).map fun r => (combS SA j r, SB)) ∧ Row wr gA 3 (P.map I64) ∧ Below gA w2 wr ∧ gA + 1 ≤ wr.heap.size)
                  case atStart => exact ⟨0 + 1, _, rfl, Nat.le_refl _, by omega, by go_num, hmid, (oo.out _).1, (oo.out _).2.1, (oo.out _).2.2.1, (oo.out _).2.2.2⟩
                  case round =>
                    clear oo hmid
                    obtain ⟨m, P, hgm, hm1, hm2, rfl, hmid, hown8, hP, B8, s8⟩ := hrel
                    replace hgm := hide hgm
                    have d8 : wr.cell? ⟨w.heap.size, 3, none⟩ = some (.int .i64 (j : Int)) := (B8.cell hwA).trans d3
                    have hPl := hmid.out.1
                    have hLl2 := hLl.out
                    by_cases hmj : m < j
                    · have hmj2 := hide hmj
                      have hj3 : m - 1 < P.length := by omega
                      have hj4 : m < P.length := by omega
                      have e1 := hP.cellV hj3
                      have e2 := hP.cellV hj4
                      have e3 := hP.frozen m
                      have hval := hmid.out.2 (m - 1) hj3 (by omega)
                      rw [if_pos (by omega), hLx0.out] at hval
                      obtain ⟨z, hz⟩ : ∃ z, z = P[m - 1] := ⟨_, rfl⟩
                      rw [← hz] at e1 hval
                      have hz1 : z ≤ 200 := by omega
                      have hz2 : 0 ≤ z := by omega
                      have hset := midP_set hmid.out (by omega : 0 ≤ m) (by omega)
                      rw [hLx0.out, show (y : Int) + 1 + ((m : Int) - ((0 : Nat) : Int)) = z + 1 by omega] at hset
                      replace hset := hide hset
                      obtain ⟨o1, o2, o3, o4⟩ := at_store hown8 hP B8 s8 m (z + 1)
                      have m1 : (m : Int) < (j : Int) := by omega
                      have m0 : (1 : Int) ≤ (m : Int) := by omega
                      have mt : ((m : Int) - 1).toNat = m - 1 := by omega
                      clear hz hval hPl hLl2 hown8 hP B8 s8 hmid
                      go_wp2
                      go_roundg (j - (m + 1))
                      case measure => have := hgm.out; have := hmj2.out; omega
                      case rel => exact ⟨m + 1, _, rfl, by omega, by have := hmj2.out; omega, by go_num, hset, o1, o2, o3, o4⟩
                    · obtain rfl : m = j := by omega
                      have hnx := step_next (n := SA.length) hkSA (by omega) hrC.out hxj hst.out hmid.out
                      obtain ⟨n5, n6⟩ := hnx
                      replace n5 := hide n5
                      replace n6 := hide n6
                      clear hPl hLl2 hmid hmj
                      go_wp2
                      go_roundg (q - (r + 1))
                      case measure => have := hgh.out; have := hrlt2.out; omega
                      case rel => exact ⟨r + 1, P, la7, lc7, rfl, by have := hrlt2.out; omega, rfl, hown8, hP, n5, fun h => n6.out (by rw [hC.out]; exact h), B8, s8⟩
                · have x1 : (0 : Int) < (x : Int) := by omega
                  have xg : decide ((0 : Int) < (x : Int)) = true := decide_eq_true x1
                  have xg2 : decide (0 < x) = true := decide_eq_true (by omega)
                  by_cases hyx : (y : Int) = (SA.length : Int) - (j : Int) + (x : Int)
                  · have hd : ((y : Int) == (SA.length : Int) - (j : Int) + (x : Int)) = true := by simpa using hyx
                    have hst := hide (srch_step hsr.out (by omega) (by omega))
                    replace hyx := hide hyx
                    replace hx0 := hide hx0
                    have hownD := hide (fun n => hown7.keep (Bel.drN (Below.refl _ wr) n))
                    have BD := hide (fun n => Bel.drNAt B7 n)
                    clear p1 p2 p3 hsr
                    go_wp2
                    go_quiet (fail)
                    go_wp2
                    go_roundg (x - 1)
                    case measure => have := hgx.out; have := hx0.out; omega
                    case rel => exact ⟨x - 1, rfl, by omega, by have := hx0.out; go_num, hst, hownD.out _, hL7.drewN _, BD.out _, s7⟩
                  · have hd : ((y : Int) == (SA.length : Int) - (j : Int) + (x : Int)) = false := by simpa using hyx
                    have hst := hide (srch_end hsr.out (.inr (by omega)))
                    replace hyx := hide hyx
                    replace hx0 := hide hx0
                    clear p1 p2 p3 hsr
                    go_wp2
                    go_quiet (fail)
                    go_wp2
                    have oo := hide (fun (n : Nat) => at_store (hown7.keep (Bel.drN (Below.refl _ wr) n)) (hL7.drewN n) (Bel.drNAt B7 n) s7 x ((y : Int) + 1))
                    clear hown7 hL7 B7 s7 d7 e1 e3
                    go_loopg [15] (j - (x + 1)) (fun gh t wr => ∃ (m : Nat) (P : List Int), gh = j - m ∧ x + 1 ≤ m ∧ m ≤ j ∧ t = .int .i64 (m : Int) ∧ Hid (midP (dn (unrankL SA.length 1 r j)) x m P) ∧ OwnLn wr (gA + 1) (.slice la7 (r + 1) lc7) ((List.range (r + 1)).map fun r => (combS SA j r, SB)) ∧ Row wr gA 3 (P.map I64) ∧ Below gA w2 wr ∧ gA + 1 ≤ wr.heap.size)
                    case atStart => exact ⟨x + 1, _, rfl, Nat.le_refl _, by omega, by go_num, hmid, (oo.out _).1, (oo.out _).2.1, (oo.out _).2.2.1, (oo.out _).2.2.2⟩
                    case round =>
                      clear oo hmid
                      obtain ⟨m, P, hgm, hm1, hm2, rfl, hmid, hown8, hP, B8, s8⟩ := hrel
                      replace hgm := hide hgm
                      have d8 : wr.cell? ⟨w.heap.size, 3, none⟩ = some (.int .i64 (j : Int)) := (B8.cell hwA).trans d3
                      have hPl := hmid.out.1
                      have hLl2 := hLl.out
                      by_cases hmj : m < j
                      · have hmj2 := hide hmj
                        have hj3 : m - 1 < P.length := by omega
                        have hj4 : m < P.length := by omega
                        have e1 := hP.cellV hj3
                        have e2 := hP.cellV hj4
                        have e3 := hP.frozen m
                        have hval := hmid.out.2 (m - 1) hj3 (by omega)
                        rw [if_pos (by omega), hLx0.out] at hval
                        obtain ⟨z, hz⟩ : ∃ z, z = P[m - 1] := ⟨_, rfl⟩
                        rw [← hz] at e1 hval
                        have hz1 : z ≤ 200 := by omega
                        have hz2 : 0 ≤ z := by omega
                        have hset := midP_set hmid.out (by omega : x ≤ m) (by omega)
                        rw [hLx0.out, show (y : Int) + 1 + ((m : Int) - (x : Int)) = z + 1 by omega] at hset
                        replace hset := hide hset
                        obtain ⟨o1, o2, o3, o4⟩ := at_store hown8 hP B8 s8 m (z + 1)
                        have m1 : (m : Int) < (j : Int) := by omega
                        have m0 : (1 : Int) ≤ (m : Int) := by omega
                        have mt : ((m : Int) - 1).toNat = m - 1 := by omega
                        clear hz hval hPl hLl2 hown8 hP B8 s8 hmid
                        go_wp2
                        go_roundg (j - (m + 1))
                        case measure => have := hgm.out; have := hmj2.out; omega
                        case rel => exact ⟨m + 1, _, rfl, by omega, by have := hmj2.out; omega, by go_num, hset, o1, o2, o3, o4⟩
                      · obtain rfl : m = j := by omega
                        have hnx := step_next (n := SA.length) hkSA (by omega) hrC.out hxj hst.out hmid.out
                        obtain ⟨n5, n6⟩ := hnx
                        replace n5 := hide n5
                        replace n6 := hide n6
                        clear hPl hLl2 hmid hmj
                        go_wp2
                        go_roundg (q - (r + 1))
                        case measure => have := hgh.out; have := hrlt2.out; omega
                        case rel => exact ⟨r + 1, P, la7, lc7, rfl, by have := hrlt2.out; omega, rfl, hown8, hP, n5, fun h => n6.out (by rw [hC.out]; exact h), B8, s8⟩
        · obtain rfl : r = q := by omega
          have hx : (List.range r).map (fun r => (combS SA i r, SB)) = expL SA SB i := by rw [← hC.out]; rfl
          rw [hx] at hown
          have hrd := hown.rd
          have Bw : Below w.heap.size w wo := Bel.to B2 (by rw [← hgA.out]; exact hB)
          clear hown hLr hLv hrlt hgh hx
          go_wp2
          go_ret2
          exact ⟨_, rfl, hrd, Bw⟩
end Go.Proofs.Ytgmbnbdbmkdlgaa
end

section
/- lotteryref15.SameLine, Same: lists of lines. No condition. -/
open Go.RowKit
set_option linter.unusedVariables false
set_option linter.unusedSimpArgs false
namespace Go.Proofs.Ytgmbnbdbmkdlgaa

set_option maxHeartbeats 2000000 in
set_option maxRecDepth 100000 in
theorem line15_any (m1 b1 m2 b2 : Value) (a b c d : List Int) (w : World) (h1 : LineR w m1 b1 a b) (h2 : LineR w m2 b2 c d) :
    Calls Try.prog 34 #[lineVal m1 b1, lineVal m2 b2] w (BoolB (decide (a = c ∧ b = d)) w) := by
  have cA := hide (fun X (hX : Below w.heap.size w X) => sameInts15 m1 m2 a c X (h1.1.below hX) (h2.1.below hX))
  have cB := hide (fun X (hX : Below w.heap.size w X) => sameInts15 b1 b2 b d X (h1.2.below hX) (h2.2.below hX))
  obtain ⟨s1, n1, k1, rfl⟩ := Rd.shape h1.1
  obtain ⟨s2, n2, k2, rfl⟩ := Rd.shape h1.2
  obtain ⟨s3, n3, k3, rfl⟩ := Rd.shape h2.1
  obtain ⟨s4, n4, k4, rfl⟩ := Rd.shape h2.2
  clear h1 h2
  obtain ⟨p, hp⟩ : ∃ p, p = decide (a = c) := ⟨_, rfl⟩
  obtain ⟨q, hq⟩ : ∃ q, q = decide (b = d) := ⟨_, rfl⟩
  have hr : decide (a = c ∧ b = d) = (p && q) := by rw [hp, hq, Bool.decide_and]
  rw [hr]
  rw [← hp] at cA
  rw [← hq] at cB
  clear hp hq hr
  unfold lineVal
  go_enter Try.func34, Try.ntmps34
  go_upto_region 1 with (fail)
  obtain ⟨W, hW⟩ : ∃ W, W = ((w.alloc (Obj.cells #[(.slice s1 n1 k1), (.slice s2 n2 k2)] 28)).alloc (Obj.cells #[(.slice s3 n3 k3), (.slice s4 n4 k4)] 28)) := ⟨_, rfl⟩
  have bW : Below w.heap.size w W := by rw [hW]; exact Bel.al (Bel.al (Below.refl _ _) _) _
  have r0 : LineAt W (w.heap.size) ((.slice s1 n1 k1)) ((.slice s2 n2 k2)) := by rw [hW]; exact Row.alloc (Row.new _ _ _) _
  have r1 : LineAt W (w.heap.size + 1) ((.slice s3 n3 k3)) ((.slice s4 n4 k4)) := by rw [hW]; exact Row.at2 _ _ _ _
  have sW : w.heap.size + 1 < W.heap.size := by rw [hW]; simp
  rw [← hW]
  clear hW
  have c0 := r0.main
  have c2 := r1.main
  go_wp2_with fail
  refine (cA.out _ bW).mono ?_
  rintro e w1 ⟨rfl, hb1⟩
  have d1 := (r0.keep hb1).bonus
  have d3 := (r1.keep hb1).bonus
  have B1 := Bel.to bW hb1
  clear c0 c2 r0 r1 hb1
  cases p
  · go_wp2
    go_ret
    exact ⟨rfl, B1⟩
  · go_wp2_with fail
    refine (cB.out _ B1).mono ?_
    rintro e w2 ⟨rfl, hb2⟩
    go_wp2
    go_ret
    exact ⟨rfl, Bel.to B1 hb2⟩

/-- Two lines of the same numbers. -/
theorem line15_self (m1 b1 m2 b2 : Value) (a b : List Int) (w : World) (h1 : LineR w m1 b1 a b) (h2 : LineR w m2 b2 a b) :
    Calls Try.prog 34 #[lineVal m1 b1, lineVal m2 b2] w (BoolB true w) := by
  have := line15_any m1 b1 m2 b2 a b a b w h1 h2
  rwa [show decide (a = a ∧ b = b) = true by simp] at this

theorem rangeAt_keep15 {X Y : World} {b off : Nat} {cs : List Value} (h : X.rangeAt b off cs) (hb : Below X.heap.size X Y) : Y.rangeAt b off cs := fun j v hv => Bel.cellOf hb (h j v hv)

set_option maxHeartbeats 4000000 in
set_option maxRecDepth 100000 in
/-- Two lists of the same lines. -/
theorem same15_self (va vb : Value) (ls : List LineD) (w : World) (ha : LinesR w va ls) (hb : LinesR w vb ls) : Calls Try.prog 12 #[va, vb] w (BoolB true w) := by
  obtain ⟨n, hn⟩ : ∃ n, n = ls.length := ⟨_, rfl⟩
  obtain ⟨a1, c1, rfl, hc1, hm1⟩ := ha.shape
  obtain ⟨a2, c2, rfl, hc2, hm2⟩ := hb.shape
  rw [← hn] at ha hb hc1 hc2 ⊢
  unfold maxLen at hm1 hm2
  have hn9 : n ≤ 9223372036854775807 := by omega
  have hha := hide ha
  have hhb := hide hb
  replace hn := hide hn
  clear ha hb
  go_enter Try.func12, Try.ntmps12
  go_wp2
  go_loopg [5] n (fun gh t wr => ∃ k : Nat, gh = n - k ∧ k ≤ n ∧ t = .int .i64 (k : Int) ∧ Below w.heap.size w wr)
  case atStart => exact ⟨0, rfl, Nat.zero_le _, rfl, Below.refl _ _⟩
  case round =>
    obtain ⟨k, hgh, hk, rfl, hB⟩ := hrel
    replace hgh := hide hgh
    by_cases hlt : k < n
    · have hlt2 := hide hlt
      have hlk : k < ls.length := by rw [← hn.out]; exact hlt
      obtain ⟨b1, off1, p1, q1, rfl, hb1, x1, y1, l1⟩ := (hha.out.below hB).at_ hlk
      obtain ⟨b2, off2, p2, q2, rfl, hb2, x2, y2, l2⟩ := (hhb.out.below hB).at_ hlk
      have g1 : wr.rangeAt b1 (off1 + k * 2) [p1, q1] := by
        intro j v hv
        match j, hv with
        | 0, hv => simp at hv; subst hv; exact x1
        | 1, hv => simp at hv; subst hv; exact y1
      have g2 : wr.rangeAt b2 (off2 + k * 2) [p2, q2] := by
        intro j v hv
        match j, hv with
        | 0, hv => simp at hv; subst hv; exact x2
        | 1, hv => simp at hv; subst hv; exact y2
      have cS := hide (line15_self p1 q1 p2 q2 ls[k].1 ls[k].2 wr.drew l1 l2)
      unfold lineVal at cS
      have j1 : (0 : Int) ≤ (k : Int) := by omega
      have j2 : (k : Int) < (n : Int) := by omega
      clear l1 l2 x1 x2 y1 y2
      go_upto_region 6 with (fail)
      refine wp_region_held_drew (S := fun X => X.rangeAt b1 (off1 + k * 2) [p1, q1] ∧ X.rangeAt b2 (off2 + k * 2) [p2, q2]) (by kernel_rfl) (⟨g1, g2⟩) (fun hHeld => ?_)
      refine' wpAnyH_take (i := 0) (oi := _) (v := .slice (some ⟨b1, off1, none⟩) n c1) rfl (by kernel_rfl) (by kernel_rfl) (by kernel_rfl) (fun _ _ _ h => h) (Or.inl ⟨by rfl, fun X _ => by go_simp⟩) hHeld ?_
      try simp only [Act.put, List.setIfInBounds_toArray, List.set_cons_zero, List.set_cons_succ]
      refine' wpAnyH_take (i := 1) (oi := _) (v := .int .i64 (k : Int)) rfl (by kernel_rfl) (by kernel_rfl) (by kernel_rfl) (fun _ _ _ h => h) (Or.inl ⟨by rfl, fun X _ => by go_simp⟩) hHeld ?_
      try simp only [Act.put, List.setIfInBounds_toArray, List.set_cons_zero, List.set_cons_succ]
      refine' wpAnyH_take (i := 2) (oi := _) (v := .pointer (some ⟨b1, off1 + k * 2, none⟩)) rfl (by kernel_rfl) (by kernel_rfl) (by kernel_rfl) (fun _ _ _ h => h) (Or.inl ⟨by rfl, fun X _ => by go_simp⟩) hHeld ?_
      try simp only [Act.put, List.setIfInBounds_toArray, List.set_cons_zero, List.set_cons_succ]
      refine' wpAnyH_take (i := 3) (oi := _) (v := _) rfl (by kernel_rfl) (by kernel_rfl) (by kernel_rfl) (fun _ _ _ h => h) (yieldsIf_load_mid (by first | (go_simp; done) | rfl) 28 _ rfl _ _ rfl ([p1, q1]) _ (fun X h => h.1) Try.underlying28 rfl (by kernel_rfl)) hHeld ?_
      try simp only [Act.put, List.setIfInBounds_toArray, List.set_cons_zero, List.set_cons_succ]
      refine' wpAnyH_take (i := 4) (oi := _) (v := .slice (some ⟨b2, off2, none⟩) n c2) rfl (by kernel_rfl) (by kernel_rfl) (by kernel_rfl) (fun _ _ _ h => h) (Or.inl ⟨by rfl, fun X _ => by go_simp⟩) hHeld ?_
      try simp only [Act.put, List.setIfInBounds_toArray, List.set_cons_zero, List.set_cons_succ]
      refine' wpAnyH_take (i := 5) (oi := _) (v := .int .i64 (k : Int)) rfl (by kernel_rfl) (by kernel_rfl) (by kernel_rfl) (fun _ _ _ h => h) (Or.inl ⟨by rfl, fun X _ => by go_simp⟩) hHeld ?_
      try simp only [Act.put, List.setIfInBounds_toArray, List.set_cons_zero, List.set_cons_succ]
      refine' wpAnyH_take (i := 6) (oi := _) (v := .pointer (some ⟨b2, off2 + k * 2, none⟩)) rfl (by kernel_rfl) (by kernel_rfl) (by kernel_rfl) (fun _ _ _ h => h) (Or.inl ⟨by rfl, fun X _ => by go_simp⟩) hHeld ?_
      try simp only [Act.put, List.setIfInBounds_toArray, List.set_cons_zero, List.set_cons_succ]
      refine' wpAnyH_take (i := 7) (oi := _) (v := _) rfl (by kernel_rfl) (by kernel_rfl) (by kernel_rfl) (fun _ _ _ h => h) (yieldsIf_load_mid (by first | (go_simp; done) | rfl) 28 _ rfl _ _ rfl ([p2, q2]) _ (fun X h => h.2) Try.underlying28 rfl (by kernel_rfl)) hHeld ?_
      try simp only [Act.put, List.setIfInBounds_toArray, List.set_cons_zero, List.set_cons_succ]
      refine wpAnyH_ready (rs := [8]) (by kernel_rfl) (by simp) ?_
      refine AllReadyH.cons (o := _) rfl (fun K hK => ?_) AllReadyH.nil
      go_simp
      refine (cS.out).mono ?_
      rintro e w3 ⟨rfl, hb3⟩
      go_wp2_with fail
      refine hK.out _ _ (⟨rangeAt_keep15 hHeld.1 hb3, rangeAt_keep15 hHeld.2 hb3⟩) (fun hHeld => ?_)
      clear hK K
      try simp only [Act.put, List.setIfInBounds_toArray, List.set_cons_zero, List.set_cons_succ]
      refine' wpAnyH_take (i := 9) (oi := _) (v := .bool false) rfl (by kernel_rfl) (by kernel_rfl) (by kernel_rfl) (fun _ _ _ h => h) (Or.inl ⟨by rfl, fun X _ => by go_simp⟩) hHeld ?_
      try simp only [Act.put, List.setIfInBounds_toArray, List.set_cons_zero, List.set_cons_succ]
      refine wpAnyH_done (by kernel_rfl) ?_ _
      go_simp
      go_wp2
      go_roundg (n - (k + 1))
      case measure => have := hgh.out; have := hlt2.out; omega
      case rel => exact ⟨k + 1, rfl, by have := hlt2.out; omega, by go_num, Bel.to (Bel.to hB (Below.drew (Below.refl _ _))) hb3⟩
    · have hkn : k = n := by omega
      go_wp2
      go_ret
      exact ⟨rfl, hB⟩

end Go.Proofs.Ytgmbnbdbmkdlgaa
end

section
/- The walk of the statement SystemExpands: it returns true, whatever the game and the line. -/
open Go.RowKit
set_option linter.unusedVariables false
set_option linter.unusedSimpArgs false
namespace Go.Proofs.Ytgmbnbdbmkdlgaa

theorem rexpand_any (g : GameD) (av tv mv bv : Value) (ms : List AddonM) (a b : List Int) (w : World) (h : GameR w av tv ms g) (hl : LineR w mv bv a b) :
    Calls Try.prog 11 #[gameVal g av tv, lineVal mv bv] w (LinesX (expP g a b).1 (expP g a b).2 w) := by
  unfold expP
  by_cases he : sysE g a b = 0
  · rw [if_neg (by simpa using he)]
    by_cases hm : 1024 < choose a.length g.main.toNat
    · rw [if_pos hm]
      obtain ⟨g1, g2, g3, g4, g5, g6, g7, g8⟩ := sysE_ok he
      obtain ⟨f1, f2, f3, f4, f5, f6, f7, f8, f9⟩ := sys_bounds g1
      exact rexpand_many g av tv mv bv ms a b w h hl he hm (choose_14 (by omega))
    · rw [if_neg hm]
      exact rexpand_ok g av tv mv bv ms a b w h hl he (by omega)
  · rw [if_pos he]
    exact rexpand_bad g av tv mv bv ms a b w h hl he

set_option maxHeartbeats 4000000 in
set_option maxRecDepth 100000 in
theorem expands15_any (g : GameD) (av tv mv bv : Value) (ms : List AddonM) (a b : List Int) (w : World) (h : GameR w av tv ms g) (hl : LineR w mv bv a b) :
    Calls Try.prog 3 #[gameVal g av tv, lineVal mv bv] w (BoolB true w) := by
  have cA := hide (fun X (hX : Below w.heap.size w X) => sexpand_any g av tv mv bv ms a b X (h.below hX) (hl.below hX))
  have cB := hide (fun X (hX : Below w.heap.size w X) => rexpand_any g av tv mv bv ms a b X (h.below hX) (hl.below hX))
  obtain ⟨R, hR⟩ : ∃ R, R = expP g a b := ⟨_, rfl⟩
  rw [← hR] at cA cB
  clear hR
  obtain ⟨L, c⟩ := R
  simp only [] at cA cB
  obtain ⟨aa, ac, rfl, hal, ham⟩ := h.1.1.shape
  obtain ⟨ta, tc, rfl, htl, htm⟩ := h.2.2.shape
  obtain ⟨ma, mc, rfl, hma, hmc, -⟩ := hl.1.form
  obtain ⟨ba, bc, rfl, hba, hbc, -⟩ := hl.2.form
  clear h hl
  have hcc : (c == c) = true := by simp
  unfold gameVal lineVal at cA cB ⊢
  go_enter Try.func3, Try.ntmps3
  go_upto_region 1 with (fail)
  obtain ⟨W, hW⟩ : ∃ W, W = ((w.alloc (Obj.cells #[.string g.name, .int .i64 g.kind, .int .i64 g.price, .int .i64 g.main, .int .i64 g.of, .int .i64 g.bonus, .int .i64 g.bonusOf, .int .i64 g.extra, .int .i64 g.draws, .int .i64 g.system, .int .i64 g.days, .int .i64 g.at_, .int .i64 g.close, .int .i64 g.cancel, .int .i64 g.expiry, .int .i64 g.pool, .int .i64 g.reserve, .int .i64 g.round, .int .i64 g.cap, .int .i64 g.rolls, (.slice aa ms.length ac), (.slice ta g.tiers.length tc)] 25)).alloc (Obj.cells #[(.slice ma a.length mc), (.slice ba b.length bc)] 28)) := ⟨_, rfl⟩
  have bW : Below w.heap.size w W := by rw [hW]; exact Bel.al (Bel.al (Below.refl _ _) _) _
  have r0 : GameAt W (w.heap.size) g ((.slice aa ms.length ac)) ((.slice ta g.tiers.length tc)) := by rw [hW]; exact Row.alloc (Row.new _ _ _) _
  have r1 : LineAt W (w.heap.size + 1) ((.slice ma a.length mc)) ((.slice ba b.length bc)) := by rw [hW]; exact Row.at2 _ _ _ _
  have sW : w.heap.size + 1 < W.heap.size := by rw [hW]; simp
  rw [← hW]
  clear hW
  go_wp2_with (first | (refine wpList_load_row rfl 25 _ rfl _ rfl _ _ _ _ r0 Try.underlying25 rfl (by kernel_rfl) ?_) | (refine wpList_load_row rfl 28 _ rfl _ rfl _ _ _ _ r1 Try.underlying28 rfl (by kernel_rfl) ?_) | fail)
  refine (cA.out _ bW).mono ?_
  rintro e w1 ⟨u, rfl, hu, hb1⟩
  have B1 := Bel.to bW hb1
  have r0 := r0.keep hb1
  have r1 := r1.keep hb1
  obtain ⟨ua, uc, rfl, -, -⟩ := hu.shape
  clear hb1 bW
  go_wp2_with (first | (refine wpList_load_row rfl 25 _ rfl _ rfl _ _ _ _ r0 Try.underlying25 rfl (by kernel_rfl) ?_) | (refine wpList_load_row rfl 28 _ rfl _ rfl _ _ _ _ r1 Try.underlying28 rfl (by kernel_rfl) ?_) | fail)
  refine (cB.out _ B1).mono ?_
  rintro e w2 ⟨v, rfl, hv, hb2⟩
  have B2 := Bel.to B1 hb2
  have hu := hu.below hb2
  have cS := hide (same15_self _ _ L w2 hu hv)
  obtain ⟨va, vc, rfl, -, -⟩ := hv.shape
  clear hb2 B1 r0 r1 cA cB hu hv
  go_wp2_with fail
  refine cS.out.mono ?_
  rintro e w3 ⟨rfl, hb3⟩
  have B3 := Bel.to B2 hb3
  clear hb3 B2 cS
  go_wp2_with fail
  refine (lives15_any _).mono ?_
  rintro e w4 ⟨rfl, hb4⟩
  have B4 := Bel.to B3 hb4
  go_wp2
  go_ret
  exact ⟨rfl, B4⟩
end Go.Proofs.Ytgmbnbdbmkdlgaa
end

section
/- SystemExpands: for every input the Go function lotterylaw15.SystemExpands returns true, and each argument reads afterwards as before. Conditions: none. -/
namespace Go.Proofs.Ytgmbnbdbmkdlgaa.systemExpands
open Go.ChangeShapes Go.WideShapes Go.ChangeAt Go.RowKit
set_option linter.unusedVariables false

theorem own : ownKnob Try.prog.godebug = none := by kernel_rfl
theorem laidOut : laidOutB Try.prog = true := by kernel_rfl

set_option maxRecDepth 100000 in
theorem lifted (os : Os) (started : os.Started) (H : Type) (enc : TypeId × Value → H) :
    ReturnsInHanded {} Try.checked os 3 .any (Rows.systemExpandsSpec.pre6 enc Try.prog Try.f3 Rows.systemExpandsRow.domain false) (Rows.systemExpandsSpec.post enc Try.prog Try.f3 false true false false) := by
  refine returnsInHanded_of_change (C := Try.checked) own started (by kernel_rfl) Try.func3
    (ChangeSpec.witness6 (enc := enc) (C := Try.checked) false ⟨#[], #[.agg #[.string ⟨#[]⟩, .int .i64 0, .int .i64 0, .int .i64 0, .int .i64 0, .int .i64 0, .int .i64 0, .int .i64 0, .int .i64 0, .int .i64 0, .int .i64 0, .int .i64 0, .int .i64 0, .int .i64 0, .int .i64 0, .int .i64 0, .int .i64 0, .int .i64 0, .int .i64 0, .int .i64 0, .slice none 0 0, .slice none 0 0], .agg #[.slice none 0 0, .slice none 0 0]], []⟩ 8 (by kernel_rfl) (by kernel_rfl) (by kernel_rfl) (by kernel_rfl)) ?_
  intro W base args ds gs before hval0 hW hcnd _
  have hval : ∀ (j : Nat) t v, Try.f3.params[j]? = some t → args[j]? = some v → Value.okWide Try.prog W .any base t v := hval0
  have hW' := hW
  obtain ⟨p, q, hA0, hV, rfl, hfz, hnd⟩ := hW
  have hA : DataW.TrodAll enc Try.prog W 0 (fun _ => true) true Try.f3.params.toList args.toList ds p := hA0
  rw [Try.params3] at hA hval
  obtain ⟨v0, vs0, d0, ds0, p0, q0, hargs, rfl, rfl, h0, r0⟩ := trodAll_cons hA
  obtain ⟨v1, vs1, d1, ds1, p1, q1, rfl, rfl, rfl, h1, r1⟩ := trodAll_cons r0
  obtain ⟨rfl, rfl, rfl⟩ := trodAll_nil r1
  obtain rfl : args = #[v0, v1] := by cases args; simp_all
  obtain ⟨rfl, rfl⟩ := trodVars_none hV
  obtain ⟨cs0, rfl, hsz0⟩ := okWide_struct Try.underlying25 (hval 0 25 v0 rfl rfl)
  have k0 := h0
  have lt0 : ∀ x ∈ p0, x.block < W.heap.size := by obtain ⟨m, hm⟩ := k0; exact DataW.trod_lt m _ _ _ hm
  obtain ⟨g0, av0, tv0, ms0, eg0, rg0⟩ := game_trod h0
  rw [eg0] at k0 hW' ⊢
  obtain ⟨cs1, rfl, hsz1⟩ := okWide_struct Try.underlying28 (hval 1 28 v1 rfl rfl)
  have k1 := h1
  have lt1 : ∀ x ∈ p1, x.block < W.heap.size := by obtain ⟨m, hm⟩ := k1; exact DataW.trod_lt m _ _ _ hm
  obtain ⟨mv1, bv1, la1, lb1, eg1, rg1⟩ := line_trod h1
  rw [eg1] at k1 hW' ⊢
  clear hA0 hval0
  refine (expands15_any g0 av0 tv0 mv1 bv1 ms0 la1 lb1 W rg0 rg1).mono fun e W' ⟨he, bel⟩ => ?_
  subst he
  exact ⟨_, rfl, _, _, _, [], _, [], hW', trodAll_mk1 (shut_bool Try.underlying4 _), (trodAll_cons_mk (Below.trod laidOut (by kernel_rfl) (of_decide_eq_true (by kernel_rfl)) k0 bel lt0) (trodAll_cons_mk (Below.trod laidOut (by kernel_rfl) (of_decide_eq_true (by kernel_rfl)) k1 bel lt1) trodAll_mk0)), rfl, bel.frame _, fun h => by cases h⟩

theorem over : Rows.systemExpandsRow.holds Try.pinned (OpenSpec.ofChange Rows.systemExpandsSpec) :=
  OpenClaim.holds_of_wide 3 Try.f3 rfl rfl rfl rfl rfl rfl rfl ⟨rfl, rfl, rfl, rfl, rfl⟩ rfl rfl rfl rfl rfl (by kernel_rfl) Try.func3 (by kernel_rfl)
    (of_decide_eq_true (by kernel_rfl)) (by unfold Func.isWrapper; first | (rw [if_pos (by decide +kernel)]; kernel_rfl) | (rw [if_neg (by decide +kernel)]; exact ⟨rfl, rfl⟩))
    (fun os started H enc _ => lifted os started H enc)

theorem proved : Rows.SystemExpandsSaid := over
#print axioms proved
end Go.Proofs.Ytgmbnbdbmkdlgaa.systemExpands
end

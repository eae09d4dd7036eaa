/- matrix.inside; lotteryref13.within, twice: numbers of a line. -/
import Derived.Test.YtlppomkpmnpmcaaGreatLineLaw
import Derived.Test.YtlppomkpmnpmcaaGreatGame
import Derived.Test.YtlppomkpmnpmcaaGreatCopy
import Derived.Test.YtlppomkpmnpmcaaGreatProg
import Derived.BigQuiet
import Derived.Deep.LoopGhost
open Go.RowKit
set_option linter.unusedVariables false
set_option linter.unusedSimpArgs false
namespace Go.Proofs.YtlppomkpmnpmcaaGreat

theorem allB_at {l : List Int} {lo hi : Int} {k : Nat} (hk : k < l.length) (h : inB l[k] lo hi = false) : allB l lo hi = false := by
  rw [← Bool.not_eq_true]
  intro e
  unfold allB at e
  have := List.all_eq_true.1 e l[k] (List.getElem_mem hk)
  rw [h] at this; cases this
theorem allB_yes {l : List Int} {lo hi : Int} (h : ∀ k (hk : k < l.length), inB l[k] lo hi = true) : allB l lo hi = true := by
  unfold allB
  rw [List.all_eq_true]
  intro x hx
  obtain ⟨k, hk, rfl⟩ := List.getElem_of_mem hx
  exact h k hk
theorem dupB_at {l : List Int} {i k : Nat} (hi : i < l.length) (hk : k < i) (h : l[i] = l[k]'(by omega)) : dupB l = true := by
  unfold dupB
  rw [decide_eq_true_iff]
  intro hn
  exact (List.pairwise_iff_getElem.1 hn k i (by omega) hi hk) h.symm
theorem dupB_none {l : List Int} (h : ∀ i (hi : i < l.length) k (hk : k < i), l[i] ≠ l[k]'(by omega)) : dupB l = false := by
  rw [dupB_no]
  exact List.pairwise_iff_getElem.2 (fun k i hk hi hki e => h i hi k hki e.symm)


set_option maxHeartbeats 1000000 in
theorem inside13_any (v : Value) (l : List Int) (lo hi : Int) (w : World) (h : Rd I64 w v l) :
    Calls Tryz.prog 25 #[v, .int .i64 lo, .int .i64 hi] w (Pure (.bool (allB l lo hi)) w) := by
  obtain ⟨ao, cap, rfl, hle, hmax, hrd⟩ := Rd.form h
  have hmax2 : cap ≤ 9223372036854775807 := by unfold maxLen at hmax; omega
  go_enter Tryz.func25, Tryz.ntmps25
  go_wp2
  go_loopg [11] l.length (fun g t wr => ∃ (i : Nat), g = l.length - i ∧ i ≤ l.length ∧ t = .int .i64 i ∧ w = wr ∧ ∀ k (hk : k < l.length), k < i → inB l[k] lo hi = true)
  case atStart => exact ⟨0, rfl, Nat.zero_le _, rfl, rfl, fun k hk hki => absurd hki (Nat.not_lt_zero _)⟩
  case round =>
    obtain ⟨i, hg, hi', rfl, rfl, hall⟩ := hrel
    replace hg := hide hg
    replace hall := hide hall
    by_cases hlt : i < l.length
    · have hlt2 := hide hlt
      obtain ⟨b, off, rfl, hbb, hcell⟩ := hrd.at_ hlt
      have i1 : (0 : Int) ≤ (i : Int) := by omega
      have i2 : (i : Int) < (l.length : Int) := by omega
      obtain ⟨x, hx, c1⟩ : ∃ x, x = l[i] ∧ w.cell? ⟨b, off + i, none⟩ = some (.int .i64 x) := ⟨_, rfl, hcell _ hlt⟩
      clear hcell
      by_cases hlo : x < lo
      · have hr := hide (allB_at hlt (by have h9 := inB_lo (hi := hi) hlo; rw [hx] at h9; exact h9) : allB l lo hi = false)
        replace hx := hide hx
        go_wp2
        go_ret
        rw [hr.out]
        exact ⟨rfl, rfl⟩
      · by_cases hhi : hi < x
        · have hr := hide (allB_at hlt (by have h9 := inB_hi (lo := lo) hhi; rw [hx] at h9; exact h9) : allB l lo hi = false)
          replace hx := hide hx
          go_wp2
          go_ret
          rw [hr.out]
          exact ⟨rfl, rfl⟩
        · have hnext : ∀ k (hk : k < l.length), k < i + 1 → inB l[k] lo hi = true := by
            intro k hk hki
            rcases Nat.lt_succ_iff_lt_or_eq.1 hki with h | rfl
            · exact hall.out k hk h
            · have h9 := inB_yes (x := x) (lo := lo) (hi := hi) (by omega) (by omega); rw [hx] at h9; exact h9
          replace hnext := hide hnext
          replace hx := hide hx
          go_wp2
          go_roundg (l.length - (i + 1))
          case measure => have := hg.out; omega
          case rel => exact ⟨i + 1, rfl, by have := hlt2.out; omega, by go_num, rfl, hnext.out⟩
    · have hr := hide (allB_yes (lo := lo) (hi := hi) (fun k hk => hall.out k hk (by omega)))
      go_wp2
      go_ret
      rw [hr.out]
      exact ⟨rfl, rfl⟩


set_option maxHeartbeats 1000000 in
theorem within13_any (v : Value) (l : List Int) (lo hi : Int) (w : World) (h : Rd I64 w v l) :
    Calls Tryz.prog 34 #[v, .int .i64 lo, .int .i64 hi] w (Pure (.bool (allB l lo hi)) w) := by
  obtain ⟨ao, cap, rfl, hle, hmax, hrd⟩ := Rd.form h
  have hmax2 : cap ≤ 9223372036854775807 := by unfold maxLen at hmax; omega
  go_enter Tryz.func34, Tryz.ntmps34
  go_wp2
  go_loopg [7] l.length (fun g t wr => ∃ (i : Nat), g = l.length - i ∧ i ≤ l.length ∧ t = .int .i64 i ∧ w = wr ∧ ∀ k (hk : k < l.length), k < i → inB l[k] lo hi = true)
  case atStart => exact ⟨0, rfl, Nat.zero_le _, rfl, rfl, fun k hk hki => absurd hki (Nat.not_lt_zero _)⟩
  case round =>
    obtain ⟨i, hg, hi', rfl, rfl, hall⟩ := hrel
    replace hg := hide hg
    replace hall := hide hall
    by_cases hlt : i < l.length
    · have hlt2 := hide hlt
      obtain ⟨b, off, rfl, hbb, hcell⟩ := hrd.at_ hlt
      have i1 : (0 : Int) ≤ (i : Int) := by omega
      have i2 : (i : Int) < (l.length : Int) := by omega
      obtain ⟨x, hx, c1⟩ : ∃ x, x = l[i] ∧ w.cell? ⟨b, off + i, none⟩ = some (.int .i64 x) := ⟨_, rfl, hcell _ hlt⟩
      clear hcell
      by_cases hlo : x < lo
      · have hr := hide (allB_at hlt (by have h9 := inB_lo (hi := hi) hlo; rw [hx] at h9; exact h9) : allB l lo hi = false)
        replace hx := hide hx
        go_wp2
        go_ret
        rw [hr.out]
        exact ⟨rfl, rfl⟩
      · by_cases hhi : hi < x
        · have hr := hide (allB_at hlt (by have h9 := inB_hi (lo := lo) hhi; rw [hx] at h9; exact h9) : allB l lo hi = false)
          replace hx := hide hx
          go_wp2
          go_ret
          rw [hr.out]
          exact ⟨rfl, rfl⟩
        · have hnext : ∀ k (hk : k < l.length), k < i + 1 → inB l[k] lo hi = true := by
            intro k hk hki
            rcases Nat.lt_succ_iff_lt_or_eq.1 hki with h | rfl
            · exact hall.out k hk h
            · have h9 := inB_yes (x := x) (lo := lo) (hi := hi) (by omega) (by omega); rw [hx] at h9; exact h9
          replace hnext := hide hnext
          replace hx := hide hx
          go_wp2
          go_roundg (l.length - (i + 1))
          case measure => have := hg.out; omega
          case rel => exact ⟨i + 1, rfl, by have := hlt2.out; omega, by go_num, rfl, hnext.out⟩
    · have hr := hide (allB_yes (lo := lo) (hi := hi) (fun k hk => hall.out k hk (by omega)))
      go_wp2
      go_ret
      rw [hr.out]
      exact ⟨rfl, rfl⟩


set_option maxHeartbeats 2000000 in
set_option maxRecDepth 100000 in
theorem twice13_any (v : Value) (l : List Int) (w : World) (h : Rd I64 w v l) :
    Calls Tryz.prog 35 #[v] w (BoolB (dupB l) w) := by
  obtain ⟨ao, cap, rfl, hle, hmax, hrd⟩ := Rd.form h
  have hmax2 : cap ≤ 9223372036854775807 := by unfold maxLen at hmax; omega
  go_enter Tryz.func35, Tryz.ntmps35
  go_wp2
  go_loopg [3, 4] l.length (fun g t t4 wr => ∃ (i d : Nat), g = l.length - i ∧ i ≤ l.length ∧ t = .int .i64 i ∧ wr = w.drewN d ∧ ∀ p (hp : p < l.length), p < i → ∀ q (hq : q < p), l[p] ≠ l[q])
  case atStart => exact ⟨0, 0, rfl, Nat.zero_le _, rfl, rfl, fun p hp hpi => absurd hpi (Nat.not_lt_zero _)⟩
  case round =>
    obtain ⟨i, d, hg, hi', rfl, rfl, hall⟩ := hrel
    replace hg := hide hg
    replace hall := hide hall
    by_cases hlt : i < l.length
    · have hlt2 := hide hlt
      obtain ⟨b, off, rfl, hbb, hcell⟩ := hrd.at_ hlt
      have i1 : (0 : Int) ≤ (i : Int) := by omega
      have i2 : (i : Int) < (l.length : Int) := by omega
      obtain ⟨x, hx, c1⟩ : ∃ x, x = l[i] ∧ w.cell? ⟨b, off + i, none⟩ = some (.int .i64 x) := ⟨_, rfl, hcell _ hlt⟩
      replace hx := hide hx
      replace hcell := hide hcell
      go_wp2
      obtain ⟨wo, hwo⟩ : ∃ wo, wo = w.drewN d := ⟨_, rfl⟩
      rw [← hwo]
      replace hwo := hide hwo
      go_loopg [4] i (fun g t wr => ∃ (k e : Nat), g = i - k ∧ k ≤ i ∧ t = .int .i64 k ∧ wr = w.drewN e ∧ ∀ q (hq : q < k) (hl : q < l.length), x ≠ l[q])
      case atStart => exact ⟨0, d, rfl, Nat.zero_le _, rfl, hwo.out, fun q hq => absurd hq (Nat.not_lt_zero _)⟩
      case round =>
        obtain ⟨k, e, hg2, hk', rfl, rfl, hall2⟩ := hrel
        replace hg2 := hide hg2
        replace hall2 := hide hall2
        by_cases hki : k < i
        · have hki2 := hide hki
          have j1 : (0 : Int) ≤ (k : Int) := by omega
          have j2 : (k : Int) < (l.length : Int) := by omega
          obtain ⟨y, hy, c2⟩ : ∃ y, y = l[k] ∧ w.cell? ⟨b, off + k, none⟩ = some (.int .i64 y) := ⟨_, rfl, hcell.out _ (by omega)⟩
          by_cases he : x = y
          · have hb : (x == y) = true := by simpa using he
            have hr := hide (dupB_at hlt hki (by have h9 := he; rw [hx.out, hy] at h9; exact h9))
            replace hy := hide hy
            replace he := hide he
            go_wp2
            go_quiet (fail)
            go_wp2
            go_ret
            rw [hr.out]
            exact ⟨rfl, Bel.drN (Bel.drN (Below.refl _ _) _) _⟩
          · have hb : (x == y) = false := by simpa using he
            have hnext : ∀ q (hq : q < k + 1) (hl : q < l.length), x ≠ l[q] := by
              intro q hq hl
              rcases Nat.lt_succ_iff_lt_or_eq.1 hq with h | rfl
              · exact hall2.out q h hl
              · rw [← hy]; exact he
            replace hnext := hide hnext
            replace hy := hide hy
            replace he := hide he
            go_wp2
            go_quiet (fail)
            go_wp2
            go_roundg (i - (k + 1))
            case measure => have := hg2.out; have := hki2.out; omega
            case rel => exact ⟨k + 1, _, rfl, by have := hki2.out; omega, by go_num, rfl, hnext.out⟩
        · have hnext : ∀ p (hp : p < l.length), p < i + 1 → ∀ q (hq : q < p), l[p] ≠ l[q] := by
            intro p hp hpi q hq
            rcases Nat.lt_succ_iff_lt_or_eq.1 hpi with h | rfl
            · exact hall.out p hp h q hq
            · have h9 := hall2.out q (by omega) (by omega); rw [hx.out] at h9; exact h9
          replace hnext := hide hnext
          go_wp2
          go_roundg (l.length - (i + 1))
          case measure => have := hg.out; have := hlt2.out; omega
          case rel => exact ⟨i + 1, _, rfl, by have := hlt2.out; omega, by go_num, rfl, hnext.out⟩
    · have hr := hide (dupB_none (l := l) (fun i hi k hk => hall.out i hi (by omega) k hk))
      go_wp2
      go_ret
      rw [hr.out]
      exact ⟨rfl, Bel.drN (Below.refl _ _) _⟩
end Go.Proofs.YtlppomkpmnpmcaaGreat

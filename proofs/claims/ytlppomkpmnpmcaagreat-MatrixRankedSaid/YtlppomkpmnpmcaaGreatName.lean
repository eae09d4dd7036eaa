/- rulecheck.Name, lotteryref12.Name; rulecheck.within, lotteryref12.in. -/
import Derived.Test.YtlppomkpmnpmcaaGreatGameLaw
import Derived.Test.YtlppomkpmnpmcaaGreatRow
import Derived.Test.YtlppomkpmnpmcaaGreatProg
import Derived.Deep.LoopGhost
open Go.RowKit
set_option linter.unusedVariables false
set_option linter.unusedSimpArgs false
namespace Go.Proofs.YtlppomkpmnpmcaaGreat

theorem within_any (x lo hi : Int) (w : World) : Calls Tryz.prog 63 #[.int .i64 x, .int .i64 lo, .int .i64 hi] w (Pure (.bool (inB x lo hi)) w) := by
  by_cases h1 : lo ≤ x
  · by_cases h2 : x ≤ hi
    · rw [inB_yes h1 h2]
      go_enter Tryz.func63, Tryz.ntmps63
      go_wp2
      go_ret
      exact ⟨rfl, rfl⟩
    · rw [inB_hi (show hi < x by omega)]
      go_enter Tryz.func63, Tryz.ntmps63
      go_wp2
      go_ret
      exact ⟨rfl, rfl⟩
  · rw [inB_lo (show x < lo by omega)]
    go_enter Tryz.func63, Tryz.ntmps63
    go_wp2
    go_ret
    exact ⟨rfl, rfl⟩

theorem rin_any (x lo hi : Int) (w : World) : Calls Tryz.prog 55 #[.int .i64 x, .int .i64 lo, .int .i64 hi] w (Pure (.bool (inB x lo hi)) w) := by
  by_cases h1 : lo ≤ x
  · by_cases h2 : x ≤ hi
    · rw [inB_yes h1 h2]
      go_enter Tryz.func55, Tryz.ntmps55
      go_wp2
      go_ret
      exact ⟨rfl, rfl⟩
    · rw [inB_hi (show hi < x by omega)]
      go_enter Tryz.func55, Tryz.ntmps55
      go_wp2
      go_ret
      exact ⟨rfl, rfl⟩
  · rw [inB_lo (show x < lo by omega)]
    go_enter Tryz.func55, Tryz.ntmps55
    go_wp2
    go_ret
    exact ⟨rfl, rfl⟩

set_option maxHeartbeats 1000000 in
theorem name_any (s : ByteArray) (w : World) : Calls Tryz.prog 39 #[.string s] w (Pure (.bool (nameB s)) w) := by
  by_cases h1 : 1 ≤ s.size ∧ s.size ≤ 24
  · obtain ⟨h1, h2⟩ := h1
    have hp : 0 < s.size := by omega
    obtain ⟨c, hc⟩ : ∃ c, c = (s[0]'hp).toNat := ⟨_, rfl⟩
    have hcb := byteN_eq hp
    rw [← hc] at hcb
    by_cases h3 : 97 ≤ c ∧ c ≤ 122
    · have h3a : 97 ≤ byteN s 0 := by rw [hcb]; exact h3.1
      have h3b : byteN s 0 ≤ 122 := by rw [hcb]; exact h3.2
      replace h3a := hide h3a
      replace h3b := hide h3b
      clear hcb
      subst hc
      obtain ⟨h3, h4⟩ := h3
      go_enter Tryz.func39, Tryz.ntmps39
      go_wp2
      go_loopg [25] s.size (fun g t wr => ∃ (i : Nat), g = s.size - i ∧ i ≤ s.size ∧ t = .int .i64 i ∧ w = wr ∧ ∀ j, j < i → nameC (byteN s j) = true)
      case atStart => exact ⟨0, rfl, Nat.zero_le _, rfl, rfl, fun j hj => absurd hj (Nat.not_lt_zero _)⟩
      case round =>
        obtain ⟨i, hg, hi, rfl, rfl, hall⟩ := hrel
        replace hg := hide hg
        replace hall := hide hall
        by_cases hlt : i < s.size
        · have hb := byteN_eq hlt
          obtain ⟨d, hd⟩ : ∃ d, d = (s[i]'hlt).toNat := ⟨_, rfl⟩
          rw [← hd] at hb
          replace hb := hide hb
          by_cases hc : nameC d = true
          · have hcc := hide hc
            unfold nameC at hc
            rw [decide_eq_true_iff] at hc
            have hnext : ∀ j, j < i + 1 → nameC (byteN s j) = true := by
              intro j hj
              rcases Nat.lt_succ_iff_lt_or_eq.1 hj with h | rfl
              · exact hall.out j h
              · rw [hb.out]; exact hcc.out
            replace hnext := hide hnext
            rcases (show ((97 : Int) ≤ d ∧ (d : Int) ≤ 122) ∨ ((48 : Int) ≤ d ∧ (d : Int) ≤ 57 ∧ (d : Int) < 97) ∨ (((d : Int) != 45) = false ∧ (d : Int) < 48 ∧ (d : Int) < 97) by
              rcases hc with h | h | h
              · exact .inl (by omega)
              · exact .inr (.inl (by omega))
              · exact .inr (.inr ⟨by subst h; rfl, by omega, by omega⟩)) with ⟨f1, f2⟩ | ⟨f1, f2, f3⟩ | ⟨f1, f2, f3⟩
            all_goals
              clear hc
              subst hd
              go_wp2
              all_goals
                go_roundg (s.size - (i + 1))
                case measure => have := hg.out; omega
                case rel => exact ⟨i + 1, rfl, by omega, by go_num, rfl, hnext.out⟩
          · have hf : nameB s = false := name_at hlt (by rw [hb.out]; simpa using hc)
            unfold nameC at hc
            rw [decide_eq_true_iff] at hc
            rw [hf]
            have f0 : ((d : Int) != 45) = true := by
              have : (d : Int) ≠ 45 := by omega
              simpa using this
            rcases (show ((d : Int) < 48 ∧ (d : Int) < 97) ∨ ((57 : Int) < d ∧ (48 : Int) ≤ d ∧ (d : Int) < 97) ∨ ((122 : Int) < d ∧ (57 : Int) < d ∧ (48 : Int) ≤ d ∧ (97 : Int) ≤ d) by omega) with ⟨f1, f2⟩ | ⟨f1, f2, f3⟩ | ⟨f1, f2, f3, f4⟩
            all_goals
              clear hc
              subst hd
              go_wp2
              all_goals
                first | (go_ret; exact ⟨rfl, rfl⟩) | (exfalso; rename_i k1 k2; (try simp at k1); (try simp at k2); omega)
        · have hie : i = s.size := by omega
          have hyes := hide (name_yes h1 h2 h3a.out h3b.out (fun j hj => hall.out j (by omega)))
          go_wp2
          go_ret
          rw [hyes.out]
          exact ⟨rfl, rfl⟩
    · rw [name_first (by rw [hcb]; exact h3)]
      clear hcb
      rcases (show c < 97 ∨ 122 < c by omega) with h | h
      all_goals
        subst hc
        go_enter Tryz.func39, Tryz.ntmps39
        go_wp2
        all_goals
          go_ret
          exact ⟨rfl, rfl⟩
  · rw [name_short h1]
    rcases (show s.size < 1 ∨ 24 < s.size by omega) with h | h
    all_goals
      clear h1
      go_enter Tryz.func39, Tryz.ntmps39
      go_wp2
      go_ret
      exact ⟨rfl, rfl⟩
set_option maxHeartbeats 1000000 in
theorem rname_any (s : ByteArray) (w : World) : Calls Tryz.prog 53 #[.string s] w (Pure (.bool (nameB s)) w) := by
  by_cases h1 : 1 ≤ s.size ∧ s.size ≤ 24
  · obtain ⟨h1, h2⟩ := h1
    have hp : 0 < s.size := by omega
    obtain ⟨c, hc⟩ : ∃ c, c = (s[0]'hp).toNat := ⟨_, rfl⟩
    have hcb := byteN_eq hp
    rw [← hc] at hcb
    by_cases h3 : 97 ≤ c ∧ c ≤ 122
    · have h3a : 97 ≤ byteN s 0 := by rw [hcb]; exact h3.1
      have h3b : byteN s 0 ≤ 122 := by rw [hcb]; exact h3.2
      replace h3a := hide h3a
      replace h3b := hide h3b
      clear hcb
      subst hc
      obtain ⟨h3, h4⟩ := h3
      go_enter Tryz.func53, Tryz.ntmps53
      go_wp2
      go_loopg [3] s.size (fun g t wr => ∃ (i : Nat), g = s.size - i ∧ i ≤ s.size ∧ t = .int .i64 i ∧ w = wr ∧ ∀ j, j < i → nameC (byteN s j) = true)
      case atStart => exact ⟨0, rfl, Nat.zero_le _, rfl, rfl, fun j hj => absurd hj (Nat.not_lt_zero _)⟩
      case round =>
        obtain ⟨i, hg, hi, rfl, rfl, hall⟩ := hrel
        replace hg := hide hg
        replace hall := hide hall
        by_cases hlt : i < s.size
        · have hb := byteN_eq hlt
          obtain ⟨d, hd⟩ : ∃ d, d = (s[i]'hlt).toNat := ⟨_, rfl⟩
          rw [← hd] at hb
          replace hb := hide hb
          by_cases hc : nameC d = true
          · have hcc := hide hc
            unfold nameC at hc
            rw [decide_eq_true_iff] at hc
            have hnext : ∀ j, j < i + 1 → nameC (byteN s j) = true := by
              intro j hj
              rcases Nat.lt_succ_iff_lt_or_eq.1 hj with h | rfl
              · exact hall.out j h
              · rw [hb.out]; exact hcc.out
            replace hnext := hide hnext
            rcases (show ((97 : Int) ≤ d ∧ (d : Int) ≤ 122) ∨ ((48 : Int) ≤ d ∧ (d : Int) ≤ 57 ∧ (d : Int) < 97) ∨ (((d : Int) != 45) = false ∧ (d : Int) < 48 ∧ (d : Int) < 97) by
              rcases hc with h | h | h
              · exact .inl (by omega)
              · exact .inr (.inl (by omega))
              · exact .inr (.inr ⟨by subst h; rfl, by omega, by omega⟩)) with ⟨f1, f2⟩ | ⟨f1, f2, f3⟩ | ⟨f1, f2, f3⟩
            all_goals
              clear hc
              subst hd
              go_wp2
              all_goals
                go_roundg (s.size - (i + 1))
                case measure => have := hg.out; omega
                case rel => exact ⟨i + 1, rfl, by omega, by go_num, rfl, hnext.out⟩
          · have hf : nameB s = false := name_at hlt (by rw [hb.out]; simpa using hc)
            unfold nameC at hc
            rw [decide_eq_true_iff] at hc
            rw [hf]
            have f0 : ((d : Int) != 45) = true := by
              have : (d : Int) ≠ 45 := by omega
              simpa using this
            rcases (show ((d : Int) < 48 ∧ (d : Int) < 97) ∨ ((57 : Int) < d ∧ (48 : Int) ≤ d ∧ (d : Int) < 97) ∨ ((122 : Int) < d ∧ (57 : Int) < d ∧ (48 : Int) ≤ d ∧ (97 : Int) ≤ d) by omega) with ⟨f1, f2⟩ | ⟨f1, f2, f3⟩ | ⟨f1, f2, f3, f4⟩
            all_goals
              clear hc
              subst hd
              go_wp2
              all_goals
                first | (go_ret; exact ⟨rfl, rfl⟩) | (exfalso; rename_i k1 k2; (try simp at k1); (try simp at k2); omega)
        · have hie : i = s.size := by omega
          have hyes := hide (name_yes h1 h2 h3a.out h3b.out (fun j hj => hall.out j (by omega)))
          go_wp2
          go_ret
          rw [hyes.out]
          exact ⟨rfl, rfl⟩
    · rw [name_first (by rw [hcb]; exact h3)]
      clear hcb
      rcases (show c < 97 ∨ 122 < c by omega) with h | h
      all_goals
        subst hc
        go_enter Tryz.func53, Tryz.ntmps53
        go_wp2
        all_goals
          go_ret
          exact ⟨rfl, rfl⟩
  · rw [name_short h1]
    rcases (show s.size < 1 ∨ 24 < s.size by omega) with h | h
    all_goals
      clear h1
      go_enter Tryz.func53, Tryz.ntmps53
      go_wp2
      go_ret
      exact ⟨rfl, rfl⟩
end Go.Proofs.YtlppomkpmnpmcaaGreat

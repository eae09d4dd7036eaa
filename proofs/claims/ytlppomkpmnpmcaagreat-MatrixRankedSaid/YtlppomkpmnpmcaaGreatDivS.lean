/- nat.divideSmall in place; nat.compare; nat.copied. -/
import Derived.Test.YtlppomkpmnpmcaaGreatTrim
import Derived.Test.YtlppomkpmnpmcaaGreatApp
import Derived.Test.YtlppomkpmnpmcaaGreatDivLaw
import Derived.Test.YtlppomkpmnpmcaaGreatBits
import Derived.Deep.QuietTactic
import Derived.BigQuiet
open Go.RowKit
set_option linter.unusedVariables false
set_option linter.unusedSimpArgs false
namespace Go.Proofs.YtlppomkpmnpmcaaGreat

set_option maxHeartbeats 1000000 in
set_option maxRecDepth 100000 in
theorem divideSmall (g cap base : Nat) (l : List Nat) (d : Nat) (w : World) (h : Own U32 w base 105 (.slice (some ⟨g, 0, none⟩) l.length cap) l) (hs : Small l) (hd : 0 < d) (hdB : d < 4294967296) (hl : l.length ≤ 1000) :
    Calls Tryz.prog 84 #[.slice (some ⟨g, 0, none⟩) l.length cap, .int .u32 d] w fun e w' => e = .returned (.int .u32 ((val l % d : Nat) : Int)) ∧
      (∃ q, Own U32 w' base 105 (.slice (some ⟨g, 0, none⟩) l.length cap) q ∧ q.length = l.length ∧ Small q ∧ val q = val l / d) ∧ w.grownBy w' (some g) := by
  obtain ⟨ao, cap', hv, hlc, hcm, hr⟩ := Rd.form h.rd
  injection hv with e1 e2 e3
  subst e1 e3
  have hcm' : cap ≤ 9223372036854775807 := by unfold maxLen at hcm; omega
  go_enter Tryz.func84, Tryz.ntmps84
  go_wp2
  go_loopw [5, 6] (fun r i wr => ∃ (k x : Nat) (L : List Nat), k ≤ l.length ∧ r = .int .u64 x ∧ i = .int .i64 ((k : Int) - 1) ∧ x < d ∧ Hid (L.length = l.length) ∧ Own U32 wr base 105 (.slice (some ⟨g, 0, none⟩) l.length cap) L ∧ Small L ∧
      Hid (L.take k = l.take k) ∧ Hid (val (l.drop k) = d * val (L.drop k) + x) ∧ w.grownBy wr (some g)) (fun _ i _ => (intOf i + 1).toNat)
  case atStart =>
    exact ⟨l.length, 0, l, Nat.le_refl _, rfl, rfl, hd, rfl, h, hs, rfl, by show _ = _; simp [val], Gb.refl _ _⟩
  case round =>
    obtain ⟨k, x, L, hk, rfl, rfl, hx, hLl, hown, hLs, hLt, hLv, hgb⟩ := hrel
    by_cases hk0 : k = 0
    · subst hk0
      have h1 := hLv.out
      simp only [List.drop_zero] at h1
      have h2 : val L = val l / d := by rw [h1, Nat.mul_add_div hd, Nat.div_eq_of_lt hx]; omega
      have h3 : val l % d = x := by rw [h1, Nat.mul_add_mod, Nat.mod_eq_of_lt hx]
      replace h3 := hide h3
      clear h1
      go_wp2
      go_ret
      rw [h3.out]
      exact ⟨rfl, ⟨L, hown, hLl.out, hLs, h2⟩, hgb⟩
    · have hLo := hLl.out
      have hk1 : k - 1 < L.length := by omega
      have e5 := hown.rd.at_ (k := k - 1) hk1
      obtain ⟨b', off', eb, hb', hcc⟩ := e5
      injection eb with eb
      injection eb with eb1 eb2
      subst eb1 eb2
      have c1 := hcc (k - 1) hk1
      simp only [Nat.zero_add] at c1
      have f1 : wr.frozen? ⟨g, k - 1, none⟩ = false := World.ownsRow.frozenAt (by have := hown; unfold Own at this; rw [hLo] at this; exact this) (k - 1)
      have hsm := small_get hLs hk1
      have hbits := or_shift (x := x) (y := L[k - 1]) (by omega) hsm
      obtain ⟨t, ht⟩ : ∃ t, t = x * 4294967296 + L[k - 1] := ⟨_, rfl⟩
      rw [← ht] at hbits
      have htb : t < 18446744073709551616 := by omega
      have hst := div_step (l := l) (L := L) (d := d) (i := k - 1) (r := x) (x := L[k - 1]) (t := t) (by omega) hLo (by rw [Nat.sub_add_cancel (by omega)]; exact hLt.out) hd hx (by rw [Nat.sub_add_cancel (by omega)]; exact hLv.out) rfl hsm ht
      obtain ⟨s1, s2, s3, s4⟩ := hst
      have hdb := div_bd s1
      obtain ⟨q0, q1⟩ := hdb
      replace s3 := hide s3
      replace s4 := hide s4
      replace ht := hide ht
      clear hcc hLo q0 q1
      go_wp2
      go_roundw
      case rel =>
        rw [← Int.natCast_ediv, ← Int.natCast_emod, u64_mod s1]
        refine ⟨k - 1, t % d, L.set (k - 1) (t / d), by omega, rfl, by go_num, s2, ?_, ?_, small_set hLs _ s1, s3, s4, Gb.set hgb (.inl rfl) _⟩
        · show _ = _; rw [List.length_set]; exact hLl.out
        · have := World.ownsRow.stored (by have := hown; unfold Own at this; rw [hLl.out] at this; exact this) (k - 1) (.int .u32 ((t / d : Nat) : Int))
          unfold Own
          rw [List.length_set, hLl.out, List.map_set]
          exact this.1
      case measure => simp [intOf]; omega
end Go.Proofs.YtlppomkpmnpmcaaGreat

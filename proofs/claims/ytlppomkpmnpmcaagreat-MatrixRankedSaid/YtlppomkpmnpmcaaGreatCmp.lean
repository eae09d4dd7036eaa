/- nat.compare; nat.copied. -/
import Derived.Test.YtlppomkpmnpmcaaGreatTrim
import Derived.Test.YtlppomkpmnpmcaaGreatApp
import Derived.Test.YtlppomkpmnpmcaaGreatDivLaw
import Derived.Test.YtlppomkpmnpmcaaGreatMake
import Derived.Deep.QuietTactic
import Derived.BigQuiet
open Go.RowKit
set_option linter.unusedVariables false
set_option linter.unusedSimpArgs false
namespace Go.Proofs.YtlppomkpmnpmcaaGreat

def Drawn (r : Value) (w : World) (e : Ending) (w' : World) : Prop := e = .returned r ∧ ∃ n, w' = w.drewN n

set_option maxHeartbeats 1000000 in
set_option maxRecDepth 100000 in
theorem compare_lists (va vb : Value) (la lb : List Nat) (m n : Nat) (w : World) (hA : Hid (la = limbs m)) (hB : Hid (lb = limbs n)) (ha : Rd U32 w va la) (hb : Rd U32 w vb lb) :
    Calls Tryz.prog 82 #[va, vb] w (Drawn (.int .i64 (cmpN m n)) w) := by
  obtain ⟨aa, ca, rfl, hla, hca, hra⟩ := Rd.form ha
  obtain ⟨ab, cb, rfl, hlb, hcb, hrb⟩ := Rd.form hb
  have hca' : ca ≤ 9223372036854775807 := by unfold maxLen at hca; omega
  have hcb' : cb ≤ 9223372036854775807 := by unfold maxLen at hcb; omega
  have hsa : Small la := by rw [hA.out]; exact small_limbs m
  have hsb : Small lb := by rw [hB.out]; exact small_limbs n
  by_cases hlt : la.length < lb.length
  · have hc : cmpN m n = -1 := by unfold cmpN; rw [if_pos (lt_of_length (by rw [← hA.out, ← hB.out]; exact hlt))]
    rw [hc]
    clear hc
    go_enter Tryz.func82, Tryz.ntmps82
    go_wp2
    go_ret
    exact ⟨rfl, 0, rfl⟩
  by_cases hgt : lb.length < la.length
  · have hc : cmpN m n = 1 := by
      have := lt_of_length (m := n) (n := m) (by rw [← hA.out, ← hB.out]; exact hgt)
      unfold cmpN; rw [if_neg (by omega), if_pos this]
    rw [hc]
    clear hc
    go_enter Tryz.func82, Tryz.ntmps82
    go_wp2
    go_ret
    exact ⟨rfl, 0, rfl⟩
  have hlen : la.length = lb.length := by omega
  have hle := hide hlen
  have hva : val la = m := by rw [hA.out, val_limbs]
  have hvb : val lb = n := by rw [hB.out, val_limbs]
  replace hva := hide hva
  replace hvb := hide hvb
  have l1 : la.length ≤ lb.length := by omega
  have l2 : lb.length ≤ la.length := by omega
  have l3 : ((la.length : Int) != lb.length) = false := by simp; omega
  clear hlt hgt hlen
  go_enter Tryz.func82, Tryz.ntmps82
  go_wp2
  go_loopw [5] (fun i wr => ∃ (k d : Nat), k ≤ la.length ∧ i = .int .i64 ((k : Int) - 1) ∧ wr = w.drewN d ∧ Hid (la.drop k = lb.drop k)) (fun i _ => (intOf i + 1).toNat)
  case atStart =>
    refine ⟨la.length, 0, Nat.le_refl _, rfl, rfl, ?_⟩
    show _ = _
    rw [List.drop_length, List.drop_of_length_le (by omega)]
  case round =>
    obtain ⟨k, d, hk, rfl, rfl, hdr⟩ := hrel
    by_cases hk0 : k = 0
    · subst hk0
      have h1 := hdr.out
      simp only [List.drop_zero] at h1
      have hc : cmpN m n = 0 := by
        have : m = n := by rw [← hva.out, ← hvb.out, h1]
        unfold cmpN; rw [if_neg (by omega), if_neg (by omega)]
      replace hc := hide hc
      clear h1
      go_wp2
      go_ret
      exact ⟨by rw [hc.out]; rfl, d, rfl⟩
    · have hk1 : k - 1 < la.length := by omega
      have hk2 : k - 1 < lb.length := by omega
      obtain ⟨ba, offa, rfl, hba, hcella⟩ := hra.at_ hk1
      obtain ⟨bb, offb, rfl, hbb, hcellb⟩ := hrb.at_ hk2
      have c1 := hcella _ hk1
      have c2 := hcellb _ hk2
      clear hcella hcellb
      have i1 : (0 : Int) ≤ (k : Int) - 1 := by omega
      have i2 : (k : Int) - 1 < (la.length : Int) := by omega
      have i3 : (k : Int) - 1 < (lb.length : Int) := by omega
      rcases Nat.lt_trichotomy la[k - 1] lb[k - 1] with h | h | h
      · have hc : cmpN m n = -1 := by
          have := cmp_lt hle.out hsa hk1 (by rw [Nat.sub_add_cancel (by omega)]; exact hdr.out) h
          rw [hva.out, hvb.out] at this
          unfold cmpN; rw [if_pos this]
        replace hc := hide hc
        have t1 : ((la[k - 1] : Nat) : Int) < ((lb[k - 1] : Nat) : Int) := by omega
        go_wp2
        go_quiet (fail)
        go_wp2
        go_ret
        exact ⟨by rw [hc.out]; rfl, _, World.drewN_drewN _ _ _⟩
      · have t1 : ¬ ((la[k - 1] : Nat) : Int) < ((lb[k - 1] : Nat) : Int) := by omega
        have t2 : ¬ ((lb[k - 1] : Nat) : Int) < ((la[k - 1] : Nat) : Int) := by omega
        replace h := hide h
        go_wp2
        go_quiet (fail)
        go_wp2
        go_quiet (fail)
        go_wp2
        go_roundw
        case rel =>
          refine ⟨k - 1, _, by omega, by go_num, rfl, ?_⟩
          show _ = _
          rw [drop_cons la (k - 1) hk1, drop_cons lb (k - 1) hk2, h.out, Nat.sub_add_cancel (by omega), hdr.out]
        case measure => simp [intOf]; omega
      · have hc : cmpN m n = 1 := by
          have := cmp_lt hle.out.symm hsb hk2 (by rw [Nat.sub_add_cancel (by omega)]; exact hdr.out.symm) h
          rw [hva.out, hvb.out] at this
          unfold cmpN; rw [if_neg (by omega), if_pos this]
        replace hc := hide hc
        have t1 : ¬ ((la[k - 1] : Nat) : Int) < ((lb[k - 1] : Nat) : Int) := by omega
        have t2 : ((lb[k - 1] : Nat) : Int) < ((la[k - 1] : Nat) : Int) := by omega
        go_wp2
        go_quiet (fail)
        go_wp2
        go_quiet (fail)
        go_wp2
        go_ret
        exact ⟨by rw [hc.out]; rfl, _, by rw [World.drewN_drewN, World.drewN_drewN]⟩

theorem infoU32' : (Tryz.prog.info? 105).map (fun i => (i.zero, i.size, i.bytes)) = some (some (.int .u32 0), 1, 4) := by kernel_rfl

theorem copied (v : Value) (n : Nat) (w : World) (h : NV w v n) (hn : (limbs n).length ≤ 64) :
    Calls Tryz.prog 83 #[.agg #[v]] w (SomeNat n w) := by
  obtain ⟨aa, ca, rfl, hla, hca, hra⟩ := Rd.form h
  go_enter Tryz.func83, Tryz.ntmps83
  go_wp2_with (with_reducible refine wpList_append_rd _ rfl _ _ 58 rfl (V := U32) (fun _ => rfl) w.heap.size 105 (.int .u32 0) 4 Tryz.underlying58 infoU32' rfl (.slice none 0 0) [] rfl (Own.nil _ _ _) _ (limbs n) rfl ?_ ?_ ?_ ?_ ?_)
  case refine_1 => exact (hra.alloc _).alloc _
  case refine_2 => simp; omega
  case refine_3 => simp; omega
  case refine_4 => simp; omega
  intro v1 w1 hown1 hg1 hv1
  have hb1 : Below w.heap.size w w1 := (Bel.al (Bel.al (Below.refl _ _) _) _).grown hg1 (by simp; omega) (by simp [Value.ownBlock])
  have hbb : Below ((w.alloc (Obj.cells #[Value.slice aa (limbs n).length ca] 60)).alloc (Obj.cells #[Value.slice none 0 0] 60)).heap.size ((w.alloc (Obj.cells #[Value.slice aa (limbs n).length ca] 60)).alloc (Obj.cells #[Value.slice none 0 0] 60)) w1 := (Below.refl _ _).grown hg1 (Nat.le_refl _) (by simp [Value.ownBlock])
  have c1 : w1.cell? ⟨w.heap.size + 1, 0, none⟩ = some (.slice none 0 0) := Bel.cellOf hbb (by go_simp)
  have f1 : w1.frozen? ⟨w.heap.size + 1, 0, none⟩ = false := Bel.frozenOf hbb (v := .slice none 0 0) (by go_simp) (by go_simp)
  clear hbb
  go_wp2_with fail
  refine (trimmed _ (limbs n) _ (by exact hown1.rd) (small_limbs n)).mono ?_
  rintro e w2 ⟨u, rfl, hu, hb2⟩
  rw [val_limbs] at hu
  have c2 := Bel.cellOf hb2 c1
  have f2 := Bel.frozenOf hb2 c1 f1
  have hu' := hu.setNe c2 (fun _ h => by cases h) u
  have hbel := Bel.st (Bel.to hb1 hb2) (p := ⟨w.heap.size + 1, 0, none⟩) (by simp only []; omega) u
  obtain ⟨ao, n0, cp, rfl⟩ := Rd.shape hu
  go_wp2
  refine bodyPost_ret (v := .agg #[.slice ao n0 cp]) (by simp [results, Tryz.results83, go_sem, c2]) rfl ⟨_, rfl, hu', hbel⟩
end Go.Proofs.YtlppomkpmnpmcaaGreat

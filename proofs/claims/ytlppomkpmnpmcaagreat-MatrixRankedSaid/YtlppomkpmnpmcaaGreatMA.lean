/- Lemmas, merged out of smaller texts. No condition. -/
import Derived.Test.YtlppomkpmnpmcaaGreatApp
import Derived.Test.YtlppomkpmnpmcaaGreatSl
import Derived.Test.YtlppomkpmnpmcaaGreatLine
import Derived.Test.YtlppomkpmnpmcaaGreatLineSmall
import Derived.Test.YtlppomkpmnpmcaaGreatUnrank
import Derived.Deep.RegionHeld3
import Derived.Deep.DrawnRows
import Derived.Test.YtlppomkpmnpmcaaGreatCombLaw
import Derived.Test.YtlppomkpmnpmcaaGreatCopy

section
/- s[k:] and s[:k] of a slice that reads as a list; elements of one cell. -/
open Go.RowKit
set_option linter.unusedVariables false
set_option linter.unusedSimpArgs false
namespace Go.Proofs.YtlppomkpmnpmcaaGreat

theorem Rd.len_eq {α : Type} {V : α → Value} {w : World} {ao : Option Addr} {n cap : Nat} {l : List α} (h : Rd V w (.slice ao n cap) l) : n = l.length := by
  obtain ⟨ao', cap', e, -⟩ := h
  injection e

theorem Rd.drop {α : Type} {V : α → Value} {w : World} {ao : Option Addr} {cap k : Nat} {l : List α} (h : Rd V w (.slice ao l.length cap) l) (hk : k ≤ l.length) :
    Rd V w (sliced ao k l.length cap 1) (l.drop k) := by
  obtain ⟨ao', cap', e, h1, h2, h3⟩ := h
  injection e with e1 _ e3
  subst e1 e3
  have hl : (l.drop k).length = l.length - k := List.length_drop
  unfold sliced
  refine ⟨_, cap - k, by rw [hl], by omega, by omega, fun hp => ?_⟩
  obtain ⟨b, off, rfl, hb, hc⟩ := h3 (by omega)
  refine ⟨b, off + k, ?_, hb, fun i x hx => ?_⟩
  · rw [if_neg (by omega)]
    simp only [Option.map_some, Nat.mul_one, Addr.add]
    split
    · next h0 => subst h0; rfl
    · rfl
  · rw [List.getElem?_drop] at hx
    have := hc (k + i) x hx
    rw [show off + k + i = off + (k + i) by omega]; exact this

theorem wpList_slice_from {P : Program} {w : World} {ops : Array Oper} {rest : List Oper} {o : Oper} {a : Act} {Q : Exit → Act → World → Prop} {α : Type} {V : α → Value}
    (hg : o.guard = none) (x lo : Operand) (t : TypeId) (hop : o.op = .slice t x (some lo) none none) (ht : P.underlying t = some (.slice (P.elem t))) (hs : ∀ w, (sizeOf (P.elem t)).run P w = .ok 1 w)
    (ao : Option Addr) (n cap : Nat) (l : List α) (hx : a.eval x = .slice ao n cap) (hn : n = l.length) (hr : Rd V w (.slice ao n cap) l) (kl : IntKind) (k : Nat) (hk : a.eval lo = .int kl k) (hkl : k ≤ l.length)
    (h : ∀ v', Rd V w v' (l.drop k) → wpList P ops Q rest (a.put o.dst v') w) : wpList P ops Q (o :: rest) a w := by
  refine wpList_plain hg fun K hK => ?_
  subst hn
  have hrun := run_slice_l (P := P) (w := w) t ao l.length cap ht kl k (by omega) (by omega)
  have hrun' := (run_sliceAt_slice (P := P) (w := w) t (.slice ao l.length cap) (some (.int kl k)) none none ht).trans hrun
  have := hr.drop hkl
  unfold Oper.wp
  simp [execOp, hop, hx, hk, hrun', hs, Result.andThen]
  exact hK _ _ (h _ this)

theorem wpList_slice_to {P : Program} {w : World} {ops : Array Oper} {rest : List Oper} {o : Oper} {a : Act} {Q : Exit → Act → World → Prop} {α : Type} {V : α → Value}
    (hg : o.guard = none) (x hi : Operand) (t : TypeId) (hop : o.op = .slice t x none (some hi) none) (ht : P.underlying t = some (.slice (P.elem t))) (hs : ∀ w, (sizeOf (P.elem t)).run P w = .ok 1 w)
    (ao : Option Addr) (n cap : Nat) (l : List α) (hx : a.eval x = .slice ao n cap) (hn : n = l.length) (hr : Rd V w (.slice ao n cap) l) (kl : IntKind) (k : Nat) (hk : a.eval hi = .int kl k) (hkl : k ≤ l.length)
    (h : ∀ v', Rd V w v' (l.take k) → wpList P ops Q rest (a.put o.dst v') w) : wpList P ops Q (o :: rest) a w := by
  refine wpList_plain hg fun K hK => ?_
  subst hn
  obtain ⟨ao', cap', e, h1, h2, -⟩ := id hr
  injection e with _ _ e3
  subst e3
  have hrun := run_slice_h (P := P) (w := w) t ao l.length cap ht kl k (by omega) (by omega)
  have hrun' := (run_sliceAt_slice (P := P) (w := w) t (.slice ao l.length cap) none (some (.int kl k)) none ht).trans hrun
  have hv : Rd V w (sliced ao 0 k cap 1) (l.take k) := by
    have e : sliced ao 0 k cap 1 = .slice ao k cap := by
      unfold sliced
      have : (ao.map fun x => x.add (0 * 1)) = ao := by cases ao <;> simp [Addr.add]
      split
      · simp
      · rw [this]; simp
    rw [e]
    exact hr.take rfl hkl (by omega) h2
  unfold Oper.wp
  simp [execOp, hop, hx, hk, hrun', hs, Result.andThen]
  exact hK _ _ (h _ hv)
end Go.Proofs.YtlppomkpmnpmcaaGreat
end

section
/- lotteryref13.Sorted, matrix.Canon's sorted: a list in ascending order. Condition: the list has at most 1000 elements. -/
open Go.RowKit
set_option linter.unusedVariables false
set_option linter.unusedSimpArgs false
namespace Go.Proofs.YtlppomkpmnpmcaaGreat

/-- A list is handed back. -/
def ListP (l : List Int) (w : World) (e : Ending) (w' : World) : Prop := ∃ v, e = .returned v ∧ Rd I64 w' v l ∧ Below w.heap.size w w'

theorem elemInts : Tryz.prog.underlying 26 = some (.slice (Tryz.prog.elem 26)) := by kernel_rfl
theorem sizeEI : ∀ w, (sizeOf (Tryz.prog.elem 26)).run Tryz.prog w = .ok 1 w := fun w => by kernel_rfl

theorem ins_sorted {S : List Int} {k : Nat} {x : Int} (hs : S.Pairwise (· ≤ ·)) (hk : k ≤ S.length) (h1 : ∀ (j : Nat) (hj : j < S.length), j < k → S[j] ≤ x) (h2 : ∀ (j : Nat) (hj : j < S.length), k ≤ j → x < S[j]) :
    (S.take k ++ [x] ++ S.drop k).Pairwise (· ≤ ·) := by
  rw [List.append_assoc, List.pairwise_append]
  refine ⟨hs.sublist (List.take_sublist _ _), ?_, ?_⟩
  · rw [List.singleton_append, List.pairwise_cons]
    refine ⟨fun y hy => ?_, hs.sublist (List.drop_sublist _ _)⟩
    obtain ⟨j, hj, rfl⟩ := List.getElem_of_mem hy
    rw [List.length_drop] at hj
    rw [List.getElem_drop]
    have := h2 (k + j) (by omega) (by omega)
    omega
  · intro y hy z hz
    obtain ⟨j, hj, rfl⟩ := List.getElem_of_mem hy
    rw [List.length_take] at hj
    rw [List.getElem_take]
    have hy1 := h1 j (by omega) (by omega)
    rw [List.singleton_append, List.mem_cons] at hz
    rcases hz with rfl | hz
    · exact hy1
    · obtain ⟨i, hi, rfl⟩ := List.getElem_of_mem hz
      rw [List.length_drop] at hi
      rw [List.getElem_drop]
      have := h2 (k + i) (by omega) (by omega)
      omega

theorem ins_perm {S : List Int} {k : Nat} {x : Int} : (S.take k ++ [x] ++ S.drop k).Perm (S ++ [x]) := by
  have h : (S.take k ++ ([x] ++ S.drop k)).Perm (S.take k ++ (S.drop k ++ [x])) := List.Perm.append_left _ List.perm_append_comm
  rw [← List.append_assoc, ← List.append_assoc, List.take_append_drop] at h
  exact h

theorem sorted_below {S : List Int} {j : Nat} {x : Int} (hs : S.Pairwise (· ≤ ·)) (hj : j < S.length) (h : S[j] ≤ x) : ∀ (i : Nat) (hi : i < S.length), i < j + 1 → S[i] ≤ x := by
  intro i hi hij
  rcases Nat.lt_succ_iff_lt_or_eq.1 hij with h1 | rfl
  · have := List.pairwise_iff_getElem.1 hs i j hi hj h1
    omega
  · exact h

set_option maxHeartbeats 4000000 in
set_option maxRecDepth 100000 in
theorem sorted13_any (v : Value) (l : List Int) (w : World) (h : Rd I64 w v l) (hl : l.length ≤ 1000) :
    Calls Tryz.prog 36 #[v] w (ListP (sortI l) w) := by
  obtain ⟨ao, cap, rfl, hle, hmax, hrd⟩ := Rd.form h
  have hmax2 : cap ≤ 9223372036854775807 := by unfold maxLen at hmax; omega
  clear h
  go_enter Tryz.func36, Tryz.ntmps36
  go_wp2
  go_loopg [3, 4] l.length (fun gh ov t wr => ∃ (i : Nat) (S : List Int) (so : Option Addr) (sc : Nat), gh = l.length - i ∧ i ≤ l.length ∧ ov = .slice so S.length sc ∧ t = .int .i64 i ∧ Rd I64 wr (.slice so S.length sc) S ∧ Below w.heap.size w wr ∧ S.Pairwise (· ≤ ·) ∧ S.Perm (l.take i))
  case atStart => exact ⟨0, [], none, 0, rfl, Nat.zero_le _, rfl, rfl, Rd.nil, Below.refl _ _, List.Pairwise.nil, by simp⟩
  case round =>
    obtain ⟨i, S, so, sc, hg, hi', rfl, rfl, hS, hbel, hsort, hperm⟩ := hrel
    replace hg := hide hg
    replace hsort := hide hsort
    replace hperm := hide hperm
    have hSl : S.length ≤ i := by have := hperm.out.length_eq; rw [List.length_take] at this; omega
    obtain ⟨so', sc', e, hsc1, hsc2, hS'⟩ := Rd.form hS
    injection e with e1 _ e3
    subst e1 e3
    have hsc3 : sc ≤ 9223372036854775807 := by unfold maxLen at hsc2; omega
    clear hS
    by_cases hlt : i < l.length
    · have hlt2 := hide hlt
      obtain ⟨b, off, rfl, hbb, hcell⟩ := hrd.at_ hlt
      have i1 : (0 : Int) ≤ (i : Int) := by omega
      have i2 : (i : Int) < (l.length : Int) := by omega
      obtain ⟨x, hx, c0⟩ : ∃ x, x = l[i] ∧ w.cell? ⟨b, off + i, none⟩ = some (.int .i64 x) := ⟨_, rfl, hcell _ hlt⟩
      have c1 := Bel.cellOf hbel c0
      clear hcell c0
      replace hx := hide hx
      go_wp2
      obtain ⟨wo, hwo⟩ : ∃ wo, wo = wr := ⟨_, rfl⟩
      rw [← hwo] at c1 hS' hbel ⊢
      clear hwo
      go_loopg [5] (S.length + 1) (fun gh t wr => ∃ (k e : Nat), gh = k + 1 ∧ k ≤ S.length ∧ t = .int .i64 k ∧ wr = wo.drewN e ∧ ∀ (j : Nat) (hj : j < S.length), k ≤ j → x < S[j])
      case atStart => exact ⟨S.length, 0, rfl, Nat.le_refl _, rfl, rfl, fun j hj hk => by omega⟩
      case round =>
        obtain ⟨k, e, hg2, hk', rfl, rfl, hbig⟩ := hrel
        replace hg2 := hide hg2
        replace hbig := hide hbig
        have hcase : (∃ a : Nat, k = a ∧ (∀ (j : Nat) (hj : j < S.length), j < a → S[j] ≤ x) ∧ a = 0) ∨ (∃ (j : Nat) (h : j < S.length), k = j + 1 ∧ (∀ (i : Nat) (hj : i < S.length), i < j + 1 → S[i] ≤ x) ∧ S[j] ≤ x) ∨ ∃ (j : Nat) (h : j < S.length), k = j + 1 ∧ x < S[j] := by
          rcases Nat.eq_zero_or_pos k with h | h
          · exact .inl ⟨k, rfl, fun j hj hjk => by omega, h⟩
          · by_cases hc : S[k - 1]'(by omega) ≤ x
            · exact .inr (.inl ⟨k - 1, by omega, by omega, sorted_below hsort.out (by omega) hc, hc⟩)
            · exact .inr (.inr ⟨k - 1, by omega, by omega, by omega⟩)
        rcases hcase with ⟨a, rfl, hlow, ha⟩ | ⟨j, hj, rfl, hlow, hle2⟩ | ⟨j, hj, rfl, hgt⟩
        · subst ha
          have hins := hide (ins_sorted hsort.out hk' hlow hbig.out)
          clear hlow
          go_wp2
          go_quiet (fail)
          go_wp2_with (with_reducible refine wpList_slice_to (V := I64) rfl _ _ 26 rfl elemInts sizeEI so S.length sc S ?_ rfl ?_ .i64 (0) ?_ ?_ ?_)
          case refine_1 => rfl
          case refine_2 => exact Rd.alloc (Rd.drewN hS' _) _
          case refine_3 => rfl
          case refine_4 => omega
          intro v1 hv1
          obtain ⟨a1, n1, k1, rfl⟩ := Rd.shape hv1
          have bw1 : ∀ n o, Below wo.heap.size wo ((wo.drewN n).alloc o) := fun n o => Bel.al (Bel.drN (Below.refl _ _) _) _
          go_wp2_with (with_reducible refine wpList_append_rd _ rfl _ _ 26 rfl (V := I64) (fun _ => rfl) wo.heap.size 3 (.int .i64 0) 8 Tryz.underlying26 infoInt rfl _ [] rfl ?_ _ (S.take (0)) rfl ?_ ?_ ?_ ?_ ?_)
          case refine_1 => exact Own.ofRow (m := 0) (z := .int .i64 0) (Row.new _ _ _) (Nat.le_refl _) (by omega)
          case refine_2 => exact hv1
          case refine_3 => first | (simp; done) | (simp; omega)
          case refine_4 => first | (simp; done) | (simp; omega)
          case refine_5 => simp
          intro v2 w2 hown2 hg2w hv2
          have bw2 := (bw1 _ _).grown hg2w (by simp) (fun g hg => by simp [Value.ownBlock] at hg; omega)
          have hS2 := hS'.below bw2
          have c12 := Bel.cellOf bw2 c1
          obtain ⟨ao2, n2, cap2, rfl⟩ := Rd.shape hown2.rd
          clear hv1 hg2w hv2 bw1
          go_wp2_with (with_reducible refine wpList_append_rd _ rfl _ _ 26 rfl (V := I64) (fun _ => rfl) wo.heap.size 3 (.int .i64 0) 8 Tryz.underlying26 infoInt rfl _ ([] ++ S.take (0)) rfl ?_ _ [x] rfl ?_ ?_ ?_ ?_ ?_)
          case refine_1 => exact Own.alloc hown2 _
          case refine_2 => exact Rd.new _ rfl rfl (Nat.le_refl _) (by decide) rfl
          case refine_3 => first | (simp; done) | (simp; omega)
          case refine_4 => first | (simp; done) | (simp; omega)
          case refine_5 => have := bw2.size; simp; omega
          intro v3 w3 hown3 hg3w hv3
          have bw3 := (Bel.al bw2 _).grown hg3w (Bel.al bw2 _).size (fun g hg => (hown2.lt g hg).1)
          have hS3 := hS'.below bw3
          obtain ⟨ao3, n3, cap3, rfl⟩ := Rd.shape hown3.rd
          clear hg3w hv3
          go_wp2_with (with_reducible refine wpList_slice_from (V := I64) rfl _ _ 26 rfl elemInts sizeEI so S.length sc S ?_ rfl ?_ .i64 (0) ?_ ?_ ?_)
          case refine_1 => rfl
          case refine_2 => exact hS3
          case refine_3 => rfl
          case refine_4 => omega
          intro v4 hv4
          obtain ⟨a4, n4, k4, rfl⟩ := Rd.shape hv4
          go_wp2_with (with_reducible refine wpList_append_rd _ rfl _ _ 26 rfl (V := I64) (fun _ => rfl) wo.heap.size 3 (.int .i64 0) 8 Tryz.underlying26 infoInt rfl _ ([] ++ S.take (0) ++ [x]) rfl ?_ _ (S.drop (0)) rfl ?_ ?_ ?_ ?_ ?_)
          case refine_1 => exact hown3
          case refine_2 => exact hv4
          case refine_3 => first | (simp; done) | (simp; omega)
          case refine_4 => first | (simp; done) | (simp; omega)
          case refine_5 => exact bw3.size
          intro v5 w5 hown5 hg5w hv5
          have bw5 := bw3.grown hg5w bw3.size (fun g hg => (hown3.lt g hg).1)
          obtain ⟨ao5, n5, cap5, rfl⟩ := Rd.shape hown5.rd
          clear hg5w hv5 hv4
          obtain ⟨T, hT⟩ : ∃ T, T = S.take (0) ++ [x] ++ S.drop (0) := ⟨_, rfl⟩
          have hrd5 : Rd I64 w5 (.slice ao5 n5 cap5) T := by have := hown5.rd; rw [hT]; simpa using this
          have hT1 : T.Pairwise (· ≤ ·) := by rw [hT]; exact hins.out
          have hT2 : T.Perm (l.take (i + 1)) := by
            rw [hT, take_snoc l i hlt2.out]
            have hp2 : (S ++ [x]).Perm (l.take i ++ [l[i]]) := by have := List.Perm.append_right [x] hperm.out; rw [hx.out] at this; rw [hx.out]; exact this
            exact ins_perm.trans hp2
          have hn5 := Rd.len_eq hrd5
          subst hn5
          clear hown5 hown2 hown3 hT
          replace hT1 := hide hT1
          replace hT2 := hide hT2
          go_wp2
          go_roundg (l.length - (i + 1))
          case measure => have := hg.out; have := hlt2.out; omega
          case rel => exact ⟨i + 1, T, ao5, cap5, rfl, by have := hlt2.out; omega, rfl, by go_num, hrd5, Bel.to hbel bw5, hT1.out, hT2.out⟩
        · have hins := hide (ins_sorted hsort.out hk' hlow hbig.out)
          clear hlow
          obtain ⟨b2, off2, rfl, hbb2, hcell2⟩ := hS'.at_ hj
          obtain ⟨y, hy, c2⟩ : ∃ y, y = S[j] ∧ wo.cell? ⟨b2, off2 + j, none⟩ = some (.int .i64 y) := ⟨_, rfl, hcell2 _ hj⟩
          rw [← hy] at hle2
          replace hy := hide hy
          clear hcell2
          have j1 : (0 : Int) ≤ (j : Int) := by omega
          have j2 : (j : Int) < (S.length : Int) := by omega
          have hgd : decide (x < y) = false := decide_eq_false (by omega)
          go_wp2
          go_quiet (fail)
          go_wp2_with (with_reducible refine wpList_slice_to (V := I64) rfl _ _ 26 rfl elemInts sizeEI (some ⟨b2, off2, none⟩) S.length sc S ?_ rfl ?_ .i64 (j + 1) ?_ ?_ ?_)
          case refine_1 => rfl
          case refine_2 => exact Rd.alloc (Rd.drewN hS' _) _
          case refine_3 => rfl
          case refine_4 => omega
          intro v1 hv1
          obtain ⟨a1, n1, k1, rfl⟩ := Rd.shape hv1
          have bw1 : ∀ n o, Below wo.heap.size wo ((wo.drewN n).alloc o) := fun n o => Bel.al (Bel.drN (Below.refl _ _) _) _
          go_wp2_with (with_reducible refine wpList_append_rd _ rfl _ _ 26 rfl (V := I64) (fun _ => rfl) wo.heap.size 3 (.int .i64 0) 8 Tryz.underlying26 infoInt rfl _ [] rfl ?_ _ (S.take (j + 1)) rfl ?_ ?_ ?_ ?_ ?_)
          case refine_1 => exact Own.ofRow (m := 0) (z := .int .i64 0) (Row.new _ _ _) (Nat.le_refl _) (by omega)
          case refine_2 => exact hv1
          case refine_3 => first | (simp; done) | (simp; omega)
          case refine_4 => first | (simp; done) | (simp; omega)
          case refine_5 => simp
          intro v2 w2 hown2 hg2w hv2
          have bw2 := (bw1 _ _).grown hg2w (by simp) (fun g hg => by simp [Value.ownBlock] at hg; omega)
          have hS2 := hS'.below bw2
          have c12 := Bel.cellOf bw2 c1
          obtain ⟨ao2, n2, cap2, rfl⟩ := Rd.shape hown2.rd
          clear hv1 hg2w hv2 bw1
          go_wp2_with (with_reducible refine wpList_append_rd _ rfl _ _ 26 rfl (V := I64) (fun _ => rfl) wo.heap.size 3 (.int .i64 0) 8 Tryz.underlying26 infoInt rfl _ ([] ++ S.take (j + 1)) rfl ?_ _ [x] rfl ?_ ?_ ?_ ?_ ?_)
          case refine_1 => exact Own.alloc hown2 _
          case refine_2 => exact Rd.new _ rfl rfl (Nat.le_refl _) (by decide) rfl
          case refine_3 => first | (simp; done) | (simp; omega)
          case refine_4 => first | (simp; done) | (simp; omega)
          case refine_5 => have := bw2.size; simp; omega
          intro v3 w3 hown3 hg3w hv3
          have bw3 := (Bel.al bw2 _).grown hg3w (Bel.al bw2 _).size (fun g hg => (hown2.lt g hg).1)
          have hS3 := hS'.below bw3
          obtain ⟨ao3, n3, cap3, rfl⟩ := Rd.shape hown3.rd
          clear hg3w hv3
          go_wp2_with (with_reducible refine wpList_slice_from (V := I64) rfl _ _ 26 rfl elemInts sizeEI (some ⟨b2, off2, none⟩) S.length sc S ?_ rfl ?_ .i64 (j + 1) ?_ ?_ ?_)
          case refine_1 => rfl
          case refine_2 => exact hS3
          case refine_3 => rfl
          case refine_4 => omega
          intro v4 hv4
          obtain ⟨a4, n4, k4, rfl⟩ := Rd.shape hv4
          go_wp2_with (with_reducible refine wpList_append_rd _ rfl _ _ 26 rfl (V := I64) (fun _ => rfl) wo.heap.size 3 (.int .i64 0) 8 Tryz.underlying26 infoInt rfl _ ([] ++ S.take (j + 1) ++ [x]) rfl ?_ _ (S.drop (j + 1)) rfl ?_ ?_ ?_ ?_ ?_)
          case refine_1 => exact hown3
          case refine_2 => exact hv4
          case refine_3 => first | (simp; done) | (simp; omega)
          case refine_4 => first | (simp; done) | (simp; omega)
          case refine_5 => exact bw3.size
          intro v5 w5 hown5 hg5w hv5
          have bw5 := bw3.grown hg5w bw3.size (fun g hg => (hown3.lt g hg).1)
          obtain ⟨ao5, n5, cap5, rfl⟩ := Rd.shape hown5.rd
          clear hg5w hv5 hv4
          obtain ⟨T, hT⟩ : ∃ T, T = S.take (j + 1) ++ [x] ++ S.drop (j + 1) := ⟨_, rfl⟩
          have hrd5 : Rd I64 w5 (.slice ao5 n5 cap5) T := by have := hown5.rd; rw [hT]; simpa using this
          have hT1 : T.Pairwise (· ≤ ·) := by rw [hT]; exact hins.out
          have hT2 : T.Perm (l.take (i + 1)) := by
            rw [hT, take_snoc l i hlt2.out]
            have hp2 : (S ++ [x]).Perm (l.take i ++ [l[i]]) := by have := List.Perm.append_right [x] hperm.out; rw [hx.out] at this; rw [hx.out]; exact this
            exact ins_perm.trans hp2
          have hn5 := Rd.len_eq hrd5
          subst hn5
          clear hown5 hown2 hown3 hT
          replace hT1 := hide hT1
          replace hT2 := hide hT2
          go_wp2
          go_roundg (l.length - (i + 1))
          case measure => have := hg.out; have := hlt2.out; omega
          case rel => exact ⟨i + 1, T, ao5, cap5, rfl, by have := hlt2.out; omega, rfl, by go_num, hrd5, Bel.to hbel bw5, hT1.out, hT2.out⟩
        · obtain ⟨b2, off2, rfl, hbb2, hcell2⟩ := hS'.at_ hj
          obtain ⟨y, hy, c2⟩ : ∃ y, y = S[j] ∧ wo.cell? ⟨b2, off2 + j, none⟩ = some (.int .i64 y) := ⟨_, rfl, hcell2 _ hj⟩
          have hnext : ∀ (i : Nat) (hi : i < S.length), j ≤ i → x < S[i] := by
            intro i hi hij
            have := List.pairwise_iff_getElem.1 hsort.out j i hj hi
            rcases Nat.lt_or_ge j i with h | h
            · have := this h; omega
            · have e : j = i := by omega
              subst e
              exact hgt
          rw [← hy] at hgt
          replace hnext := hide hnext
          replace hy := hide hy
          clear hcell2
          have j1 : (0 : Int) ≤ (j : Int) := by omega
          have j2 : (j : Int) < (S.length : Int) := by omega
          have hgd : decide (x < y) = true := decide_eq_true (by omega)
          go_wp2
          go_quiet (fail)
          go_wp2
          go_roundg (j + 1)
          case measure => have := hg2.out; omega
          case rel => exact ⟨j, _, rfl, by omega, by go_num, rfl, hnext.out⟩
    · have hil : i = l.length := by omega
      have hres : S = sortI l := sortI_eq (by have := hperm.out; rwa [hil, List.take_length] at this) hsort.out
      replace hres := hide hres
      replace hil := hide hil
      go_wp2
      go_ret
      exact ⟨_, rfl, by rw [← hres.out]; exact hS', hbel⟩
end Go.Proofs.YtlppomkpmnpmcaaGreat
end

section
/- matrix.Canon, lotteryref13.Canon: the canonical form of a line. Condition: at most 1000 numbers in each list. -/
open Go.RowKit
set_option linter.unusedVariables false
set_option linter.unusedSimpArgs false
namespace Go.Proofs.YtlppomkpmnpmcaaGreat

attribute [local go_sem ↓] Go.wp_at_zero Go.wp_at_succ

set_option maxHeartbeats 2000000 in
set_option maxRecDepth 100000 in
theorem canon1_any (v : Value) (l : List Int) (w : World) (h : Rd I64 w v l) (hl : l.length ≤ 1000) :
    Calls Tryz.prog 27 #[v] w (ListP (sortI l) w) := by
  go_enter Tryz.func27, Tryz.ntmps27
  obtain ⟨ao, n, cap, rfl⟩ := Rd.shape h
  go_wp2_with (with_reducible refine wpList_append_rd _ rfl _ _ 26 rfl (V := I64) (fun _ => rfl) w.heap.size 3 (.int .i64 0) 8 Tryz.underlying26 infoInt rfl _ [] rfl ?_ _ l rfl ?_ ?_ ?_ ?_ ?_)
  case refine_1 => exact Own.nil _ _ _
  case refine_2 => exact h
  case refine_3 => simp; omega
  case refine_4 => simp; omega
  case refine_5 => simp
  intro v2 w2 hown2 hg2 hv2
  have bw2 : Below w.heap.size w w2 := (Below.refl _ _).grown hg2 (by simp) (fun g hg => by simp [Value.ownBlock] at hg)
  obtain ⟨ao2, n2, cap2, rfl⟩ := Rd.shape hown2.rd
  have hs := hide (sort_own _ l w.heap.size w2 hown2 (by omega))
  clear hg2 hv2 h
  go_wp2_with fail
  refine hs.out.mono ?_
  rintro e w3 ⟨rfl, hown3, hg3⟩
  have bw3 : Below w.heap.size w w3 := bw2.grown hg3 bw2.size (fun g hg => (hown2.lt g hg).1)
  have hrd := hown3.rd
  clear hown3 hown2 hg3
  go_wp2
  go_ret
  exact ⟨_, rfl, hrd, bw3⟩

/-- A line is handed back. -/
def LineB (a b : List Int) (w : World) (e : Ending) (w' : World) : Prop := ∃ u v, e = .returned (lineVal u v) ∧ LineR w' u v a b ∧ Below w.heap.size w w'

set_option maxHeartbeats 4000000 in
set_option maxRecDepth 100000 in
theorem mcanon_any (mv bv : Value) (a b : List Int) (w : World) (h : LineR w mv bv a b) (ha : a.length ≤ 1000) (hb : b.length ≤ 1000) :
    Calls Tryz.prog 13 #[lineVal mv bv] w (LineB (sortI a) (sortI b) w) := by
  have hh := hide h
  obtain ⟨ma, mc, rfl, hma, hmc, -⟩ := h.1.form
  obtain ⟨ba, bc, rfl, hba, hbc, -⟩ := h.2.form
  clear h
  have cA := hide (fun X (hX : LineR X (.slice ma a.length mc) (.slice ba b.length bc) a b) => canon1_any _ a X hX.1 ha)
  have cB := hide (fun X (hX : LineR X (.slice ma a.length mc) (.slice ba b.length bc) a b) => canon1_any _ b X hX.2 hb)
  clear ha hb
  unfold lineVal
  go_enter Tryz.func13, Tryz.ntmps13
  go_upto_region 2 with (fail)
  obtain ⟨W, hW⟩ : ∃ W, W = ((w.alloc (Obj.cells #[(.slice ma a.length mc), (.slice ba b.length bc)] 28)).alloc (Obj.cells #[(.slice none 0 0), (.slice none 0 0)] 28)) := ⟨_, rfl⟩
  have bW : Below w.heap.size w W := by rw [hW]; exact Bel.al (Bel.al (Below.refl _ _) _) _
  have r0 : LineAt W (w.heap.size) ((.slice ma a.length mc)) ((.slice ba b.length bc)) := by rw [hW]; exact Row.alloc (Row.new _ _ _) _
  have r1 : LineAt W (w.heap.size + 1) ((.slice none 0 0)) ((.slice none 0 0)) := by rw [hW]; exact Row.at2 _ _ _ _
  have sW : w.heap.size + 1 < W.heap.size := by rw [hW]; simp
  rw [← hW]
  clear hW
  have c0 := r0.main
  have c1 := r0.bonus
  have hl0 := hide (fun X (hX : Below w.heap.size w X) => hh.out.below hX)
  have k0 := hide (fun X (hX : Below W.heap.size W X) => (r0.keep hX).main)
  have k1 := hide (fun X (hX : Below W.heap.size W X) => (r0.keep hX).bonus)
  have k2 := hide (fun X (hX : Below W.heap.size W X) => (r1.keep hX).main)
  have k3 := hide (fun X (hX : Below W.heap.size W X) => (r1.keep hX).bonus)
  have k4 := hide (fun X (hX : Below W.heap.size W X) => Row.frozen (r1.keep hX) 0)
  have k5 := hide (fun X (hX : Below W.heap.size W X) => Row.frozen (r1.keep hX) 1)
  have bd : Below W.heap.size W W.drew := Below.drew (Below.refl _ _)
  go_region_held3 (fun X => X.cell? ⟨w.heap.size, 0, none⟩ = some (.slice ma a.length mc) ∧ X.cell? ⟨w.heap.size, 1, none⟩ = some (.slice ba b.length bc)) (go_keep) (first
    | (go_at_call 27; (with_reducible refine (cA.out _ ?_).mono ?_); (first | exact hl0.out _ (Bel.to bW bB) | exact hl0.out _ (Bel.to bW bd)); rintro e wa ⟨ua, rfl, hua, hba⟩; obtain ⟨xa, na, ka, rfl⟩ := Rd.shape hua; have bA : Below W.heap.size W wa := (by first | exact Bel.to bB hba | exact Bel.to bd hba); have c0 := k0.out _ bA; have c1 := k1.out _ bA; have c2 := k2.out _ bA; have c3 := k3.out _ bA; have c4 := k4.out _ bA; have c5 := k5.out _ bA; (try have hub := hub.below hba))
    | (go_at_call 27; (with_reducible refine (cB.out _ ?_).mono ?_); (first | exact hl0.out _ (Bel.to bW bA) | exact hl0.out _ (Bel.to bW bd)); rintro e wb ⟨ub, rfl, hub, hbb⟩; obtain ⟨xb, nb, kb, rfl⟩ := Rd.shape hub; have bB : Below W.heap.size W wb := (by first | exact Bel.to bA hbb | exact Bel.to bd hbb); have c0 := k0.out _ bB; have c1 := k1.out _ bB; have c2 := k2.out _ bB; have c3 := k3.out _ bB; have c4 := k4.out _ bB; have c5 := k5.out _ bB; (try have hua := hua.below hbb)))
  have hua2 := (hua.setNe c2 (fun _ h => by cases h) (.slice xa na ka)).setNe (p := ⟨w.heap.size + 1, 1, none⟩) (c := .slice none 0 0) (by go_simp) (fun _ h => by cases h) (.slice xb nb kb)
  have hub2 := (hub.setNe c2 (fun _ h => by cases h) (.slice xa na ka)).setNe (p := ⟨w.heap.size + 1, 1, none⟩) (c := .slice none 0 0) (by go_simp) (fun _ h => by cases h) (.slice xb nb kb)
  have bfin : Below w.heap.size w ((wb.setCell ⟨w.heap.size + 1, 0, none⟩ (.slice xa na ka)).setCell ⟨w.heap.size + 1, 1, none⟩ (.slice xb nb kb)) := Bel.st (Bel.st (Bel.to bW bB) (by simp) _) (by simp) _
  go_wp2
  exact bodyPost_ret (v := .agg #[.slice xa na ka, .slice xb nb kb]) (by simp [results, Tryz.results13, go_sem, c2, c3]) rfl ⟨_, _, rfl, ⟨hua2, hub2⟩, bfin⟩
end Go.Proofs.YtlppomkpmnpmcaaGreat
end

section
/- lotteryref13.Canon: the canonical form of a line. Condition: at most 1000 numbers in each list. -/
open Go.RowKit
set_option linter.unusedVariables false
set_option linter.unusedSimpArgs false
namespace Go.Proofs.YtlppomkpmnpmcaaGreat

attribute [local go_sem ↓] Go.wp_at_zero Go.wp_at_succ

set_option maxHeartbeats 4000000 in
set_option maxRecDepth 100000 in
theorem rcanon_any (mv bv : Value) (a b : List Int) (w : World) (h : LineR w mv bv a b) (ha : a.length ≤ 1000) (hb : b.length ≤ 1000) :
    Calls Tryz.prog 17 #[lineVal mv bv] w (LineB (sortI a) (sortI b) w) := by
  have hh := hide h
  obtain ⟨ma, mc, rfl, hma, hmc, -⟩ := h.1.form
  obtain ⟨ba, bc, rfl, hba, hbc, -⟩ := h.2.form
  clear h
  have cA := hide (fun X (hX : LineR X (.slice ma a.length mc) (.slice ba b.length bc) a b) => sorted13_any _ a X hX.1 ha)
  have cB := hide (fun X (hX : LineR X (.slice ma a.length mc) (.slice ba b.length bc) a b) => sorted13_any _ b X hX.2 hb)
  clear ha hb
  unfold lineVal
  go_enter Tryz.func17, Tryz.ntmps17
  go_upto_region 1 with (fail)
  obtain ⟨W, hW⟩ : ∃ W, W = ((w.alloc (Obj.cells #[(.slice ma a.length mc), (.slice ba b.length bc)] 28)).alloc (Obj.cells #[(.slice none 0 0), (.slice none 0 0)] 28)) := ⟨_, rfl⟩
  have bW : Below w.heap.size w W := by rw [hW]; exact Bel.al (Bel.al (Below.refl _ _) _) _
  have r0 : LineAt W (w.heap.size) ((.slice ma a.length mc)) ((.slice ba b.length bc)) := by rw [hW]; exact Row.alloc (Row.new _ _ _) _
  have r1 : LineAt W (w.heap.size + 1) ((.slice none 0 0)) ((.slice none 0 0)) := by rw [hW]; exact Row.at2 _ _ _ _
  have sW : w.heap.size + 1 < W.heap.size := by rw [hW]; simp
  rw [← hW]
  clear hW
  have c0 := r0.main
  have c1 := r0.bonus
  have hl0 := hide (fun X (hX : Below w.heap.size w X) => hh.out.below hX)
  have k0 := hide (fun X (hX : Below W.heap.size W X) => (r0.keep hX).main)
  have k1 := hide (fun X (hX : Below W.heap.size W X) => (r0.keep hX).bonus)
  have k2 := hide (fun X (hX : Below W.heap.size W X) => (r1.keep hX).main)
  have k3 := hide (fun X (hX : Below W.heap.size W X) => (r1.keep hX).bonus)
  have k4 := hide (fun X (hX : Below W.heap.size W X) => Row.frozen (r1.keep hX) 0)
  have k5 := hide (fun X (hX : Below W.heap.size W X) => Row.frozen (r1.keep hX) 1)
  have bd : Below W.heap.size W W.drew := Below.drew (Below.refl _ _)
  go_region_held3 (fun X => X.cell? ⟨w.heap.size, 0, none⟩ = some (.slice ma a.length mc) ∧ X.cell? ⟨w.heap.size, 1, none⟩ = some (.slice ba b.length bc)) (go_keep) (first
    | (go_at_call 36; (with_reducible refine (cA.out _ ?_).mono ?_); (first | exact hl0.out _ (Bel.to bW bB) | exact hl0.out _ (Bel.to bW bd)); rintro e wa ⟨ua, rfl, hua, hba⟩; obtain ⟨xa, na, ka, rfl⟩ := Rd.shape hua; have bA : Below W.heap.size W wa := (by first | exact Bel.to bB hba | exact Bel.to bd hba); have c0 := k0.out _ bA; have c1 := k1.out _ bA; have c2 := k2.out _ bA; have c3 := k3.out _ bA; have c4 := k4.out _ bA; have c5 := k5.out _ bA; (try have hub := hub.below hba))
    | (go_at_call 36; (with_reducible refine (cB.out _ ?_).mono ?_); (first | exact hl0.out _ (Bel.to bW bA) | exact hl0.out _ (Bel.to bW bd)); rintro e wb ⟨ub, rfl, hub, hbb⟩; obtain ⟨xb, nb, kb, rfl⟩ := Rd.shape hub; have bB : Below W.heap.size W wb := (by first | exact Bel.to bA hbb | exact Bel.to bd hbb); have c0 := k0.out _ bB; have c1 := k1.out _ bB; have c2 := k2.out _ bB; have c3 := k3.out _ bB; have c4 := k4.out _ bB; have c5 := k5.out _ bB; (try have hua := hua.below hbb)))
  have hua2 := (hua.setNe c2 (fun _ h => by cases h) (.slice xa na ka)).setNe (p := ⟨w.heap.size + 1, 1, none⟩) (c := .slice none 0 0) (by go_simp) (fun _ h => by cases h) (.slice xb nb kb)
  have hub2 := (hub.setNe c2 (fun _ h => by cases h) (.slice xa na ka)).setNe (p := ⟨w.heap.size + 1, 1, none⟩) (c := .slice none 0 0) (by go_simp) (fun _ h => by cases h) (.slice xb nb kb)
  have bfin : Below w.heap.size w ((wb.setCell ⟨w.heap.size + 1, 0, none⟩ (.slice xa na ka)).setCell ⟨w.heap.size + 1, 1, none⟩ (.slice xb nb kb)) := Bel.st (Bel.st (Bel.to bW bB) (by simp) _) (by simp) _
  go_wp2
  exact bodyPost_ret (v := .agg #[.slice xa na ka, .slice xb nb kb]) (by simp [results, Tryz.results17, go_sem, c2, c3]) rfl ⟨_, _, rfl, ⟨hua2, hub2⟩, bfin⟩
end Go.Proofs.YtlppomkpmnpmcaaGreat
end

section
/- Plain: the next combination. -/
set_option linter.unusedVariables false
set_option linter.unusedSimpArgs false
namespace Go.Proofs.YtlppomkpmnpmcaaGreat

theorem checkL_len {n last : Int} {l : List Int} (h : checkL n last l = 0) (hl : last ≤ n) : (l.length : Int) ≤ n - last := by
  induction l generalizing last with
  | nil => simp; omega
  | cons v t ih =>
    obtain ⟨h1, h2, h3, h4⟩ := checkL_cons h
    have := ih h4 (by omega)
    rw [List.length_cons]
    omega

theorem checkL_get {n last : Int} {l : List Int} (h : checkL n last l = 0) (i : Nat) (hi : i < l.length) : 1 ≤ l[i] ∧ l[i] ≤ n ∧ last < l[i] := by
  induction l generalizing last i with
  | nil => simp at hi
  | cons v t ih =>
    obtain ⟨h1, h2, h3, h4⟩ := checkL_cons h
    cases i with
    | zero => exact ⟨h1, h2, h3⟩
    | succ i =>
      have := ih h4 i (by simpa using hi)
      rw [List.getElem_cons_succ]
      exact ⟨this.1, this.2.1, by omega⟩

/-- The place at which the next combination parts, searched from place m - 1 down. -/
def nextI (l : List Int) (n k : Int) : Nat → Option Nat
  | 0 => none
  | i + 1 => if l.getD i 0 = n - k + 1 + i then nextI l n k i else some i

def bump (x : Int) (d : Nat) : List Int := (List.range d).map fun (t : Nat) => x + (t : Int)

theorem length_bump (x : Int) (d : Nat) : (bump x d).length = d := by simp [bump]
theorem getElem_bump (x : Int) (d t : Nat) (h : t < (bump x d).length) : (bump x d)[t] = x + (t : Int) := by simp [bump]

def nextOf (l : List Int) : Option Nat → List Int × Bool
  | none => ([], false)
  | some i => (l.take i ++ bump (l.getD i 0 + 1) (l.length - i), true)

def nextV (l : List Int) (n : Int) : List Int × Bool :=
  if 0 ≤ n ∧ n ≤ 80 ∧ checkL n 0 l = 0 then nextOf l (nextI l n l.length l.length) else ([], false)

theorem nextI_lt {l : List Int} {n k : Int} {m i : Nat} (h : nextI l n k m = some i) : i < m := by
  induction m with
  | zero => cases h
  | succ m ih =>
    rw [nextI] at h
    split at h
    · have := ih h; omega
    · injection h with h; omega

/-- What stands in the row when the places below j are done. -/
def midP (l : List Int) (i j : Nat) (P : List Int) : Prop := P.length = l.length ∧ ∀ t (h : t < P.length) (h' : t < l.length), P[t] = if i ≤ t ∧ t < j then l.getD i 0 + 1 + ((t : Int) - i) else l[t]

theorem midP_set {l P : List Int} {i j : Nat} (h : midP l i j P) (hij : i ≤ j) (hj : j < l.length) : midP l i (j + 1) (P.set j (l.getD i 0 + 1 + ((j : Int) - i))) := by
  refine ⟨by rw [List.length_set]; exact h.1, fun t ht ht' => ?_⟩
  rw [List.getElem_set]
  by_cases e : j = t
  · subst e; rw [if_pos rfl, if_pos (by omega)]
  · rw [if_neg e, h.2 t (by simpa using ht) ht']
    by_cases c : i ≤ t ∧ t < j
    · rw [if_pos c, if_pos (by omega)]
    · rw [if_neg c, if_neg (by omega)]

theorem midP_end {l P : List Int} {i : Nat} (h : midP l i l.length P) (hi : i < l.length) : P = l.take i ++ bump (l.getD i 0 + 1) (l.length - i) := by
  apply List.ext_getElem
  · rw [h.1, List.length_append, List.length_take, length_bump]; omega
  · intro t h1 h2
    have hl := h.1
    rw [h.2 t h1 (by omega), List.getElem_append]
    by_cases c : t < i
    · rw [if_neg (by omega), dif_pos (by rw [List.length_take]; omega), List.getElem_take]
    · rw [if_pos (by omega), dif_neg (by rw [List.length_take]; omega), getElem_bump]
      rw [List.length_take]; omega
end Go.Proofs.YtlppomkpmnpmcaaGreat
end

section
/- comb.Next. -/
open Go.RowKit
set_option linter.unusedVariables false
set_option linter.unusedSimpArgs false
namespace Go.Proofs.YtlppomkpmnpmcaaGreat

theorem sizeInt : (Tryz.prog.info? 3).map (·.size) = some 1 := by kernel_rfl

/-- A list and a truth value. -/
def ListB (l : List Int) (b : Bool) (w : World) (e : Ending) (w' : World) : Prop := ∃ u, e = .returned (.tuple #[u, .bool b]) ∧ Rd I64 w' u l ∧ Below w.heap.size w w'

end Go.Proofs.YtlppomkpmnpmcaaGreat
end

section
/- comb.Unrank and comb.Next at whatever arguments. -/
open Go.RowKit
set_option linter.unusedVariables false
set_option linter.unusedSimpArgs false
namespace Go.Proofs.YtlppomkpmnpmcaaGreat

/-- Unrank: the list and the code. -/
def unrankV (r n k : Int) : List Int × Int :=
  if 0 ≤ n ∧ n ≤ 80 ∧ 0 ≤ k ∧ k ≤ n then
    (if choose n.toNat k.toNat ≤ 9223372036854775807 then (if 0 ≤ r ∧ r < choose n.toNat k.toNat then (unrankL n.toNat 1 r.toNat k.toNat, 0) else ([], 2)) else ([], 9))
  else ([], 2)

set_option maxHeartbeats 1000000 in
theorem unrank_range (r n k : Int) (w : World) (h : ¬ (0 ≤ n ∧ n ≤ 80 ∧ 0 ≤ k ∧ k ≤ n)) :
    Calls Tryz.prog 23 #[.int .i64 r, .int .i64 n, .int .i64 k] w (ListC [] 2 w) := by
  by_cases hn : 0 ≤ n ∧ n ≤ 80
  · have hd : decide (0 ≤ n ∧ n ≤ 80) = true := decide_eq_true hn
    by_cases hk : k < 0
    all_goals
      first | (have hk2 : n < k := by omega) | skip
      clear h hn
      go_enter Tryz.func23, Tryz.ntmps23
      go_wp2_with fail
      refine (known_any _ _).mono ?_
      rintro e w' ⟨rfl, rfl⟩
      rw [hd]
      go_wp2
      go_ret2
      exact ⟨_, rfl, Rd.nil, Below.refl _ _⟩
  · have hd : decide (0 ≤ n ∧ n ≤ 80) = false := decide_eq_false hn
    clear h hn
    go_enter Tryz.func23, Tryz.ntmps23
    go_wp2_with fail
    refine (known_any _ _).mono ?_
    rintro e w' ⟨rfl, rfl⟩
    rw [hd]
    go_wp2
    go_ret2
    exact ⟨_, rfl, Rd.nil, Below.refl _ _⟩

set_option maxHeartbeats 1000000 in
theorem unrank_over (r : Int) (n k : Nat) (w : World) (hn : n ≤ 80) (hk : k ≤ n) (hct : 9223372036854775807 < choose n k) :
    Calls Tryz.prog 23 #[.int .i64 r, .int .i64 (n : Int), .int .i64 (k : Int)] w (ListC [] 9 w) := by
  have hd : decide (0 ≤ (n : Int) ∧ (n : Int) ≤ 80) = true := decide_eq_true (by omega)
  have hci0 := chooseI_nat n k n k rfl rfl
  have hkI : ¬ (n : Int) < (k : Int) := by omega
  go_enter Tryz.func23, Tryz.ntmps23
  go_wp2_with fail
  refine (known_any _ _).mono ?_
  rintro e w' ⟨rfl, rfl⟩
  rw [hd]
  clear hd
  replace hci0 := hide hci0
  go_wp2_with fail
  refine (count_over _ _ _ (by omega) (by rw [hci0.out]; exact hct)).mono ?_
  rintro e w1 ⟨rfl, hb1⟩
  clear hct
  go_wp2
  go_ret2
  exact ⟨_, rfl, Rd.nil, hb1⟩

set_option maxHeartbeats 1000000 in
theorem unrank_rank (r : Int) (n k : Nat) (w : World) (hn : n ≤ 80) (hk : k ≤ n) (hct : choose n k ≤ 9223372036854775807) (hr : r < 0 ∨ ((choose n k : Nat) : Int) ≤ r) :
    Calls Tryz.prog 23 #[.int .i64 r, .int .i64 (n : Int), .int .i64 (k : Int)] w (ListC [] 2 w) := by
  have hd : decide (0 ≤ (n : Int) ∧ (n : Int) ≤ 80) = true := decide_eq_true (by omega)
  have hci0 := chooseI_nat n k n k rfl rfl
  have hkI : ¬ (n : Int) < (k : Int) := by omega
  by_cases h0 : r < 0
  all_goals
    first | (have hrI : ((choose n k : Nat) : Int) ≤ r := by omega) | skip
    clear hr
    go_enter Tryz.func23, Tryz.ntmps23
    go_wp2_with fail
    refine (known_any _ _).mono ?_
    rintro e w' ⟨rfl, rfl⟩
    rw [hd]
    clear hd
    replace hci0 := hide hci0
    go_wp2_with fail
    refine (count_ok _ _ _ (by omega) (by rw [hci0.out]; exact hct)).mono ?_
    rintro e w1 ⟨rfl, hb1⟩
    rw [hci0.out]
    go_wp2
    go_ret2
    exact ⟨_, rfl, Rd.nil, hb1⟩

theorem unrank_any (r n k : Int) (w : World) : Calls Tryz.prog 23 #[.int .i64 r, .int .i64 n, .int .i64 k] w (ListC (unrankV r n k).1 (unrankV r n k).2 w) := by
  unfold unrankV
  by_cases h : 0 ≤ n ∧ n ≤ 80 ∧ 0 ≤ k ∧ k ≤ n
  · rw [if_pos h]
    obtain ⟨n, rfl⟩ := Int.eq_ofNat_of_zero_le h.1
    obtain ⟨k, rfl⟩ := Int.eq_ofNat_of_zero_le h.2.2.1
    rw [Int.toNat_natCast, Int.toNat_natCast]
    by_cases hx : choose n k ≤ 9223372036854775807
    · rw [if_pos hx]
      by_cases hr : 0 ≤ r ∧ r < choose n k
      · rw [if_pos hr]
        obtain ⟨r, rfl⟩ := Int.eq_ofNat_of_zero_le hr.1
        exact unrank_ok r n k w (by omega) (by omega) hx (by omega)
      · rw [if_neg hr]
        exact unrank_rank r n k w (by omega) (by omega) hx (by omega)
    · rw [if_neg hx]
      exact unrank_over r n k w (by omega) (by omega) (by omega)
  · rw [if_neg h]
    exact unrank_range r n k w h
end Go.Proofs.YtlppomkpmnpmcaaGreat
end

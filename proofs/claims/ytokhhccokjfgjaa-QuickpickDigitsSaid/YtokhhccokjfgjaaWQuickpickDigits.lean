/- QuickpickDigits: for every input the Go function lotterylaw14.QuickpickDigits returns true, and each argument reads afterwards as before. Conditions: none. -/
import Derived.Laws.RangeString
import Derived.Outline
import Derived.Test.YtokhhccokjfgjaaRows
import Derived.WalkKit
import Derived.ProofKit
import Derived.OpenShut
import Derived.ChangeOld
import Derived.Below
import Derived.Test.YtokhhccokjfgjaaGPick
import Derived.Test.YtokhhccokjfgjaaGTrod

section
/- The walk of the statement QuickpickDigits: it returns true, whatever the numbers. -/
open Go.RowKit
set_option linter.unusedVariables false
set_option linter.unusedSimpArgs false
namespace Go.Proofs.Ytokhhccokjfgjaa

theorem serS_take (l : List Int) (x : Int) : (serS (l ++ [x])).extract 0 l.length = serS l := by
  have h : ((serS (l ++ [x])).extract 0 l.length).data = (serS l).data := by
    apply Array.toList_inj.1
    have e1 : (serS (l ++ [x])).data.toList = (serS l).data.toList ++ (strF [48 + x]).data.toList := by
      rw [serS_snoc, ByteArray.data_append, Array.toList_append]
    rw [ByteArray.data_extract, Array.toList_extract, List.extract_eq_take_drop, e1]
    have e2 : (serS l).data.toList.length = l.length := by rw [Array.length_toList]; exact serS_size l
    simp [e2]
  cases h1 : (serS (l ++ [x])).extract 0 l.length
  cases h2 : serS l
  rw [h1, h2] at h
  simp only at h
  rw [h]

theorem serS_bytes {l : List Int} (h : ∀ x ∈ l, 0 ≤ x ∧ x ≤ 9) : ∀ i (hi : i < (serS l).size), 48 ≤ ((serS l)[i]'hi).toNat ∧ ((serS l)[i]'hi).toNat ≤ 57 := by
  intro i hi
  have hd : (serS l).data.toList = (l.map fun d => 48 + d).map fun n => UInt8.ofNat n.toNat := strF_data _
  have e : ((serS l)[i]'hi) = (serS l).data.toList[i]'(by rw [Array.length_toList]; exact hi) := rfl
  have hm : (serS l)[i]'hi ∈ (serS l).data.toList := by rw [e]; exact List.getElem_mem _
  rw [hd] at hm
  obtain ⟨y, hy, hy2⟩ := List.mem_map.1 hm
  obtain ⟨x, hx, rfl⟩ := List.mem_map.1 hy
  have := h x hx
  rw [← hy2, UInt8.toNat_ofNat']
  omega

set_option maxHeartbeats 4000000 in
set_option maxRecDepth 100000 in
theorem digits14_out (n : Int) (x : Nat) (w : World) (hn : n < 2 ∨ 8 < n) : Calls Try.prog 5 #[.int .i64 n, .int .u64 (x : Int)] w (BoolB true w) := by
  rcases hn with hn | hn
  all_goals
    go_enter Try.func5, Try.ntmps5
    go_wp2_with fail
    refine (awake14_any _).mono ?_
    rintro e w7 ⟨rfl, b7⟩
    go_wp2
    go_ret
    exact ⟨rfl, b7⟩

set_option maxHeartbeats 4000000 in
set_option maxRecDepth 100000 in
theorem digits14_in (n x : Nat) (w : World) (h1 : 2 ≤ n) (h2 : n ≤ 8) : Calls Try.prog 5 #[.int .i64 (n : Int), .int .u64 (x : Int)] w (BoolB true w) := by
  obtain ⟨m, rfl⟩ : ∃ m, n = m + 1 := ⟨n - 1, by omega⟩
  have c1 := hide (fun X => snew_any x X)
  have c3 := hide (fun X b h => sserial_ok b (m + 1) (x, 0) X h (by omega) (by omega))
  have c4 := hide (fun X b h => sserial_ok b m (x, 0) X h (by omega) (by omega))
  have hless : (drawL (m + 1) 10 [] (x, 0)).1.2 = 0 → _ := fun h => drawL_less h
  have hf := drawL_facts (k := m + 1) (n := 10) (acc := []) (s := (x, 0)) (by omega) (by simp)
  obtain ⟨R, hR⟩ : ∃ R, R = drawL (m + 1) 10 [] (x, 0) := ⟨_, rfl⟩
  obtain ⟨T, hT⟩ : ∃ T, T = drawL m 10 [] (x, 0) := ⟨_, rfl⟩
  rw [← hR, ← hT] at hless
  rw [← hR] at c3 hf
  rw [← hT] at c4
  clear hR hT
  obtain ⟨⟨l, c⟩, st⟩ := R
  obtain ⟨⟨l', c'⟩, st'⟩ := T
  simp only [] at c3 c4 hless hf
  have j1 : ((m + 1 : Nat) : Int) = (m : Int) + 1 := by omega
  rw [j1] at c3 ⊢
  clear j1
  have a1 : (1 : Int) ≤ (m : Int) := by omega
  have a2 : (m : Int) ≤ 7 := by omega
  clear h1 h2
  by_cases hc : c = 0
  · subst hc
    obtain ⟨hc', d, rfl⟩ := hless rfl
    subst hc'
    obtain ⟨hl, hd⟩ := hf rfl
    rw [List.length_nil, Nat.zero_add] at hl
    have hl' : l'.length = m := by simp at hl; omega
    have hS2 := serS_take l' d
    rw [hl'] at hS2
    have hsz := serS_size (l' ++ [d])
    rw [hl] at hsz
    have hb := serS_bytes (l := l' ++ [d]) (fun x hx => by have := hd x hx; omega)
    obtain ⟨S, hS⟩ : ∃ S, S = serS (l' ++ [d]) := ⟨_, rfl⟩
    obtain ⟨S', hS'⟩ : ∃ S', S' = serS l' := ⟨_, rfl⟩
    rw [← hS] at c3
    rw [← hS'] at c4
    rw [← hS, ← hS'] at hS2
    rw [← hS] at hsz hb
    clear hS hS'
    have z5 : (!(S.extract 0 m).toList == S'.toList) = false := by rw [hS2]; simp
    have z6 : (S.size : Int) ≤ (m : Int) + 1 := by omega
    have z7 : (m : Int) + 1 ≤ (S.size : Int) := by omega
    replace hsz := hide hsz
    replace hS2 := hide hS2
    replace hb := hide hb
    replace hl' := hide hl'
    replace hl := hide hl
    replace hd := hide hd
    clear hf hless
    go_enter Try.func5, Try.ntmps5
    go_wp2_with fail
    refine (c1.out _).mono ?_
    rintro e w1 ⟨rfl, s1, b1, z1⟩
    go_wp2_with fail
    refine (c3.out _ _ s1).mono ?_
    rintro e w2 ⟨rfl, s2, g2⟩
    have B2 := Gb.bel b1 g2 (Nat.le_refl _)
    clear b1 g2 s1 s2 z1
    go_wp2_with fail
    refine (c1.out _).mono ?_
    rintro e w3 ⟨rfl, s3, b3, z3⟩
    go_wp2_with fail
    refine (c4.out _ _ s3).mono ?_
    rintro e w4 ⟨rfl, s4, g4⟩
    have B4 := Bel.to B2 (Gb.bel b3 g4 (Nat.le_refl _))
    clear b3 g4 s3 s4 z3 B2
    clear c1 c3 c4
    go_wp2
    go_loopg [9] (m + 1) (fun gh t wr => ∃ pos : Nat, gh = m + 1 - pos ∧ pos ≤ m + 1 ∧ wr = w4.iter S pos)
    case atStart => exact ⟨0, rfl, Nat.zero_le _, rfl⟩
    case round =>
      obtain ⟨pos, hgh, hpos, rfl⟩ := hrel
      replace hgh := hide hgh
      by_cases hp : pos < S.size
      · obtain ⟨q1, q2⟩ := hb.out pos hp
        have hnx : ∀ ty, (Instr.next (.pointer (some ⟨w4.heap.size, 0, none⟩)) true ty).run Try.prog (w4.iter S pos) = _ := fun ty => run_next_ascii w4 S pos ty hp (by omega)
        have q3 : (48 : Int) ≤ ((S[pos]'hp).toNat : Int) := by omega
        have q4 : ((S[pos]'hp).toNat : Int) ≤ 57 := by omega
        have hp2 := hide hp
        go_wp2
        go_roundg (m + 1 - (pos + 1))
        case measure => have := hgh.out; have := hp2.out; have := hsz.out; omega
        case rel => exact ⟨pos + 1, rfl, by have := hp2.out; have := hsz.out; omega, rfl⟩
      · have hnx : ∀ ty, (Instr.next (.pointer (some ⟨w4.heap.size, 0, none⟩)) true ty).run Try.prog (w4.iter S pos) = _ := fun ty => run_next_end w4 S pos ty hp
        have B5 : Below w.heap.size w (w4.iter S pos) := Bel.al B4 _
        go_wp2_with fail
        refine (awake14_any _).mono ?_
        rintro e w7 ⟨rfl, b7⟩
        go_wp2
        go_ret
        exact ⟨rfl, Bel.to B5 b7⟩
  · have hcn : (c != 0) = true := by simpa using hc
    replace hc := hide hc
    clear hless hf c4
    go_enter Try.func5, Try.ntmps5
    go_wp2_with fail
    refine (c1.out _).mono ?_
    rintro e w1 ⟨rfl, s1, b1, z1⟩
    go_wp2_with fail
    refine (c3.out _ _ s1).mono ?_
    rintro e w2 ⟨rfl, s2, g2⟩
    have B2 := Gb.bel b1 g2 (Nat.le_refl _)
    clear b1 g2 s1 s2 z1
    go_wp2_with fail
    refine (awake14_any _).mono ?_
    rintro e w7 ⟨rfl, b7⟩
    go_wp2
    go_ret
    exact ⟨rfl, Bel.to B2 b7⟩

theorem digits14_any (n x : Int) (w : World) (h0 : 0 ≤ x) (hx : x ≤ 18446744073709551615) : Calls Try.prog 5 #[.int .i64 n, .int .u64 x] w (BoolB true w) := by
  obtain ⟨x, rfl⟩ := Int.eq_ofNat_of_zero_le h0
  by_cases hn : n < 2 ∨ 8 < n
  · exact digits14_out n x w hn
  · obtain ⟨n, rfl⟩ := Int.eq_ofNat_of_zero_le (show 0 ≤ n by omega)
    exact digits14_in n x w (by omega) (by omega)
end Go.Proofs.Ytokhhccokjfgjaa
end

section
/- QuickpickDigits: for every input the Go function lotterylaw14.QuickpickDigits returns true, and each argument reads afterwards as before. Conditions: none. -/
namespace Go.Proofs.Ytokhhccokjfgjaa.quickpickDigits
open Go.ChangeShapes Go.WideShapes Go.ChangeAt Go.RowKit
set_option linter.unusedVariables false

theorem own : ownKnob Try.prog.godebug = none := by kernel_rfl
theorem laidOut : laidOutB Try.prog = true := by kernel_rfl

set_option maxRecDepth 100000 in
theorem lifted (os : Os) (started : os.Started) (H : Type) (enc : TypeId × Value → H) :
    ReturnsInHanded {} Try.checked os 5 .any (Rows.quickpickDigitsSpec.pre6 enc Try.prog Try.f5 Rows.quickpickDigitsRow.domain false) (Rows.quickpickDigitsSpec.post enc Try.prog Try.f5 false true false false) := by
  refine returnsInHanded_of_change (C := Try.checked) own started (by kernel_rfl) Try.func5
    (ChangeSpec.witness6 (enc := enc) (C := Try.checked) false ⟨#[], #[.int .i64 0, .int .u64 0], []⟩ 8 (by kernel_rfl) (by kernel_rfl) (by kernel_rfl) (by kernel_rfl)) ?_
  intro W base args ds gs before hval0 hW hcnd _
  have hval : ∀ (j : Nat) t v, Try.f5.params[j]? = some t → args[j]? = some v → Value.okWide Try.prog W .any base t v := hval0
  have hW' := hW
  obtain ⟨p, q, hA0, hV, rfl, hfz, hnd⟩ := hW
  have hA : DataW.TrodAll enc Try.prog W 0 (fun _ => true) true Try.f5.params.toList args.toList ds p := hA0
  rw [Try.params5] at hA hval
  obtain ⟨v0, vs0, d0, ds0, p0, q0, hargs, rfl, rfl, h0, r0⟩ := trodAll_cons hA
  obtain ⟨v1, vs1, d1, ds1, p1, q1, rfl, rfl, rfl, h1, r1⟩ := trodAll_cons r0
  obtain ⟨rfl, rfl, rfl⟩ := trodAll_nil r1
  obtain rfl : args = #[v0, v1] := by cases args; simp_all
  obtain ⟨rfl, rfl⟩ := trodVars_none hV
  obtain ⟨a0, rfl, rfl, rfl, w0⟩ := open_int Try.underlying3 (hval 0 3 v0 rfl rfl) h0
  have b0 := bounds_i64 w0
  obtain ⟨a1, rfl, rfl, rfl, w1⟩ := open_int Try.underlying36 (hval 1 36 v1 rfl rfl) h1
  have b1 := bounds_u64 w1
  clear hA0 hval0
  simp only [List.append_nil] at hW'
  refine (digits14_any a0 a1 W (by omega) (by omega)).mono fun e W' ⟨he, bel⟩ => ?_
  subst he
  exact ⟨_, rfl, _, _, _, [], [], [], hW', trodAll_mk1 (shut_bool Try.underlying4 _), (trodAll_cons_mk (shut_int Try.underlying3 w0) (trodAll_cons_mk (shut_int Try.underlying36 w1) trodAll_mk0)), rfl, bel.frame _, fun h => by cases h⟩

theorem over : Rows.quickpickDigitsRow.holds Try.pinned (OpenSpec.ofChange Rows.quickpickDigitsSpec) :=
  OpenClaim.holds_of_wide 5 Try.f5 rfl rfl rfl rfl rfl rfl rfl ⟨rfl, rfl, rfl, rfl, rfl⟩ rfl rfl rfl rfl rfl (by kernel_rfl) Try.func5 (by kernel_rfl)
    (of_decide_eq_true (by kernel_rfl)) (by unfold Func.isWrapper; first | (rw [if_pos (by decide +kernel)]; kernel_rfl) | (rw [if_neg (by decide +kernel)]; exact ⟨rfl, rfl⟩))
    (fun os started H enc _ => lifted os started H enc)

theorem proved : Rows.QuickpickDigitsSaid := over
#print axioms proved
end Go.Proofs.Ytokhhccokjfgjaa.quickpickDigits
end

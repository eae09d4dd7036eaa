/- QuickpickSerials: for every input the Go function lotterylaw14.QuickpickSerials returns true, and each argument reads afterwards as before. Conditions: none. -/
import Derived.Test.YtokhhccokjfgjaaRows
import Derived.WalkKit
import Derived.ProofKit
import Derived.OpenShut
import Derived.ChangeOld
import Derived.Below
import Derived.Test.YtokhhccokjfgjaaGPick
import Derived.Test.YtokhhccokjfgjaaGTrod

section
/- The walk of the statement QuickpickSerials: it returns true, whatever the numbers. -/
open Go.RowKit
set_option linter.unusedVariables false
set_option linter.unusedSimpArgs false
namespace Go.Proofs.Ytokhhccokjfgjaa

set_option maxHeartbeats 4000000 in
set_option maxRecDepth 100000 in
theorem serials14_any (n x : Int) (w : World) (h0 : 0 ≤ x) (hx : x ≤ 18446744073709551615) : Calls Try.prog 7 #[.int .i64 n, .int .u64 x] w (BoolB true w) := by
  clear hx
  obtain ⟨x, rfl⟩ := Int.eq_ofNat_of_zero_le h0
  have c1 := hide (fun X => snew_any x X)
  have c2 := hide (fun X => rnew_any x X)
  have c3 := hide (fun X b h => sserial_any b n (x, 0) X h)
  have c4 := hide (fun X b h => rserial_any b n (x, 0) X h)
  have c5 := hide (fun X b st h => sused_any b st X h)
  have c6 := hide (fun X b st h => rused_any b st X h)
  obtain ⟨R, hR⟩ : ∃ R, R = serialP n (x, 0) := ⟨_, rfl⟩
  rw [← hR] at c3 c4
  clear hR
  obtain ⟨⟨l, c⟩, st⟩ := R
  simp only [] at c3 c4
  obtain ⟨S, hS⟩ : ∃ S, S = serS l := ⟨_, rfl⟩
  rw [← hS] at c3 c4
  clear hS
  go_enter Try.func7, Try.ntmps7
  go_wp2_with fail
  refine (c1.out _).mono ?_
  rintro e w1 ⟨rfl, s1, b1, z1⟩
  go_wp2_with fail
  refine (c2.out _).mono ?_
  rintro e w2 ⟨rfl, r2, b2, z2⟩
  have B2 := Bel.to b1 b2
  have s2 := s1.keep b2
  have hlt : w.heap.size < w1.heap.size := s1.lt
  obtain ⟨p, hp⟩ : ∃ p, p = w1.heap.size := ⟨_, rfl⟩
  rw [← hp] at r2 hlt ⊢
  clear s1 b1 b2 z1 z2 hp c1 c2
  go_wp2_with fail
  refine (c3.out _ _ s2).mono ?_
  rintro e w3 ⟨rfl, s3, g3⟩
  have r3 : StA 87 w3 p (x, 0) := Row.grown r2 g3 (by intro e; injection e with e; omega)
  have B3 := Gb.bel B2 g3 (Nat.le_refl _)
  clear s2 r2 g3 B2
  go_wp2_with fail
  refine (c4.out _ _ r3).mono ?_
  rintro e w4 ⟨rfl, r4, g4⟩
  have s4 : StA 77 w4 w.heap.size st := Row.grown s3 g4 (by intro e; injection e with e; omega)
  have B4 := Gb.bel B3 g4 (Nat.le_of_lt hlt)
  have k1 := hide (c5.out w4 _ st s4)
  have k2 := hide (c6.out w4 _ st r4)
  clear s3 r3 g4 B3 r4 s4
  go_wp2_with fail
  refine k1.out.mono ?_
  rintro e w5 ⟨rfl, rfl⟩
  go_wp2_with fail
  refine k2.out.mono ?_
  rintro e w6 ⟨rfl, rfl⟩
  go_wp2_with fail
  refine (awake14_any _).mono ?_
  rintro e w7 ⟨rfl, b7⟩
  go_wp2
  go_ret
  exact ⟨rfl, Bel.to B4 b7⟩
end Go.Proofs.Ytokhhccokjfgjaa
end

section
/- QuickpickSerials: for every input the Go function lotterylaw14.QuickpickSerials returns true, and each argument reads afterwards as before. Conditions: none. -/
namespace Go.Proofs.Ytokhhccokjfgjaa.quickpickSerials
open Go.ChangeShapes Go.WideShapes Go.ChangeAt Go.RowKit
set_option linter.unusedVariables false

theorem own : ownKnob Try.prog.godebug = none := by kernel_rfl
theorem laidOut : laidOutB Try.prog = true := by kernel_rfl

set_option maxRecDepth 100000 in
theorem lifted (os : Os) (started : os.Started) (H : Type) (enc : TypeId × Value → H) :
    ReturnsInHanded {} Try.checked os 7 .any (Rows.quickpickSerialsSpec.pre6 enc Try.prog Try.f7 Rows.quickpickSerialsRow.domain false) (Rows.quickpickSerialsSpec.post enc Try.prog Try.f7 false true false false) := by
  refine returnsInHanded_of_change (C := Try.checked) own started (by kernel_rfl) Try.func7
    (ChangeSpec.witness6 (enc := enc) (C := Try.checked) false ⟨#[], #[.int .i64 0, .int .u64 0], []⟩ 8 (by kernel_rfl) (by kernel_rfl) (by kernel_rfl) (by kernel_rfl)) ?_
  intro W base args ds gs before hval0 hW hcnd _
  have hval : ∀ (j : Nat) t v, Try.f7.params[j]? = some t → args[j]? = some v → Value.okWide Try.prog W .any base t v := hval0
  have hW' := hW
  obtain ⟨p, q, hA0, hV, rfl, hfz, hnd⟩ := hW
  have hA : DataW.TrodAll enc Try.prog W 0 (fun _ => true) true Try.f7.params.toList args.toList ds p := hA0
  rw [Try.params7] at hA hval
  obtain ⟨v0, vs0, d0, ds0, p0, q0, hargs, rfl, rfl, h0, r0⟩ := trodAll_cons hA
  obtain ⟨v1, vs1, d1, ds1, p1, q1, rfl, rfl, rfl, h1, r1⟩ := trodAll_cons r0
  obtain ⟨rfl, rfl, rfl⟩ := trodAll_nil r1
  obtain rfl : args = #[v0, v1] := by cases args; simp_all
  obtain ⟨rfl, rfl⟩ := trodVars_none hV
  obtain ⟨a0, rfl, rfl, rfl, w0⟩ := open_int Try.underlying3 (hval 0 3 v0 rfl rfl) h0
  have b0 := bounds_i64 w0
  obtain ⟨a1, rfl, rfl, rfl, w1⟩ := open_int Try.underlying36 (hval 1 36 v1 rfl rfl) h1
  have b1 := bounds_u64 w1
  clear hA0 hval0
  simp only [List.append_nil] at hW'
  refine (serials14_any a0 a1 W (by omega) (by omega)).mono fun e W' ⟨he, bel⟩ => ?_
  subst he
  exact ⟨_, rfl, _, _, _, [], [], [], hW', trodAll_mk1 (shut_bool Try.underlying4 _), (trodAll_cons_mk (shut_int Try.underlying3 w0) (trodAll_cons_mk (shut_int Try.underlying36 w1) trodAll_mk0)), rfl, bel.frame _, fun h => by cases h⟩

theorem over : Rows.quickpickSerialsRow.holds Try.pinned (OpenSpec.ofChange Rows.quickpickSerialsSpec) :=
  OpenClaim.holds_of_wide 7 Try.f7 rfl rfl rfl rfl rfl rfl rfl ⟨rfl, rfl, rfl, rfl, rfl⟩ rfl rfl rfl rfl rfl (by kernel_rfl) Try.func7 (by kernel_rfl)
    (of_decide_eq_true (by kernel_rfl)) (by unfold Func.isWrapper; first | (rw [if_pos (by decide +kernel)]; kernel_rfl) | (rw [if_neg (by decide +kernel)]; exact ⟨rfl, rfl⟩))
    (fun os started H enc _ => lifted os started H enc)

theorem proved : Rows.QuickpickSerialsSaid := over
#print axioms proved
end Go.Proofs.Ytokhhccokjfgjaa.quickpickSerials
end

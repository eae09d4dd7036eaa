/- Lemmas, merged out of smaller texts (wip/tools/mergedcx.py). No condition. -/
import Derived.Test.YtldikghldcefcaaProg
import Derived.Laws.Tables
import Derived.Laws.Rows
import Derived.Maps.AppendAt
import Derived.Test.YtldikghldcefcaaHCore
import Derived.Test.YtldikghldcefcaaHC
import Derived.Test.YtldikghldcefcaaHF
import Derived.Test.YtldikghldcefcaaHH
import Derived.Test.YtldikghldcefcaaHI
import Derived.Test.YtldikghldcefcaaHM
section
open Go.RowKit
set_option linter.unusedVariables false
set_option linter.unusedSimpArgs false
namespace Go.Proofs.Ytldikghldcefcaa
theorem wpList_load_row_if {P : Program} {ops : Array Oper} {rest : List Oper} {o : Oper} {a : Act} {w : World} {Q : Exit → Act → World → Prop} (hgd : Region.wanted o (yielded ops a.tmps) = true) (ty : TypeId) (x : Operand) (ho : o.op = .load ty x)
  (g : Nat) (hx : a.eval x = .pointer (some ⟨g,0,none⟩)) (t : TypeId) (cs : List Value) (d : TypeDesc) (hg : Row w g t cs)
  (hu : P.underlying ty = some d) (hd : (match d with | .struct _ | .array _ _ => true | _ => false) = true) (hi : (P.info? ty).map (·.size) = some cs.toArray.size)
  (h : wpList P ops Q rest (a.put o.dst (.agg cs.toArray)) w) : wpList P ops Q (o :: rest) a w :=
 wpList_step fun K hK => by rw [if_pos hgd];exact wp_load_row ty x ho g hx t cs.toArray (0,0) d hg hu hd hi (hK _ _ h)
section
variable {α : Type} {V : α → Value} {w w' : World} {base e : Nat} {v : Value} {l : List α}
end
theorem Own.fr {α : Type} {V : α → Value} {w : World} {base e : Nat} {v : Value} {l : List α} (h : Own V w base e v l) : Fr base v l := by
 rcases Nat.eq_zero_or_pos l.length with h0 | h0
 ·exact .inl (List.eq_nil_of_length_eq_zero h0)
 ·obtain ⟨g,cap,rfl,hb,_⟩ := h.form h0
  exact .inr ⟨g,rfl,hb⟩
section
variable {P : Program} (w : World) {α : Type} {V : α → Value}
end
theorem dval_set {L : List Nat} {j : Nat} (h : j < L.length) (v : Nat) : dval (L.set j v) + 65536 ^ j * L[j] = dval L + 65536 ^ j * v := by
 induction L generalizing j with
 | nil => simp at h
 | cons x t ih =>
  cases j with
  | zero => simp only [zsB,dval,List.getElem_cons_zero,Nat.pow_zero];omega
  | succ j =>
   have := ih (j := j) (by simpa using h)
   simp only [zsC,dval,List.getElem_cons_succ,Nat.pow_succ]
   obtain ⟨P,hP⟩ : ∃ P,P = 65536 ^ j := ⟨_,rfl⟩
   rw [← hP] at this ⊢
   clear hP ih
   grind
theorem dval_take_getD (b : List Nat) (k : Nat) : dval (b.take (k + 1)) = dval (b.take k) + 65536 ^ k * b.getD k 0 := by
 by_cases h : k < b.length
 ·rw [dval_take_succ b k h,List.getD_eq_getElem?_getD,List.getElem?_eq_getElem h];rfl
 ·rw [dgetD0 (by omega),List.take_of_length_le (by omega),List.take_of_length_le (by omega)];simp
theorem dval_zeros (n : Nat) : dval (List.replicate n 0) = 0 := by
 induction n with
 | zero => rfl
 | succ n ih => rw [List.replicate_succ,dval,ih]
theorem dmul_step {L b : List Nat} {i k c p x B : Nat} (hj : i + k < L.length) (h : dval L + 65536 ^ (i + k) * c = B + p * 65536 ^ i * dval (b.take k)) (hx : x = L[i + k] + p * b.getD k 0 + c) :
  dval (L.set (i + k) (x % 65536)) + 65536 ^ (i + (k + 1)) * (x / 65536) = B + p * 65536 ^ i * dval (b.take (k + 1)) := by
 have hs := dval_set hj (x % 65536)
 rw [dval_take_getD,show i + (k + 1) = (i + k) + 1 by omega,Nat.pow_succ]
 obtain ⟨q,hq⟩ : ∃ q,q = b.getD k 0 := ⟨_,rfl⟩
 obtain ⟨y,hy⟩ : ∃ y,y = L[i + k] := ⟨_,rfl⟩
 rw [← hq,← hy] at hx
 rw [← hy] at hs
 rw [← hq]
 have hdm := Nat.div_add_mod x 65536
 obtain ⟨d,hd⟩ : ∃ d,d = x / 65536 := ⟨_,rfl⟩
 obtain ⟨r,hr⟩ : ∃ r,r = x % 65536 := ⟨_,rfl⟩
 rw [← hd,← hr] at hdm
 rw [← hr] at hs ⊢
 rw [← hd]
 rw [Nat.pow_add] at h hs ⊢
 obtain ⟨Pi,hPi⟩ : ∃ P,P = 65536 ^ i := ⟨_,rfl⟩
 obtain ⟨Pk,hPk⟩ : ∃ P,P = 65536 ^ k := ⟨_,rfl⟩
 rw [← hPi,← hPk] at h hs ⊢
 clear hPi hPk hd hr hq hy hj
 grind
theorem mul_lim {L a b : List Nat} {i k c p : Nat} (sa : DSmall a) (sb : DSmall b) (hi : i < a.length) (hp : p = a[i]) (h : dval L + 65536 ^ (i + k) * c = dval (a.take i) * dval b + p * 65536 ^ i * dval (b.take k)) (hk : b.length ≤ k) (hc : 0 < c) : k ≤ b.length := by
 rw [List.take_of_length_le hk] at h
 have e := dval_take_succ a i hi
 have h2 : dval L + 65536 ^ (i + k) * c = dval (a.take (i + 1)) * dval b := by
  rw [e,h,← hp]
  obtain ⟨Pi,hPi⟩ : ∃ P,P = 65536 ^ i := ⟨_,rfl⟩
  rw [← hPi]
  clear hPi e h
  grind
 have h3 := dval_lt (dsmall_take sa (i + 1))
 rw [List.length_take,Nat.min_eq_left (by omega)] at h3
 have h4 := dval_lt sb
 have h5 : dval (a.take (i + 1)) * dval b ≤ 65536 ^ (i + 1) * dval b := Nat.mul_le_mul_right _ (by omega)
 have h6 : 65536 ^ (i + 1) * dval b < 65536 ^ (i + 1) * 65536 ^ b.length := Nat.mul_lt_mul_of_pos_left h4 (Nat.pow_pos (by omega))
 rw [← Nat.pow_add] at h6
 have h7 : 65536 ^ (i + k) ≤ 65536 ^ (i + k) * c := Nat.le_mul_of_pos_right _ hc
 have h8 : (65536 : Nat) ^ (i + k) < 65536 ^ (i + 1 + b.length) := by omega
 have := (Nat.pow_lt_pow_iff_right (by omega : 1 < 65536)).1 h8
 omega
theorem mul_end {L a b : List Nat} {i k p : Nat} (hi : i < a.length) (hp : p = a[i]) (h : dval L + 65536 ^ (i + k) * 0 = dval (a.take i) * dval b + p * 65536 ^ i * dval (b.take k)) (hk : b.length ≤ k) : dval L = dval (a.take (i + 1)) * dval b := by
 rw [List.take_of_length_le hk] at h
 rw [dval_take_succ a i hi,← hp]
 obtain ⟨Pi,hPi⟩ : ∃ P,P = 65536 ^ i := ⟨_,rfl⟩
 rw [← hPi] at h ⊢
 clear hPi
 grind
set_option maxHeartbeats 4000000 in
set_option maxRecDepth 100000 in
theorem rmul_d (va vb : Value) (m n : Nat) (w : World) (ha : DV w va m) (hb : DV w vb n) (lm : (digs m).length ≤ 1000) (ln : (digs n).length ≤ 1000) :
  Calls Try.prog 82 #[va,vb] w (SomeDig (m * n) w) := by
 unfold DV at ha hb
 have SA := hide (dsmall_digs m)
 have SB := hide (dsmall_digs n)
 have em := hide (dval_digs m)
 have en := hide (dval_digs n)
 obtain ⟨a,hae⟩ : ∃ a,a = digs m := ⟨_,rfl⟩
 obtain ⟨b,hbe⟩ : ∃ b,b = digs n := ⟨_,rfl⟩
 rw [← hae] at ha SA em lm
 rw [← hbe] at hb SB en ln
 clear hae hbe
 obtain ⟨aa,ca,rfl,hla,hca,hra⟩ := Rd.form ha
 obtain ⟨ab,cb,rfl,hlb,hcb,hrb⟩ := Rd.form hb
 have hca' : ca ≤ 9223372036854775807 := by unfold maxLen at hca;omega
 have hcb' : cb ≤ 9223372036854775807 := by unfold maxLen at hcb;omega
 clear ha hb
 go_enter Try.func82,Try.ntmps82
 go_wp2_with (with_reducible refine wpList_make_row _ rfl _ _ 51 rfl 3 (.int .i64 0) 8 Try.underlying51 infoInt rfl .i64 .i64 _ _ (a.length + b.length + 1) (a.length + b.length + 1) rfl rfl (by omega) (by omega) (Nat.le_refl _) (by omega) (by omega) ?_;intro w2 hrow hb2 hz2)
 obtain ⟨g,hg⟩ : ∃ g,g = w.heap.size := ⟨_,rfl⟩
 have hgs : w.heap.size ≤ g := by omega
 rw [← hg] at hrow ⊢
 clear hg hz2
 go_wp2
 go_loopw [6] (fun t wr => ∃ (i : Nat) (L : List Nat),i ≤ a.length ∧ t = .int .i64 i ∧ Row wr g 3 (L.map D64) ∧ Hid (L.length = a.length + b.length + 1) ∧ Hid (DSmall L) ∧ Hid (dval L = dval (a.take i) * dval b) ∧ Below w.heap.size w wr) (fun t _ => a.length - (intOf t).toNat)
 case atStart =>
  refine ⟨0,List.replicate (a.length + b.length + 1) 0,Nat.zero_le _,rfl,by rw [List.map_replicate];exact hrow,by show _ = _;simp,dsmall_zeros _,?_,hb2⟩
  show _ = _;rw [dval_zeros];simp [dval]
 case round =>
  clear hrow hb2
  obtain ⟨i,L,hi,rfl,hrow,hLl,hLs,hLv,hbel⟩ := hrel
  by_cases hil : i < a.length
  ·go_wp2
   obtain ⟨p,hp⟩ : ∃ p,p = a[i] := ⟨_,rfl⟩
   have hp2 := SA.out _ (List.getElem_mem hil)
   rw [← hp] at hp2
   replace hp := hide hp
   have hst := hide (show dval L + 65536 ^ (i + 0) * 0 = dval (a.take i) * dval b + p * 65536 ^ i * dval (b.take 0) by rw [hLv.out];simp [dval])
   go_loopw [7,8,9] (fun cc kk xx wr => ∃ (k c : Nat) (L : List Nat),k ≤ b.length + 1 ∧ kk = .int .i64 k ∧ cc = .int .i64 c ∧ c < 65536 ∧ Row wr g 3 (L.map D64) ∧ Hid (L.length = a.length + b.length + 1) ∧ Hid (DSmall L) ∧ Hid (dval L + 65536 ^ (i + k) * c = dval (a.take i) * dval b + p * 65536 ^ i * dval (b.take k)) ∧ Below w.heap.size w wr) (fun _ kk _ _ => b.length + 2 - (intOf kk).toNat)
   case atStart => exact ⟨0,0,L,Nat.zero_le _,rfl,rfl,by omega,hrow,hLl,hLs,hst,hbel⟩
   case round =>
    clear hrow hbel hLl hLs hLv hst
    obtain ⟨k,c,L,hk,rfl,rfl,hc,hrow,hLl,hLs,hE,hbel⟩ := hrel
    by_cases hkl : k < b.length
    ·have hk2 : k ≤ b.length := by omega
     have hjN : i + k < L.length := by rw [hLl.out];omega
     have hra2 := hra.below hbel
     have hrb2 := hrb.below hbel
     obtain ⟨ba,offa,rfl,hba,hcella⟩ := hra2.at_ hil
     have d1 := hcella _ hil
     rw [← hp.out] at d1
     have d2 := hrow.cellV hjN
     have f2 := hrow.frozen (i + k)
     have x1 := hLs.out _ (List.getElem_mem hjN)
     have x2 := dgetD SB.out k
     have hstep := hide (fun (x : Nat) => dmul_step (x := x) hjN hE.out)
     obtain ⟨y,hy⟩ : ∃ y,y = L[i + k] := ⟨_,rfl⟩
     obtain ⟨q,hq⟩ : ∃ q,q = b.getD k 0 := ⟨_,rfl⟩
     rw [← hy] at d2 x1 hstep
     rw [← hq] at x2 hstep
     replace hy := hide hy
     replace hq := hide hq
     obtain ⟨M,hM⟩ : ∃ M,M = p * q := ⟨_,rfl⟩
     have hM1 : M ≤ 65535 * 65535 := by rw [hM];exact Nat.mul_le_mul (by omega) (by omega)
     have hMI : (p : Int) * (q : Int) = (M : Int) := by rw [hM];exact (Int.natCast_mul p q).symm
     rw [← hM] at hstep
     clear hcella
     replace hM := hide hM
     have s1 : IntKind.i64.wrap ((i : Int) + k) = (i : Int) + k := IntWalk.i64_in _ (by omega)
     have s2 : IntKind.i64.wrap ((p : Int) * q) = (M : Int) := by rw [hMI];exact IntWalk.i64_in _ (by omega)
     have s3 : IntKind.i64.wrap ((y : Int) + M) = (y : Int) + M := IntWalk.i64_in _ (by omega)
     have s4 : IntKind.i64.wrap ((y : Int) + M + c) = (y : Int) + M + c := IntWalk.i64_in _ (by omega)
     replace hMI := hide hMI
     have i1 : (0 : Int) ≤ (i : Int) + k := by omega
     have i2 : (i : Int) + k < ((a.length + b.length + 1 : Nat) : Int) := by have := hLl.out;omega
     have i4 : (i : Int) + k < (a.length : Int) + b.length + 1 := by have := hLl.out;omega
     have i3 : ((i : Int) + k).toNat = i + k := by omega
     go_wp2_with fail
     go_region_held3 (fun X => X.cell? ⟨ba,offa + i,none⟩ = some (D64 p) ∧ X.cell? ⟨g,i + k,none⟩ = some (D64 y)) (go_keep) (first
      | (go_at_call 68;refine (digit_any _ b k _ (by exact hrb2)).mono ?_;rintro e w2 ⟨rfl,rfl⟩;rw [← hq.out]))
     obtain ⟨x,hx⟩ : ∃ x : Nat,x = y + M + c := ⟨_,rfl⟩
     have hxI : (y : Int) + M + c = (x : Int) := by omega
     rw [hxI]
     have hx1 : x < 4294967296 := by omega
     have hE2 := hide (hstep.out x hx)
     have hs2 := hide (dsmall_set hLs.out (i + k) (show x % 65536 < 65536 by omega))
     have hL2 := hide (show (L.set (i + k) (x % 65536)).length = a.length + b.length + 1 by rw [List.length_set];exact hLl.out)
     obtain ⟨wd,hwd⟩ : ∃ wd,wd = wr.drew := ⟨_,rfl⟩
     have hrowd : Row wd g 3 (L.map D64) := by rw [hwd];exact hrow
     have hbeld : Below w.heap.size w wd := by rw [hwd];exact Below.drew hbel
     have d2d : wd.cell? ⟨g,i + k,none⟩ = some (D64 y) := by rw [hwd];exact d2
     have f2d : wd.frozen? ⟨g,i + k,none⟩ = false := by rw [hwd];exact f2
     rw [← hwd]
     clear hwd
     have hrow2 := hrowd.setV (V := D64) (i + k) (x % 65536)
     have ee : ((x % 65536 : Nat) : Int) = (x : Int) % 65536 := Int.natCast_emod x 65536
     rw [show D64 (x % 65536) = .int .i64 ((x : Int) % 65536) by rw [← ee]] at hrow2
     have hb2 := Bel.st hbeld (p := ⟨g,i + k,none⟩) hgs (.int .i64 ((x : Int) % 65536))
     replace ee := hide ee
     clear hxI s1 s2 s3 s4 hstep hx hMI
     go_wp2
     go_roundw
     case rel => exact ⟨k + 1,x / 65536,_,by omega,by go_num,by go_num,by omega,hrow2,hL2,hs2,hE2,hb2⟩
     case measure => simp [intOf];omega
    ·by_cases hc0 : 0 < c
     ·have hk2 := mul_lim SA.out SB.out hil hp.out hE.out (by omega) hc0
      have hjN : i + k < L.length := by rw [hLl.out];omega
      have hra2 := hra.below hbel
      have hrb2 := hrb.below hbel
      obtain ⟨ba,offa,rfl,hba,hcella⟩ := hra2.at_ hil
      have d1 := hcella _ hil
      rw [← hp.out] at d1
      have d2 := hrow.cellV hjN
      have f2 := hrow.frozen (i + k)
      have x1 := hLs.out _ (List.getElem_mem hjN)
      have x2 := dgetD SB.out k
      have hstep := hide (fun (x : Nat) => dmul_step (x := x) hjN hE.out)
      obtain ⟨y,hy⟩ : ∃ y,y = L[i + k] := ⟨_,rfl⟩
      obtain ⟨q,hq⟩ : ∃ q,q = b.getD k 0 := ⟨_,rfl⟩
      rw [← hy] at d2 x1 hstep
      rw [← hq] at x2 hstep
      replace hy := hide hy
      replace hq := hide hq
      obtain ⟨M,hM⟩ : ∃ M,M = p * q := ⟨_,rfl⟩
      have hM1 : M ≤ 65535 * 65535 := by rw [hM];exact Nat.mul_le_mul (by omega) (by omega)
      have hMI : (p : Int) * (q : Int) = (M : Int) := by rw [hM];exact (Int.natCast_mul p q).symm
      rw [← hM] at hstep
      clear hcella
      replace hM := hide hM
      have s1 : IntKind.i64.wrap ((i : Int) + k) = (i : Int) + k := IntWalk.i64_in _ (by omega)
      have s2 : IntKind.i64.wrap ((p : Int) * q) = (M : Int) := by rw [hMI];exact IntWalk.i64_in _ (by omega)
      have s3 : IntKind.i64.wrap ((y : Int) + M) = (y : Int) + M := IntWalk.i64_in _ (by omega)
      have s4 : IntKind.i64.wrap ((y : Int) + M + c) = (y : Int) + M + c := IntWalk.i64_in _ (by omega)
      replace hMI := hide hMI
      have i1 : (0 : Int) ≤ (i : Int) + k := by omega
      have i2 : (i : Int) + k < ((a.length + b.length + 1 : Nat) : Int) := by have := hLl.out;omega
      have i4 : (i : Int) + k < (a.length : Int) + b.length + 1 := by have := hLl.out;omega
      have i3 : ((i : Int) + k).toNat = i + k := by omega
      go_wp2_with fail
      go_region_held3 (fun X => X.cell? ⟨ba,offa + i,none⟩ = some (D64 p) ∧ X.cell? ⟨g,i + k,none⟩ = some (D64 y)) (go_keep) (first
       | (go_at_call 68;refine (digit_any _ b k _ (by exact hrb2)).mono ?_;rintro e w2 ⟨rfl,rfl⟩;rw [← hq.out]))
      obtain ⟨x,hx⟩ : ∃ x : Nat,x = y + M + c := ⟨_,rfl⟩
      have hxI : (y : Int) + M + c = (x : Int) := by omega
      rw [hxI]
      have hx1 : x < 4294967296 := by omega
      have hE2 := hide (hstep.out x hx)
      have hs2 := hide (dsmall_set hLs.out (i + k) (show x % 65536 < 65536 by omega))
      have hL2 := hide (show (L.set (i + k) (x % 65536)).length = a.length + b.length + 1 by rw [List.length_set];exact hLl.out)
      obtain ⟨wd,hwd⟩ : ∃ wd,wd = wr.drew := ⟨_,rfl⟩
      have hrowd : Row wd g 3 (L.map D64) := by rw [hwd];exact hrow
      have hbeld : Below w.heap.size w wd := by rw [hwd];exact Below.drew hbel
      have d2d : wd.cell? ⟨g,i + k,none⟩ = some (D64 y) := by rw [hwd];exact d2
      have f2d : wd.frozen? ⟨g,i + k,none⟩ = false := by rw [hwd];exact f2
      rw [← hwd]
      clear hwd
      have hrow2 := hrowd.setV (V := D64) (i + k) (x % 65536)
      have ee : ((x % 65536 : Nat) : Int) = (x : Int) % 65536 := Int.natCast_emod x 65536
      rw [show D64 (x % 65536) = .int .i64 ((x : Int) % 65536) by rw [← ee]] at hrow2
      have hb2 := Bel.st hbeld (p := ⟨g,i + k,none⟩) hgs (.int .i64 ((x : Int) % 65536))
      replace ee := hide ee
      clear hxI s1 s2 s3 s4 hstep hx hMI
      go_wp2
      go_roundw
      case rel => exact ⟨k + 1,x / 65536,_,by omega,by go_num,by go_num,by omega,hrow2,hL2,hs2,hE2,hb2⟩
      case measure => simp [intOf];omega
     ·have hcz : c = 0 := by omega
      subst hcz
      have hE2 := hide (mul_end hil hp.out hE.out (by omega))
      clear hE
      go_wp2
      go_roundw
      case rel => exact ⟨i + 1,L,by omega,by go_num,hrow,hLl,hLs,hE2,hbel⟩
      case measure => simp [intOf];omega
  ·have hE3 := hide (show dval L = m * n by rw [hLv.out,List.take_of_length_le (by omega),em.out,en.out])
   have hrd := hrow.rdAll (n := a.length + b.length + 1) (c := a.length + b.length + 1) hLl.out.symm (Nat.le_refl _) (by omega)
   clear hLv
   go_wp2_with fail
   refine (rtrim _ L _ hrd hLs.out).mono ?_
   rintro e w5 ⟨u,rfl,hu,hb5,ho5⟩
   obtain ⟨uo,ucap,rfl,-,-,-⟩ := Rd.form hu
   rw [hE3.out] at hu ⊢
   go_wp2
   go_ret
   exact ⟨.slice uo _ ucap,rfl,hu,Bel.to hbel hb5,fun k hk => by have h : some g = some k := ho5 k (own_len.trans hk);injection h with h;omega⟩
set_option maxHeartbeats 4000000 in
set_option maxRecDepth 100000 in
theorem rmul_nat (va vb : Value) (m n : Nat) (w : World) (ha : NV w va m) (hb : NV w vb n) (lm : (limbs m).length ≤ 64) (ln : (limbs n).length ≤ 64) (lr : (digs (m * n)).length ≤ 128) :
  Calls Try.prog 59 #[.agg #[va],.agg #[vb]] w (NatC (m * n) 0 w) := by
 have dm := hide (digs_limbs_len lm)
 have dn := hide (digs_limbs_len ln)
 obtain ⟨a0,n0,cp0,rfl⟩ := Rd.shape ha
 obtain ⟨a1,n1,cp1,rfl⟩ := Rd.shape hb
 go_enter Try.func59,Try.ntmps59
 go_wp2_with fail
 refine (rvalid _ m _ (((Rd.alloc ha _).alloc _).alloc _) lm).mono ?_
 rintro e w1 ⟨rfl,hb1⟩
 have ca1 : w1.cell? ⟨w.heap.size,0,none⟩ = some (.slice a0 n0 cp0) := Bel.cellOf hb1 (by go_simp)
 have cb1 : w1.cell? ⟨w.heap.size + 1,0,none⟩ = some (.slice a1 n1 cp1) := Bel.cellOf hb1 (by go_simp)
 have cr1 : w1.cell? ⟨w.heap.size + 2,0,none⟩ = some (.slice none 0 0) := Bel.cellOf hb1 (by go_simp)
 have fr1 : w1.frozen? ⟨w.heap.size + 2,0,none⟩ = false := by rw [hb1.frozen (by simp)];go_simp
 have na1 : NV w1 _ m := Rd.below (((Rd.alloc ha _).alloc _).alloc _) hb1
 have nb1 : NV w1 _ n := Rd.below (((Rd.alloc hb _).alloc _).alloc _) hb1
 have bw1 := Bel.three _ _ _ hb1
 have sz1 : w.heap.size + 2 < w1.heap.size := by have := hb1.size;simp at this;omega
 clear ha hb hb1
 go_wp2_with fail
 refine (rvalid _ n _ nb1 ln).mono ?_
 rintro e W ⟨rfl,hb2⟩
 have ca := Bel.cellOf hb2 ca1
 have cb := Bel.cellOf hb2 cb1
 have cr := Bel.cellOf hb2 cr1
 have fr := Bel.frozenOf hb2 cr1 fr1
 have na : NV W _ m := Rd.below na1 hb2
 have nb : NV W _ n := Rd.below nb1 hb2
 have bw := Bel.to bw1 hb2
 have sz : w.heap.size + 2 < W.heap.size := by have := hb2.size;omega
 clear ca1 cb1 cr1 fr1 na1 nb1 bw1 hb2 sz1
 go_upto_region 3 with (fail)
 go_cut [6,7] (fun p ok X => ∃ (pb : Nat) (ap : Option Addr) (np cpp : Nat),p = .pointer (some ⟨pb,0,none⟩) ∧ ok = .bool true ∧ Below W.heap.size W X ∧ X.cell? ⟨pb,0,none⟩ = some (.slice ap np cpp) ∧ NV X (.slice ap np cpp) (m * n))
 case first =>
  go_region_held3 (fun X => X.cell? ⟨w.heap.size,0,none⟩ = some (.slice a0 n0 cp0) ∧ X.cell? ⟨w.heap.size + 1,0,none⟩ = some (.slice a1 n1 cp1)) (first | go_keep | (refine ⟨cell_far ca5 ?_ _,cell_far cb5 ?_ _⟩ <;> (simp only [];omega))) (first
   | (go_at_call 36;refine (halves _ m _ ?_ ?_).mono ?_;(first | exact Rd.drew na | exact Rd.alloc (Rd.drew na) _);(omega);rintro e w2 ⟨u2,rfl,hu2,hb2,-⟩;have b2 : Below W.heap.size W w2 := (by first | exact Bel.to (Below.drew (Below.refl _ _)) hb2 | exact Bel.to (Bel.al (Below.drew (Below.refl _ _)) _) hb2);have ca2 := Bel.cellOf b2 ca;have cb2 := Bel.cellOf b2 cb;have nb2 : NV w2 _ n := Rd.below nb b2;have s2 := b2.size;(try have k2 : w2.cell? ⟨W.heap.size,0,none⟩ = some (.slice none 0 0) := Bel.cellOf hb2 (new_cell W.drew _ _));(try have f2 : w2.frozen? ⟨W.heap.size,0,none⟩ = false := Bel.frozenOf hb2 (new_cell W.drew _ _) (new_frozen W.drew _ _)))
   | (go_at_call 36;refine (halves _ n _ ?_ ?_).mono ?_;(first | exact nb2 | exact Rd.alloc nb2 _);(omega);rintro e w3 ⟨u3,rfl,hu3,hb3,-⟩;have b3 : Below W.heap.size W w3 := (by first | exact Bel.to b2 hb3 | exact Bel.to (Bel.al b2 _) hb3);have ca3 := Bel.cellOf b3 ca;have cb3 := Bel.cellOf b3 cb;have hu23 : DV w3 _ m := (by first | exact Rd.below hu2 hb3 | exact Rd.below (Rd.alloc hu2 _) hb3);have s3 := b3.size;(try have k3 := Bel.cellOf hb3 k2);(try have f3 := Bel.frozenOf hb3 k2 f2);(try have k3 : w3.cell? ⟨w2.heap.size,0,none⟩ = some (.slice none 0 0) := Bel.cellOf hb3 (new_cell w2 _ _));(try have f3 : w3.frozen? ⟨w2.heap.size,0,none⟩ = false := Bel.frozenOf hb3 (new_cell w2 _ _) (new_frozen w2 _ _)))
   | (go_at_call 82;refine (rmul_d _ _ m n _ ?_ ?_ ?_ ?_).mono ?_;(first | exact hu23 | exact Rd.alloc hu23 _);(first | exact hu3 | exact Rd.alloc hu3 _);(have := dm.out;omega);(have := dn.out;omega);rintro e w4 ⟨u4,rfl,hu4,hb4,-⟩;have b4 : Below W.heap.size W w4 := (by first | exact Bel.to b3 hb4 | exact Bel.to (Bel.al b3 _) hb4);have ca4 := Bel.cellOf b4 ca;have cb4 := Bel.cellOf b4 cb;have s4 := b4.size;(try have k4 := Bel.cellOf hb4 k3);(try have f4 := Bel.frozenOf hb4 k3 f3);(try have k4 : w4.cell? ⟨w3.heap.size,0,none⟩ = some (.slice none 0 0) := Bel.cellOf hb4 (new_cell w3 _ _));(try have f4 : w4.frozen? ⟨w3.heap.size,0,none⟩ = false := Bel.frozenOf hb4 (new_cell w3 _ _) (new_frozen w3 _ _)))
   | (go_at_call 34;refine (whole_ok _ (m * n) _ ?_ ?_).mono ?_;(first | exact hu4 | exact Rd.alloc hu4 _);(omega);rintro e w5 ⟨u5,rfl,hu5,hb5⟩;have b5 : Below W.heap.size W w5 := (by first | exact Bel.to b4 hb5 | exact Bel.to (Bel.al b4 _) hb5);have ca5 := Bel.cellOf b5 ca;have cb5 := Bel.cellOf b5 cb;have s5 := b5.size;(try have k5 := Bel.cellOf hb5 k4);(try have f5 := Bel.frozenOf hb5 k4 f4);(try have k5 : w5.cell? ⟨w4.heap.size,0,none⟩ = some (.slice none 0 0) := Bel.cellOf hb5 (new_cell w4 _ _));(try have f5 : w5.frozen? ⟨w4.heap.size,0,none⟩ = false := Bel.frozenOf hb5 (new_cell w4 _ _) (new_frozen w4 _ _));obtain ⟨a5,n5,cp5,rfl⟩ := Rd.shape hu5))
  all_goals go_wp2_with fail
  all_goals
   go_meet
   first
    | exact ⟨_,_,_,_,rfl,rfl,Bel.al b5 _,new_cell _ _ _,hu5.alloc _⟩
    | exact ⟨_,_,_,_,rfl,rfl,Bel.st b5 (by first | omega | (simp only [];omega) | (simp;done) | (simp;omega)) _,set_cell k5 _,hu5.setNe k5 (fun _ h => by cases h) _⟩
 case rest =>
  obtain ⟨pb,ap,np,cpp,rfl,rfl,hb3,cpb,hp⟩ := hcut
  have cr3 := Bel.cellOf hb3 cr
  have fr3 := Bel.frozenOf hb3 cr fr
  have hfin := hp.setNe cr3 (fun _ h => by cases h) (.slice ap np cpp)
  have hbel := Bel.st (Bel.to bw hb3) (p := ⟨w.heap.size + 2,0,none⟩) (by simp) (.slice ap np cpp)
  go_wp2
  refine bodyPost_ret (v := .tuple #[.agg #[.slice ap np cpp],.int .i64 0]) (by simp [results,Try.results59,go_sem,cr3]) rfl ⟨_,rfl,hfin,hbel⟩
theorem scale_gcd {k a b : Nat} (hk : 0 < k) : (k * a) / Nat.gcd (k * a) (k * b) = a / Nat.gcd a b ∧ (k * b) / Nat.gcd (k * a) (k * b) = b / Nat.gcd a b := by
 rw [Nat.gcd_mul_left]
 exact ⟨Nat.mul_div_mul_left _ _ hk,Nat.mul_div_mul_left _ _ hk⟩
theorem winV_le {g : GameD} (he : gameE g = 0) {i : Nat} (hi : i < g.tiers.length) : winV g (i : Int) ≤ outN g := by
 refine Nat.le_trans ?_ (winS_le he)
 unfold winS
 have h1 : sumTo (fun i => winV g (i : Int)) (i + 1) ≤ sumTo (fun i => winV g (i : Int)) g.tiers.length := sumTo_mono hi
 rw [sumTo] at h1
 omega
theorem winV_ten {g : GameD} (he : gameE g = 0) {i : Nat} (hi : i < g.tiers.length) : (limbs (winV g (i : Int))).length ≤ 10 := Nat.le_trans (limbs_len_le (winV_le he hi)) (outN_ten he)
end Go.Proofs.Ytldikghldcefcaa
end
section
set_option linter.unusedVariables false
set_option linter.unusedSimpArgs false
namespace Go.Proofs.Ytldikghldcefcaa
open Go.RowKit
theorem oWin_val (g : GameD) (av tv : Value) (ms : List AddonM) (t : Int) (w : World) (rg : GameR w av tv ms g) :
  Calls Try.prog 14 #[gameVal g av tv,.int .i64 t] w (NatC (WinO g (winV g) t).1 (WinO g (winV g) t).2 w) :=
 oWin_any g av tv ms (winV g) t w rg _ _ rfl (fun he t X h0 h1 hX => owin_any g av tv ms he t X h0 h1 hX)
theorem WinO_ok {g : GameD} {V : Int → Nat} {t : Int} (h : (WinO g V t).2 = 0) : gameE g = 0 ∧ 0 ≤ t ∧ t < g.tiers.length ∧ (WinO g V t).1 = V t := by
 unfold WinO at h ⊢
 by_cases he : gameE g = 0
 ·rw [if_neg (by simpa using he)] at h ⊢
  split at h
  ·exact absurd h (by decide)
  ·next h2 => rw [if_neg h2];exact ⟨he,by omega,by omega,rfl⟩
 ·rw [if_pos he] at h
  exact absurd h he
def chaP (g : GameD) (t : Int) : Nat := if (WinO g (winV g) t).2 = 0 then (WinO g (winV g) t).1 / Nat.gcd (WinO g (winV g) t).1 (outN g) else 0
def chaQ (g : GameD) (t : Int) : Nat := if (WinO g (winV g) t).2 = 0 then outN g / Nat.gcd (WinO g (winV g) t).1 (outN g) else 0
theorem oChance_val (g : GameD) (av tv : Value) (ms : List AddonM) (t : Int) (w : World) (rg : GameR w av tv ms g) :
  Calls Try.prog 15 #[gameVal g av tv,.int .i64 t] w (FracC (chaP g t) (chaQ g t) (WinO g (winV g) t).2 w) :=
 oChance_any g av tv ms (winV g) t w rg _ _ rfl (fun h0 => by
  obtain ⟨he,h1,h2,h3⟩ := WinO_ok h0
  rw [h3]
  have h4 := winV_ten he (i := t.toNat) (by omega)
  rw [show ((t.toNat : Nat) : Int) = t by omega] at h4
  omega) (fun he t X h0 h1 hX => owin_any g av tv ms he t X h0 h1 hX)
end Go.Proofs.Ytldikghldcefcaa
end
section
open Go.RowKit
set_option linter.unusedVariables false
set_option linter.unusedSimpArgs false
namespace Go.Proofs.Ytldikghldcefcaa
set_option maxHeartbeats 4000000 in
set_option maxRecDepth 100000 in
theorem radd_nat (va vb : Value) (m n : Nat) (w : World) (ha : NV w va m) (hb : NV w vb n) (lm : (limbs m).length ≤ 64) (ln : (limbs n).length ≤ 64) (lr : (digs (m + n)).length ≤ 128) :
  Calls Try.prog 16 #[.agg #[va],.agg #[vb]] w (NatC (m + n) 0 w) := by
 have dm := hide (digs_limbs_len lm)
 have dn := hide (digs_limbs_len ln)
 obtain ⟨a0,n0,cp0,rfl⟩ := Rd.shape ha
 obtain ⟨a1,n1,cp1,rfl⟩ := Rd.shape hb
 go_enter Try.func16,Try.ntmps16
 go_wp2_with fail
 refine (rvalid _ m _ (((Rd.alloc ha _).alloc _).alloc _) lm).mono ?_
 rintro e w1 ⟨rfl,hb1⟩
 have ca1 : w1.cell? ⟨w.heap.size,0,none⟩ = some (.slice a0 n0 cp0) := Bel.cellOf hb1 (by go_simp)
 have cb1 : w1.cell? ⟨w.heap.size + 1,0,none⟩ = some (.slice a1 n1 cp1) := Bel.cellOf hb1 (by go_simp)
 have cr1 : w1.cell? ⟨w.heap.size + 2,0,none⟩ = some (.slice none 0 0) := Bel.cellOf hb1 (by go_simp)
 have fr1 : w1.frozen? ⟨w.heap.size + 2,0,none⟩ = false := by rw [hb1.frozen (by simp)];go_simp
 have na1 : NV w1 _ m := Rd.below (((Rd.alloc ha _).alloc _).alloc _) hb1
 have nb1 : NV w1 _ n := Rd.below (((Rd.alloc hb _).alloc _).alloc _) hb1
 have bw1 := Bel.three _ _ _ hb1
 have sz1 : w.heap.size + 2 < w1.heap.size := by have := hb1.size;simp at this;omega
 clear ha hb hb1
 go_wp2_with fail
 refine (rvalid _ n _ nb1 ln).mono ?_
 rintro e W ⟨rfl,hb2⟩
 have ca := Bel.cellOf hb2 ca1
 have cb := Bel.cellOf hb2 cb1
 have cr := Bel.cellOf hb2 cr1
 have fr := Bel.frozenOf hb2 cr1 fr1
 have na : NV W _ m := Rd.below na1 hb2
 have nb : NV W _ n := Rd.below nb1 hb2
 have bw := Bel.to bw1 hb2
 have sz : w.heap.size + 2 < W.heap.size := by have := hb2.size;omega
 clear ca1 cb1 cr1 fr1 na1 nb1 bw1 hb2 sz1
 go_upto_region 3 with (fail)
 go_cut [6,7] (fun p ok X => ∃ (pb : Nat) (ap : Option Addr) (np cpp : Nat),p = .pointer (some ⟨pb,0,none⟩) ∧ ok = .bool true ∧ Below W.heap.size W X ∧ X.cell? ⟨pb,0,none⟩ = some (.slice ap np cpp) ∧ NV X (.slice ap np cpp) (m + n))
 case first =>
  go_region_held3 (fun X => X.cell? ⟨w.heap.size,0,none⟩ = some (.slice a0 n0 cp0) ∧ X.cell? ⟨w.heap.size + 1,0,none⟩ = some (.slice a1 n1 cp1)) (first | go_keep | (refine ⟨cell_far ca5 ?_ _,cell_far cb5 ?_ _⟩ <;> (simp only [];omega))) (first
   | (go_at_call 36;refine (halves _ m _ ?_ ?_).mono ?_;(first | exact Rd.drew na | exact Rd.alloc (Rd.drew na) _);(omega);rintro e w2 ⟨u2,rfl,hu2,hb2,-⟩;have b2 : Below W.heap.size W w2 := (by first | exact Bel.to (Below.drew (Below.refl _ _)) hb2 | exact Bel.to (Bel.al (Below.drew (Below.refl _ _)) _) hb2);have ca2 := Bel.cellOf b2 ca;have cb2 := Bel.cellOf b2 cb;have nb2 : NV w2 _ n := Rd.below nb b2;have s2 := b2.size;(try have k2 : w2.cell? ⟨W.heap.size,0,none⟩ = some (.slice none 0 0) := Bel.cellOf hb2 (new_cell W.drew _ _));(try have f2 : w2.frozen? ⟨W.heap.size,0,none⟩ = false := Bel.frozenOf hb2 (new_cell W.drew _ _) (new_frozen W.drew _ _)))
   | (go_at_call 36;refine (halves _ n _ ?_ ?_).mono ?_;(first | exact nb2 | exact Rd.alloc nb2 _);(omega);rintro e w3 ⟨u3,rfl,hu3,hb3,-⟩;have b3 : Below W.heap.size W w3 := (by first | exact Bel.to b2 hb3 | exact Bel.to (Bel.al b2 _) hb3);have ca3 := Bel.cellOf b3 ca;have cb3 := Bel.cellOf b3 cb;have hu23 : DV w3 _ m := (by first | exact Rd.below hu2 hb3 | exact Rd.below (Rd.alloc hu2 _) hb3);have s3 := b3.size;(try have k3 := Bel.cellOf hb3 k2);(try have f3 := Bel.frozenOf hb3 k2 f2);(try have k3 : w3.cell? ⟨w2.heap.size,0,none⟩ = some (.slice none 0 0) := Bel.cellOf hb3 (new_cell w2 _ _));(try have f3 : w3.frozen? ⟨w2.heap.size,0,none⟩ = false := Bel.frozenOf hb3 (new_cell w2 _ _) (new_frozen w2 _ _)))
   | (go_at_call 35;refine (radd _ _ m n _ ?_ ?_ ?_ ?_).mono ?_;(first | exact hu23 | exact Rd.alloc hu23 _);(first | exact hu3 | exact Rd.alloc hu3 _);(have := dm.out;omega);(have := dn.out;omega);rintro e w4 ⟨u4,rfl,hu4,hb4,-⟩;have b4 : Below W.heap.size W w4 := (by first | exact Bel.to b3 hb4 | exact Bel.to (Bel.al b3 _) hb4);have ca4 := Bel.cellOf b4 ca;have cb4 := Bel.cellOf b4 cb;have s4 := b4.size;(try have k4 := Bel.cellOf hb4 k3);(try have f4 := Bel.frozenOf hb4 k3 f3);(try have k4 : w4.cell? ⟨w3.heap.size,0,none⟩ = some (.slice none 0 0) := Bel.cellOf hb4 (new_cell w3 _ _));(try have f4 : w4.frozen? ⟨w3.heap.size,0,none⟩ = false := Bel.frozenOf hb4 (new_cell w3 _ _) (new_frozen w3 _ _)))
   | (go_at_call 34;refine (whole_ok _ (m + n) _ ?_ ?_).mono ?_;(first | exact hu4 | exact Rd.alloc hu4 _);(omega);rintro e w5 ⟨u5,rfl,hu5,hb5⟩;have b5 : Below W.heap.size W w5 := (by first | exact Bel.to b4 hb5 | exact Bel.to (Bel.al b4 _) hb5);have ca5 := Bel.cellOf b5 ca;have cb5 := Bel.cellOf b5 cb;have s5 := b5.size;(try have k5 := Bel.cellOf hb5 k4);(try have f5 := Bel.frozenOf hb5 k4 f4);(try have k5 : w5.cell? ⟨w4.heap.size,0,none⟩ = some (.slice none 0 0) := Bel.cellOf hb5 (new_cell w4 _ _));(try have f5 : w5.frozen? ⟨w4.heap.size,0,none⟩ = false := Bel.frozenOf hb5 (new_cell w4 _ _) (new_frozen w4 _ _));obtain ⟨a5,n5,cp5,rfl⟩ := Rd.shape hu5))
  all_goals go_wp2_with fail
  all_goals
   go_meet
   first
    | exact ⟨_,_,_,_,rfl,rfl,Bel.al b5 _,new_cell _ _ _,hu5.alloc _⟩
    | exact ⟨_,_,_,_,rfl,rfl,Bel.st b5 (by first | omega | (simp only [];omega) | (simp;done) | (simp;omega)) _,set_cell k5 _,hu5.setNe k5 (fun _ h => by cases h) _⟩
 case rest =>
  obtain ⟨pb,ap,np,cpp,rfl,rfl,hb3,cpb,hp⟩ := hcut
  have cr3 := Bel.cellOf hb3 cr
  have fr3 := Bel.frozenOf hb3 cr fr
  have hfin := hp.setNe cr3 (fun _ h => by cases h) (.slice ap np cpp)
  have hbel := Bel.st (Bel.to bw hb3) (p := ⟨w.heap.size + 2,0,none⟩) (by simp) (.slice ap np cpp)
  go_wp2
  refine bodyPost_ret (v := .tuple #[.agg #[.slice ap np cpp],.int .i64 0]) (by simp [results,Try.results16,go_sem,cr3]) rfl ⟨_,rfl,hfin,hbel⟩
end Go.Proofs.Ytldikghldcefcaa
end

/- Lemmas, merged out of smaller texts (wip/tools/mergedce.py). No condition. -/
import Derived.Deep.LoopGhost
import Derived.Deep.RegionWith
import Derived.Test.YtldikghldcefcaaHCore
import Derived.Test.YtldikghldcefcaaHB
section
open Go.RowKit
set_option linter.unusedVariables false
set_option linter.unusedSimpArgs false
namespace Go.Proofs.Ytldikghldcefcaa
abbrev D64 (n : Nat) : Value := .int .i64 (n : Int)
theorem own_len {ao : Option Addr} {n n' c c' : Nat} : (Value.slice ao n c).ownBlock = (Value.slice ao n' c').ownBlock := by cases ao <;> rfl
def DV (w : World) (v : Value) (n : Nat) : Prop := Rd D64 w v (digs n)
def SomeDig (n : Nat) (w : World) (e : Ending) (w' : World) : Prop := ∃ v,e = .returned v ∧ DV w' v n ∧ Below w.heap.size w w' ∧ ∀ k,v.ownBlock = some k → w.heap.size ≤ k
def CutDig (u : Value) (n : Nat) (w : World) (e : Ending) (w' : World) : Prop := ∃ v,e = .returned v ∧ DV w' v n ∧ Below w.heap.size w w' ∧ ∀ k,v.ownBlock = some k → u.ownBlock = some k
theorem rtrim (v : Value) (l : List Nat) (w : World) (h : Rd D64 w v l) (hs : DSmall l) :
  Calls Try.prog 67 #[v] w (CutDig v (dval l) w) := by
 obtain ⟨ao,cap,rfl,hlc,hcm,hr⟩ := h.form
 have hcm : cap ≤ 9223372036854775807 := by unfold maxLen at hcm;omega
 go_enter Try.func67,Try.ntmps67
 go_wp2
 go_loop [3] (fun t => ∃ n : Nat,n ≤ l.length ∧ t = .int .i64 n ∧ Hid (dval (l.take n) = dval l)) (fun t => (intOf t).toNat)
 case atStart => exact ⟨l.length,Nat.le_refl _,rfl,by show dval (l.take l.length) = dval l;rw [List.take_length]⟩
 case round =>
  obtain ⟨n,hn,rfl,hv⟩ := hrel
  by_cases h0 : n = 0
  ·subst h0
   have HZ := hide (show dval l = 0 by rw [← hv.out];simp [dval])
   have hcut := hr.take (n := 0) (c := cap) rfl hn (Nat.zero_le _) (by unfold maxLen;omega)
   clear hv
   go_wp2
   go_ret
   refine ⟨.slice _ _ cap,rfl,?_,Below.refl _ _,fun k hk => own_len.trans hk⟩
   show Rd _ _ _ _
   rw [HZ.out,digs_zero]
   rw [List.take_zero] at hcut
   exact hcut
  ·have hk : n - 1 < l.length := by omega
   obtain ⟨b,off,rfl,hb,hc⟩ := hr.at_ hk
   have hc1 := hc (n - 1) hk
   clear hc
   by_cases h1 : l[n - 1] = 0
   ·have hn1 : Hid (dval (l.take (n - 1)) = dval l) := by
     show _ = _
     rw [← hv.out]
     have := dval_take_succ l (n - 1) hk
     rw [h1,Nat.sub_add_cancel (by omega)] at this
     rw [this];simp
    have h1' : ((l[n - 1] : Nat) : Int) = 0 := by omega
    go_wp2
    go_round
    case rel => exact ⟨n - 1,by omega,by go_num,hn1⟩
    case measure => simp [intOf];omega
   ·have h1' : (((l[n - 1] : Nat) : Int) == 0) = false := by simpa using h1
    have hl := digs_take hs (by omega : 0 < n) hn h1
    rw [hv.out] at hl
    have HL := hide hl
    have hcut := hr.take (n := n) (c := cap) rfl hn (by omega) (by unfold maxLen;omega)
    clear h1 hl hv
    go_wp2
    go_ret
    refine ⟨.slice _ _ cap,rfl,?_,Below.refl _ _,fun k hk => own_len.trans hk⟩
    show Rd _ _ _ _
    rw [HL.out]
    exact hcut
theorem rvalid (v : Value) (n : Nat) (w : World) (h : NV w v n) (hn : (limbs n).length ≤ 64) :
  Calls Try.prog 33 #[.agg #[v]] w (BoolB true w) := by
 obtain ⟨ao,cap,rfl,hlc,hcm,hr⟩ := Rd.form h
 have hcm : cap ≤ 9223372036854775807 := by unfold maxLen at hcm;omega
 by_cases h0 : (limbs n).length = 0
 ·go_enter Try.func33,Try.ntmps33
  go_wp2
  go_ret
  exact ⟨rfl,(Below.refl _ _).alloc (Nat.le_refl _) _⟩
 ·have hl := limbs_last (n := n) (by omega)
  have hk : (limbs n).length - 1 < (limbs n).length := by omega
  obtain ⟨b,off,rfl,hb,hc⟩ := hr.at_ hk
  have hc1 := hc _ hk
  clear hc
  have hx : ((((limbs n)[(limbs n).length - 1] : Nat) : Int) != 0) = true := by simpa using hl
  clear hl
  go_enter Try.func33,Try.ntmps33
  go_wp2
  go_ret
  exact ⟨rfl,(Below.refl _ _).alloc (Nat.le_refl _) _⟩
theorem digit_any (v : Value) (l : List Nat) (i : Nat) (w : World) (h : Rd D64 w v l) :
  Calls Try.prog 68 #[v,.int .i64 (i : Int)] w (Pure (.int .i64 ((l.getD i 0 : Nat) : Int)) w) := by
 obtain ⟨ao,cap,rfl,hlc,hcm,hr⟩ := Rd.form h
 have hcm : cap ≤ 9223372036854775807 := by unfold maxLen at hcm;omega
 by_cases hi : i < l.length
 ·obtain ⟨b,off,rfl,hb,hc⟩ := hr.at_ hi
  have hc1 := hc _ hi
  clear hc
  have hgd : l.getD i 0 = l[i] := by rw [List.getD_eq_getElem?_getD,List.getElem?_eq_getElem hi];rfl
  rw [hgd]
  clear hgd
  go_enter Try.func68,Try.ntmps68
  go_wp2
  go_ret
  exact ⟨rfl,rfl⟩
 ·have hgd : l.getD i 0 = 0 := by rw [List.getD_eq_getElem?_getD,List.getElem?_eq_none (by omega)];rfl
  rw [hgd]
  clear hgd
  go_enter Try.func68,Try.ntmps68
  go_wp2
  go_ret
  exact ⟨rfl,rfl⟩
def halvesL : List Nat → List Nat
 | [] => []
 | x :: t => x % 65536 :: x / 65536 :: halvesL t
theorem halvesL_append (a b : List Nat) : halvesL (a ++ b) = halvesL a ++ halvesL b := by
 induction a with
 | nil => rfl
 | cons x t ih => simp only [List.cons_append,halvesL,ih]
theorem halvesL_length (a : List Nat) : (halvesL a).length = 2 * a.length := by
 induction a with
 | nil => rfl
 | cons x t ih => simp only [halvesL,List.length_cons,ih];omega
theorem halvesL_val (a : List Nat) : dval (halvesL a) = val a := by
 induction a with
 | nil => rfl
 | cons x t ih => simp only [halvesL,dval,val,ih];omega
theorem halvesL_small {a : List Nat} (h : Small a) : DSmall (halvesL a) := by
 induction a with
 | nil => intro x hx;cases hx
 | cons x t ih =>
  obtain ⟨h1,h2⟩ := small_cons h
  intro y hy
  simp only [halvesL,List.mem_cons] at hy
  rcases hy with rfl | rfl | hy
  ·omega
  ·omega
  ·exact ih h2 y hy
set_option maxHeartbeats 2000000 in
set_option maxRecDepth 100000 in
theorem halves (v : Value) (n : Nat) (w : World) (h : NV w v n) (hn : (limbs n).length ≤ 1000) :
  Calls Try.prog 36 #[.agg #[v]] w (SomeDig n w) := by
 have hsm := hide (small_limbs n)
 have hvl := hide (val_limbs n)
 unfold NV at h
 obtain ⟨l,hl⟩ : ∃ l,l = limbs n := ⟨_,rfl⟩
 rw [← hl] at h hn hsm hvl
 clear hl
 obtain ⟨ao,cap,rfl,hlc,hcm,hr⟩ := Rd.form h
 have hcm : cap ≤ 9223372036854775807 := by unfold maxLen at hcm;omega
 go_enter Try.func36,Try.ntmps36
 go_wp2
 obtain ⟨W,hW⟩ : ∃ W,W = w.alloc (Obj.cells #[.slice ao l.length cap] 30) := ⟨_,rfl⟩
 have b0 : W.cell? ⟨w.heap.size,0,none⟩ = some (.slice ao l.length cap) := by rw [hW];go_simp
 have hbW : Below w.heap.size w W := by rw [hW];exact Bel.al (Below.refl _ _) _
 have hsW : w.heap.size < W.heap.size := by rw [hW];simp
 rw [← hW]
 clear hW
 have hrW := hr.below hbW
 go_loopw [3,4] (fun vv jj wr => ∃ (j : Nat) (A : List Nat) (bo : Option Addr) (cap2 : Nat),vv = .slice bo A.length cap2 ∧ jj = .int .i64 j ∧ j ≤ l.length ∧ A.length ≤ 2000 ∧ Hid (A = halvesL (l.take j)) ∧ Own D64 wr W.heap.size 3 (.slice bo A.length cap2) A ∧ Below W.heap.size W wr) (fun _ j _ => l.length - (intOf j).toNat)
 case atStart => exact ⟨0,[],none,0,rfl,rfl,Nat.zero_le _,Nat.zero_le _,rfl,Own.nil _ _ _,Below.refl _ _⟩
 case round =>
  obtain ⟨j,A,bo,cap2,rfl,rfl,hj,hA2,hA,hown,hbel⟩ := hrel
  have c0 := Bel.cellOf hbel b0
  by_cases hjl : j < l.length
  ·obtain ⟨b,off,rfl,hb,hc⟩ := hrW.at_ hjl
   have c1 := Bel.cellOf hbel (hc j hjl)
   have hc1 := hide (show ∀ i (hi : i < l.length),∀ x,x = l[i] → W.cell? ⟨b,off + i,none⟩ = some (U32 x) by intro i hi x hx;rw [hx];exact hc i hi)
   clear hc
   have hA3 := hide (show A ++ [l[j] % 65536,l[j] / 65536] = halvesL (l.take (j + 1)) by rw [take_snoc l j hjl,halvesL_append,← hA.out];rfl)
   have hAl : A.length = 2 * j := by rw [hA.out,halvesL_length,List.length_take];omega
   have hAl2 : A.length + 2 ≤ 2000 := by omega
   replace hAl := hide hAl
   have hx : l[j] < 4294967296 := small_get hsm.out hjl
   obtain ⟨x,hxe⟩ : ∃ x,x = l[j] := ⟨_,rfl⟩
   rw [← hxe] at c1 hA3 hx
   replace hxe := hide hxe
   go_wp2_with (with_reducible refine wpList_append_rd _ rfl _ _ 51 rfl (V := D64) (fun _ => rfl) W.heap.size 3 (.int .i64 0) 8 Try.underlying51 infoInt rfl _ A rfl (hown.alloc _) _ [x % 65536] rfl ?_ ?_ ?_ ?_ ?_)
   case refine_1 => exact Rd.new _ rfl rfl (Nat.le_refl _) (by decide) (by simp)
   case refine_2 => simp;omega
   case refine_3 => simp;omega
   case refine_4 => have := hbel.size;simp;omega
   intro v4 w4 hown4 hg4 hv4
   have hsz3 := hbel.size
   have hb4 : Below W.heap.size W w4 := (Bel.al hbel _).grown hg4 (by simp;omega) (fun g hg => (hown.lt g hg).1)
   obtain ⟨bo4,cap4,rfl⟩ := hown4.shape
   have hl1 : (A ++ [x % 65536]).length = A.length + 1 := by simp
   have c04 := Bel.cellOf hb4 b0
   have c14 : w4.cell? ⟨b,off + j,none⟩ = some (U32 x) := Bel.cellOf hb4 (hc1.out j hjl x hxe.out)
   have hs4 := hb4.size
   have hl2 : (A ++ [x % 65536]).length + 1 ≤ 2000 := by rw [hl1];omega
   clear c0 c1
   go_wp2_with (with_reducible refine wpList_append_rd _ rfl _ _ 51 rfl (V := D64) (fun _ => rfl) W.heap.size 3 (.int .i64 0) 8 Try.underlying51 infoInt rfl _ (A ++ [x % 65536]) rfl (hown4.alloc _) _ [x / 65536] rfl ?_ ?_ ?_ ?_ ?_)
   case refine_1 => exact Rd.new _ rfl rfl (Nat.le_refl _) (by decide) (by simp)
   case refine_2 => simp;omega
   case refine_3 => simp;omega
   case refine_4 => simp;omega
   intro v5 w5 hown5 hg5 hv5
   have hb5 : Below W.heap.size W w5 := (Bel.al hb4 _).grown hg5 (by simp;omega) (fun g hg => (hown4.lt g (by simpa using hg)).1)
   obtain ⟨bo5,cap5,rfl⟩ := hown5.shape
   clear c04 c14 hl1
   go_wp2
   go_roundw
   case rel => exact ⟨j + 1,A ++ [x % 65536,x / 65536],bo5,cap5,by simp,by go_num,by omega,by simp at hl2 ⊢;omega,hA3,by simpa using hown5,hb5⟩
   case measure => simp [intOf];omega
  ·have hA3 := hide (show A = halvesL l by rw [hA.out,List.take_of_length_le (by omega)])
   have hrd := hown.rd
   have hds := hide (show DSmall A by rw [hA3.out];exact halvesL_small hsm.out)
   have hdv := hide (show dval A = n by rw [hA3.out,halvesL_val,hvl.out])
   clear hA
   go_wp2_with fail
   refine (rtrim _ A _ hrd hds.out).mono ?_
   rintro e w5 ⟨u,rfl,hu,hb5,ho5⟩
   obtain ⟨uo,ucap,rfl,-,-,-⟩ := Rd.form hu
   rw [hdv.out] at hu ⊢
   go_wp2
   go_ret
   exact ⟨.slice uo _ ucap,rfl,hu,Bel.to (Bel.to hbW hbel) hb5,fun k hk => by have := (hown.lt k (ho5 k (own_len.trans hk))).1;omega⟩
theorem dval_drop (a : List Nat) (i : Nat) : dval (a.drop i) = a.getD i 0 + 65536 * dval (a.drop (i + 1)) := by
 by_cases h : i < a.length
 ·rw [List.drop_eq_getElem_cons h,dval,List.getD_eq_getElem?_getD,List.getElem?_eq_getElem h];rfl
 ·rw [List.drop_of_length_le (by omega),List.drop_of_length_le (by omega),List.getD_eq_getElem?_getD,List.getElem?_eq_none (by omega)];rfl
theorem dgetD {a : List Nat} (h : DSmall a) (i : Nat) : a.getD i 0 < 65536 := by
 by_cases hi : i < a.length
 ·rw [List.getD_eq_getElem?_getD,List.getElem?_eq_getElem hi];exact h _ (List.getElem_mem hi)
 ·rw [List.getD_eq_getElem?_getD,List.getElem?_eq_none (by omega)];decide
theorem dgetD0 {a : List Nat} {i : Nat} (hi : a.length ≤ i) : a.getD i 0 = 0 := by
 rw [List.getD_eq_getElem?_getD,List.getElem?_eq_none hi];rfl
theorem dsmall_snoc {a : List Nat} (h : DSmall a) {x : Nat} (hx : x < 65536) : DSmall (a ++ [x]) := by
 intro y hy
 rcases List.mem_append.1 hy with hy | hy
 ·exact h y hy
 ·rw [List.mem_singleton.1 hy];exact hx
theorem dval_snoc (a : List Nat) (x : Nat) : dval (a ++ [x]) = dval a + 65536 ^ a.length * x := by
 rw [dval_append,dval,dval];simp
theorem add_step {A a b : List Nat} {i c S : Nat} (hl : A.length = i) (h : dval A + 65536 ^ i * (c + dval (a.drop i) + dval (b.drop i)) = S) :
  dval (A ++ [(a.getD i 0 + b.getD i 0 + c) % 65536]) + 65536 ^ (i + 1) * ((a.getD i 0 + b.getD i 0 + c) / 65536 + dval (a.drop (i + 1)) + dval (b.drop (i + 1))) = S := by
 rw [dval_drop a i,dval_drop b i] at h
 rw [dval_snoc,hl,Nat.pow_succ]
 obtain ⟨x,hx⟩ : ∃ x,x = a.getD i 0 + b.getD i 0 + c := ⟨_,rfl⟩
 rw [← hx]
 have := Nat.div_add_mod x 65536
 obtain ⟨q,hq⟩ : ∃ q,q = x / 65536 := ⟨_,rfl⟩
 obtain ⟨r,hr⟩ : ∃ r,r = x % 65536 := ⟨_,rfl⟩
 rw [← hq,← hr] at this ⊢
 clear hq hr
 grind
set_option maxHeartbeats 4000000 in
set_option maxRecDepth 100000 in
theorem radd_lists (va vb : Value) (a b : List Nat) (w : World) (ha : Rd D64 w va a) (hb : Rd D64 w vb b) (sa : DSmall a) (sb : DSmall b) (la : a.length ≤ 1000) (lb : b.length ≤ 1000) :
  Calls Try.prog 35 #[va,vb] w (SomeDig (dval a + dval b) w) := by
 obtain ⟨aa,ca,rfl,hla,hca,hra⟩ := Rd.form ha
 obtain ⟨ab,cb,rfl,hlb,hcb,hrb⟩ := Rd.form hb
 have hca' : ca ≤ 9223372036854775807 := by unfold maxLen at hca;omega
 have hcb' : cb ≤ 9223372036854775807 := by unfold maxLen at hcb;omega
 have SA := hide sa
 have SB := hide sb
 clear sa sb ha hb
 by_cases hab : a.length < b.length
 ·have hK1 : a.length ≤ b.length := by omega
  have hK2 : b.length ≤ b.length := by omega
  go_enter Try.func35,Try.ntmps35
  go_wp2
  go_loopw [6,7,8] (fun vv cc jj wr => ∃ (j c : Nat) (A : List Nat) (bo : Option Addr) (cap2 : Nat),vv = .slice bo A.length cap2 ∧ jj = .int .i64 j ∧ cc = .int .i64 c ∧ c ≤ 1 ∧ j ≤ b.length + 1 ∧ Hid (A.length = j) ∧ A.length ≤ 1001 ∧ Hid (j = b.length + 1 → c = 0) ∧ Hid (DSmall A) ∧ Hid (dval A + 65536 ^ j * (c + dval (a.drop j) + dval (b.drop j)) = dval a + dval b) ∧ Own D64 wr w.heap.size 3 (.slice bo A.length cap2) A ∧ Below w.heap.size w wr) (fun _ _ j _ => b.length + 1 - (intOf j).toNat)
  case atStart => exact ⟨0,0,[],none,0,rfl,rfl,rfl,by omega,by omega,rfl,Nat.zero_le _,fun _ => rfl,(fun x hx => by cases hx),by show _ = _;simp [dval],Own.nil _ _ _,Below.refl _ _⟩
  case round =>
   obtain ⟨j,c,A,bo,cap2,rfl,rfl,rfl,hc1,hj,hAl,hA1,hc0,hsm,hE,hown,hbel⟩ := hrel
   by_cases hjl : j ≤ b.length
   ·have hra2 := hra.below hbel
    have hrb2 := hrb.below hbel
    have x1 := dgetD SA.out j
    have x2 := dgetD SB.out j
    have hE2 := hide (add_step hAl.out hE.out)
    have hz : j = b.length → (a.getD j 0 + b.getD j 0 + c) / 65536 = 0 := by
     intro h
     rw [dgetD0 (by omega),dgetD0 (by omega)];omega
    obtain ⟨p,hp⟩ : ∃ p,p = a.getD j 0 := ⟨_,rfl⟩
    obtain ⟨q,hq⟩ : ∃ q,q = b.getD j 0 := ⟨_,rfl⟩
    rw [← hp,← hq] at hE2 hz
    rw [← hp] at x1
    rw [← hq] at x2
    replace hp := hide hp
    replace hq := hide hq
    have hz2 := hide (show j + 1 = b.length + 1 → (p + q + c) / 65536 = 0 by intro h;exact hz (by omega))
    have hs2 := hide (dsmall_snoc hsm.out (show (p + q + c) % 65536 < 65536 by omega))
    have hAl3 : A.length = j := hAl.out
    have hAl2 : A.length + 1 ≤ 1001 := by omega
    have hAl4 := hide (show (A ++ [(p + q + c) % 65536]).length = j + 1 by rw [List.length_append,List.length_singleton,hAl3])
    clear hAl3 hz hE hAl
    go_wp2_with fail
    refine (digit_any _ a j _ hra2).mono ?_
    rintro e w2 ⟨rfl,rfl⟩
    rw [← hp.out]
    go_wp2_with fail
    refine (digit_any _ b j _ hrb2).mono ?_
    rintro e w2 ⟨rfl,rfl⟩
    rw [← hq.out]
    go_wp2_with (with_reducible refine wpList_append_rd _ rfl _ _ 51 rfl (V := D64) (fun _ => rfl) w.heap.size 3 (.int .i64 0) 8 Try.underlying51 infoInt rfl _ A rfl (hown.alloc _) _ [(p + q + c) % 65536] rfl ?_ ?_ ?_ ?_ ?_)
    case refine_1 => exact Rd.new _ rfl rfl (Nat.le_refl _) (by decide) (by simp)
    case refine_2 => simp;omega
    case refine_3 => simp;omega
    case refine_4 => have := hbel.size;simp;omega
    intro v4 w4 hown4 hg4 hv4
    have hsz3 := hbel.size
    have hb4 : Below w.heap.size w w4 := (Bel.al hbel _).grown hg4 (by simp;omega) (fun g hg => (hown.lt g hg).1)
    obtain ⟨bo4,cap4,rfl⟩ := hown4.shape
    have hq1 := hide (show (p + q + c) / 65536 ≤ 1 by omega)
    go_wp2
    go_roundw
    case rel => exact ⟨j + 1,(p + q + c) / 65536,_,bo4,cap4,rfl,by go_num,by go_num,hq1.out,by omega,hAl4,by simp;omega,hz2,hs2,hE2,hown4,hb4⟩
    case measure => simp [intOf];omega
   ·have hjj : j = b.length + 1 := by omega
    have hcz := hc0.out hjj
    have hE2 := hE.out
    rw [hcz,List.drop_of_length_le (by omega),List.drop_of_length_le (by omega)] at hE2
    have hE3 := hide (show dval A = dval a + dval b by simpa [dval] using hE2)
    have hrd := hown.rd
    clear hE hE2 hc0 hjj hcz
    go_wp2_with fail
    refine (rtrim _ A _ hrd hsm.out).mono ?_
    rintro e w5 ⟨u,rfl,hu,hb5,ho5⟩
    obtain ⟨uo,ucap,rfl,-,-,-⟩ := Rd.form hu
    rw [hE3.out] at hu ⊢
    go_wp2
    go_ret
    exact ⟨.slice uo _ ucap,rfl,hu,Bel.to hbel hb5,fun k hk => (hown.lt k (ho5 k (own_len.trans hk))).1⟩
 ·have hK1 : a.length ≤ a.length := by omega
  have hK2 : b.length ≤ a.length := by omega
  go_enter Try.func35,Try.ntmps35
  go_wp2
  go_loopw [6,7,8] (fun vv cc jj wr => ∃ (j c : Nat) (A : List Nat) (bo : Option Addr) (cap2 : Nat),vv = .slice bo A.length cap2 ∧ jj = .int .i64 j ∧ cc = .int .i64 c ∧ c ≤ 1 ∧ j ≤ a.length + 1 ∧ Hid (A.length = j) ∧ A.length ≤ 1001 ∧ Hid (j = a.length + 1 → c = 0) ∧ Hid (DSmall A) ∧ Hid (dval A + 65536 ^ j * (c + dval (a.drop j) + dval (b.drop j)) = dval a + dval b) ∧ Own D64 wr w.heap.size 3 (.slice bo A.length cap2) A ∧ Below w.heap.size w wr) (fun _ _ j _ => a.length + 1 - (intOf j).toNat)
  case atStart => exact ⟨0,0,[],none,0,rfl,rfl,rfl,by omega,by omega,rfl,Nat.zero_le _,fun _ => rfl,(fun x hx => by cases hx),by show _ = _;simp [dval],Own.nil _ _ _,Below.refl _ _⟩
  case round =>
   obtain ⟨j,c,A,bo,cap2,rfl,rfl,rfl,hc1,hj,hAl,hA1,hc0,hsm,hE,hown,hbel⟩ := hrel
   by_cases hjl : j ≤ a.length
   ·have hra2 := hra.below hbel
    have hrb2 := hrb.below hbel
    have x1 := dgetD SA.out j
    have x2 := dgetD SB.out j
    have hE2 := hide (add_step hAl.out hE.out)
    have hz : j = a.length → (a.getD j 0 + b.getD j 0 + c) / 65536 = 0 := by
     intro h
     rw [dgetD0 (by omega),dgetD0 (by omega)];omega
    obtain ⟨p,hp⟩ : ∃ p,p = a.getD j 0 := ⟨_,rfl⟩
    obtain ⟨q,hq⟩ : ∃ q,q = b.getD j 0 := ⟨_,rfl⟩
    rw [← hp,← hq] at hE2 hz
    rw [← hp] at x1
    rw [← hq] at x2
    replace hp := hide hp
    replace hq := hide hq
    have hz2 := hide (show j + 1 = a.length + 1 → (p + q + c) / 65536 = 0 by intro h;exact hz (by omega))
    have hs2 := hide (dsmall_snoc hsm.out (show (p + q + c) % 65536 < 65536 by omega))
    have hAl3 : A.length = j := hAl.out
    have hAl2 : A.length + 1 ≤ 1001 := by omega
    have hAl4 := hide (show (A ++ [(p + q + c) % 65536]).length = j + 1 by rw [List.length_append,List.length_singleton,hAl3])
    clear hAl3 hz hE hAl
    go_wp2_with fail
    refine (digit_any _ a j _ hra2).mono ?_
    rintro e w2 ⟨rfl,rfl⟩
    rw [← hp.out]
    go_wp2_with fail
    refine (digit_any _ b j _ hrb2).mono ?_
    rintro e w2 ⟨rfl,rfl⟩
    rw [← hq.out]
    go_wp2_with (with_reducible refine wpList_append_rd _ rfl _ _ 51 rfl (V := D64) (fun _ => rfl) w.heap.size 3 (.int .i64 0) 8 Try.underlying51 infoInt rfl _ A rfl (hown.alloc _) _ [(p + q + c) % 65536] rfl ?_ ?_ ?_ ?_ ?_)
    case refine_1 => exact Rd.new _ rfl rfl (Nat.le_refl _) (by decide) (by simp)
    case refine_2 => simp;omega
    case refine_3 => simp;omega
    case refine_4 => have := hbel.size;simp;omega
    intro v4 w4 hown4 hg4 hv4
    have hsz3 := hbel.size
    have hb4 : Below w.heap.size w w4 := (Bel.al hbel _).grown hg4 (by simp;omega) (fun g hg => (hown.lt g hg).1)
    obtain ⟨bo4,cap4,rfl⟩ := hown4.shape
    have hq1 := hide (show (p + q + c) / 65536 ≤ 1 by omega)
    go_wp2
    go_roundw
    case rel => exact ⟨j + 1,(p + q + c) / 65536,_,bo4,cap4,rfl,by go_num,by go_num,hq1.out,by omega,hAl4,by simp;omega,hz2,hs2,hE2,hown4,hb4⟩
    case measure => simp [intOf];omega
   ·have hjj : j = a.length + 1 := by omega
    have hcz := hc0.out hjj
    have hE2 := hE.out
    rw [hcz,List.drop_of_length_le (by omega),List.drop_of_length_le (by omega)] at hE2
    have hE3 := hide (show dval A = dval a + dval b by simpa [dval] using hE2)
    have hrd := hown.rd
    clear hE hE2 hc0 hjj hcz
    go_wp2_with fail
    refine (rtrim _ A _ hrd hsm.out).mono ?_
    rintro e w5 ⟨u,rfl,hu,hb5,ho5⟩
    obtain ⟨uo,ucap,rfl,-,-,-⟩ := Rd.form hu
    rw [hE3.out] at hu ⊢
    go_wp2
    go_ret
    exact ⟨.slice uo _ ucap,rfl,hu,Bel.to hbel hb5,fun k hk => (hown.lt k (ho5 k (own_len.trans hk))).1⟩
theorem radd (va vb : Value) (m n : Nat) (w : World) (ha : DV w va m) (hb : DV w vb n) (la : (digs m).length ≤ 1000) (lb : (digs n).length ≤ 1000) :
  Calls Try.prog 35 #[va,vb] w (SomeDig (m + n) w) := by
 have := radd_lists va vb _ _ w ha hb (dsmall_digs m) (dsmall_digs n) la lb
 rw [dval_digs,dval_digs] at this
 exact this
def WholeB (n : Nat) (w : World) (e : Ending) (w' : World) : Prop := ∃ u,e = .returned (.tuple #[.agg #[u],.bool true]) ∧ NV w' u n ∧ Below w.heap.size w w'
theorem digs_limbs_len {n k : Nat} (h : (limbs n).length ≤ k) : (digs n).length ≤ 2 * k := by
 rw [← length_digs_lt]
 have := length_limbs_lt.2 h
 rw [Nat.pow_mul]
 exact this
theorem limbs_digs_len {n k : Nat} (h : (digs n).length ≤ 2 * k) : (limbs n).length ≤ k := by
 rw [← length_limbs_lt]
 have := length_digs_lt.2 h
 rw [Nat.pow_mul] at this
 exact this
theorem digs_step {l : List Nat} {i m : Nat} (hi : i < l.length) (h : l.drop i = digs m) : m ≠ 0 ∧ l[i] = m % 65536 ∧ l.drop (i + 1) = digs (m / 65536) := by
 have hm : m ≠ 0 := by
  rintro rfl
  rw [digs_zero,List.drop_eq_nil_iff] at h;omega
 rw [List.drop_eq_getElem_cons hi,digs_pos hm] at h
 injection h with h1 h2
 exact ⟨hm,h1,h2⟩
set_option maxHeartbeats 4000000 in
set_option maxRecDepth 100000 in
theorem whole_ok (v : Value) (n : Nat) (w : World) (h : DV w v n) (hn : (digs n).length ≤ 128) :
  Calls Try.prog 34 #[v] w (WholeB n w) := by
 unfold DV at h
 have hdv := hide (dval_digs n)
 have hsm := hide (dsmall_digs n)
 have hstart := hide (show ([] : List Nat) ++ limbs n = limbs n from rfl)
 have hl0 := hide (show (digs n).drop 0 = digs n from rfl)
 have hlim := hide (limbs_digs_len (k := 64) (by omega) : (limbs n).length ≤ 64)
 obtain ⟨ao,cap,rfl,-,-,-⟩ := Rd.form h
 go_enter Try.func34,Try.ntmps34
 go_wp2_with fail
 refine (rtrim _ (digs n) _ (h.alloc _) hsm.out).mono ?_
 rintro e w1 ⟨u,rfl,hu,hb1,-⟩
 rw [hdv.out] at hu
 have e0 : w1.cell? ⟨w.heap.size,0,none⟩ = some (.slice none 0 0) := Bel.cellOf hb1 (by go_simp)
 have g0 : w1.frozen? ⟨w.heap.size,0,none⟩ = false := by rw [hb1.frozen (by simp)];go_simp
 have hsz1 : w.heap.size < w1.heap.size := by have := hb1.size;simp at this;omega
 have hbw1 := Bel.one _ hb1
 clear h hb1 hdv
 unfold DV at hu
 obtain ⟨l,hl⟩ : ∃ l,l = digs n := ⟨_,rfl⟩
 rw [← hl] at hu hn hsm
 have hl0 := hide (show l.drop 0 = digs n from hl)
 clear hl
 obtain ⟨ao,cap,rfl,hlc,hcm,hr⟩ := Rd.form hu
 have hcm : cap ≤ 9223372036854775807 := by unfold maxLen at hcm;omega
 go_wp2
 have hrow0 : Row (w1.alloc (Obj.cells #[.slice none 0 0] 30)) w1.heap.size 30 [.slice none 0 0] := by
  have := Row.newOf (w := w1) (c := #[.slice none 0 0]) (cs := [.slice none 0 0]) 30 rfl
  simpa using this
 obtain ⟨W,hW⟩ : ∃ W,W = w1.alloc (Obj.cells #[.slice none 0 0] 30) := ⟨_,rfl⟩
 have hbW : Below w1.heap.size w1 W := by rw [hW];exact Bel.al (Below.refl _ _) _
 rw [← hW] at hrow0 ⊢
 clear hW
 have hstart2 := hide (show ([] : List Nat) ++ limbs n = limbs n from rfl)
 go_loopw [5] (fun t wr => ∃ (i m : Nat) (A : List Nat) (bo : Option Addr) (cap2 : Nat),t = .int .i64 i ∧ i ≤ 130 ∧ i ≤ l.length + 1 ∧ A.length ≤ i ∧ Hid (l.drop i = digs m) ∧ Hid (A ++ limbs m = limbs n) ∧
   Row wr w1.heap.size 30 [.slice bo A.length cap2] ∧ Own U32 wr (w1.heap.size + 1) 62 (.slice bo A.length cap2) A ∧ Below w1.heap.size w1 wr) (fun t _ => l.length + 1 - (intOf t).toNat)
 case atStart => exact ⟨0,n,[],none,0,rfl,by omega,by omega,Nat.zero_le _,hl0,hstart2,hrow0,Own.nil _ _ _,hbW⟩
 case round =>
  obtain ⟨i,m,A,bo,cap2,rfl,hi,hil,hA,hD,hE,hrow,hown,hbel⟩ := hrel
  have d1 := hrow.cell (i := 0) (by simp)
  have f1 := hrow.frozen 0
  simp only [List.getElem_cons_zero] at d1
  have hsz := hrow.lt
  by_cases hk : i < l.length
  ·obtain ⟨hm,hx,hD2⟩ := digs_step hk hD.out
   have hlm := limbs_pos hm
   have hE2 := hE.out
   rw [hlm] at hE2
   obtain ⟨b,off,rfl,hb,hc⟩ := hr.at_ hk
   have c1 := Bel.cellOf hbel (hc i hk)
   by_cases hk2 : i + 1 < l.length
   ·obtain ⟨hm2,hy,hD3⟩ := digs_step hk2 hD2
    have c2 := Bel.cellOf hbel (hc (i + 1) hk2)
    rw [Nat.div_div_eq_div_mul] at hD3
    have hmm : m % 4294967296 = l[i] + 65536 * l[i + 1] := by rw [hx,hy];omega
    have p1 : l[i] < 65536 := by omega
    have q1 : l[i + 1] < 65536 := by omega
    obtain ⟨p,hp⟩ : ∃ p,p = l[i] := ⟨_,rfl⟩
    obtain ⟨q,hq⟩ : ∃ q,q = l[i + 1] := ⟨_,rfl⟩
    rw [← hp,← hq] at hmm
    rw [← hp] at c1 p1
    rw [← hq] at c2 q1
    have hE3 := hide (show (A ++ [p + 65536 * q]) ++ limbs (m / 4294967296) = limbs n by rw [List.append_assoc,← hmm];exact hE2)
    have hD4 := hide (show l.drop (i + 2) = digs (m / 4294967296) from hD3)
    clear hmm hm2 hy hD3 hc hx hD2 hlm hE2 hE hD hm hp hq
    go_wp2_with (with_reducible refine wpList_append_rd _ rfl _ _ 28 rfl (V := U32) (fun _ => rfl) (w1.heap.size + 1) 62 (.int .u32 0) 4 Try.underlying28 infoU32 rfl _ A rfl (hown.alloc _) _ [p + 65536 * q] rfl ?_ ?_ ?_ ?_ ?_)
    case refine_1 => exact Rd.new _ rfl rfl (Nat.le_refl _) (by decide) (by simp)
    case refine_2 => simp;omega
    case refine_3 => simp;omega
    case refine_4 => simp;omega
    intro v4 w4 hown4 hg4 hv4
    have hne1 : some (w1.heap.size) ≠ (Value.slice bo A.length cap2).ownBlock := fun he => by
     have := (hown.lt _ he.symm).1;omega
    have hrow4 := (hrow.alloc (Obj.cells #[Value.int IntKind.u32 ((p : Int) + 65536 * (q : Int))] 62)).grown hg4 hne1
    have hb4 : Below w1.heap.size w1 w4 := (Bel.al hbel _).grown hg4 (by simp;omega) (fun g hg => by have := (hown.lt g hg).1;omega)
    obtain ⟨ao4,cap4,rfl⟩ := hown4.shape
    have hl1 : (A ++ [p + 65536 * q]).length = A.length + 1 := by simp
    rw [hl1] at hown4
    have d4 := hrow4.cell (i := 0) (by simp)
    have e4 := hrow4.frozen 0
    simp only [List.getElem_cons_zero] at d4
    have hown5 := hown4.farRow hrow4 (by decide) 0 (.slice ao4 (A.length + 1) cap4)
    have hrow5 := hrow4.set 0 (.slice ao4 (A.length + 1) cap4)
    replace hl1 := hide hl1
    have hb5 := Bel.st hb4 (p := ⟨w1.heap.size,0,none⟩) (by simp) (.slice ao4 (A.length + 1) cap4)
    clear c1 c2 d1 f1
    go_wp2
    go_roundw
    case rel =>
     refine ⟨i + 2,m / 4294967296,A ++ [p + 65536 * q],ao4,cap4,by go_num,by omega,by omega,?_,hD4,hE3,by rw [hl1.out];exact hrow5,by rw [hl1.out];exact hown5,hb5⟩
     rw [hl1.out];omega
    case measure => simp [intOf];omega
   ·have hD3 : m / 65536 = 0 := by
     rw [List.drop_of_length_le (by omega)] at hD2
     rcases Nat.eq_zero_or_pos (m / 65536) with h | h
     ·exact h
     ·rw [digs_pos (by omega)] at hD2;cases hD2
    have hmm : m % 4294967296 = l[i] := by rw [hx];omega
    have p1 : l[i] < 65536 := by omega
    obtain ⟨p,hp⟩ : ∃ p,p = l[i] := ⟨_,rfl⟩
    rw [← hp] at hmm
    rw [← hp] at c1 p1
    have hE3 := hide (show (A ++ [p]) ++ limbs (m / 4294967296) = limbs n by rw [List.append_assoc,← hmm];exact hE2)
    have hD4 := hide (show l.drop (i + 2) = digs (m / 4294967296) by rw [show m / 4294967296 = 0 by omega,digs_zero,List.drop_of_length_le (by omega)])
    clear hmm hD3 hc hx hD2 hlm hE2 hE hD hm hp
    go_wp2_with (with_reducible refine wpList_append_rd _ rfl _ _ 28 rfl (V := U32) (fun _ => rfl) (w1.heap.size + 1) 62 (.int .u32 0) 4 Try.underlying28 infoU32 rfl _ A rfl (hown.alloc _) _ [p] rfl ?_ ?_ ?_ ?_ ?_)
    case refine_1 => exact Rd.new _ rfl rfl (Nat.le_refl _) (by decide) (by simp)
    case refine_2 => simp;omega
    case refine_3 => simp;omega
    case refine_4 => simp;omega
    intro v4 w4 hown4 hg4 hv4
    have hne1 : some (w1.heap.size) ≠ (Value.slice bo A.length cap2).ownBlock := fun he => by
     have := (hown.lt _ he.symm).1;omega
    have hrow4 := (hrow.alloc (Obj.cells #[Value.int IntKind.u32 (p : Int)] 62)).grown hg4 hne1
    have hb4 : Below w1.heap.size w1 w4 := (Bel.al hbel _).grown hg4 (by simp;omega) (fun g hg => by have := (hown.lt g hg).1;omega)
    obtain ⟨ao4,cap4,rfl⟩ := hown4.shape
    have hl1 : (A ++ [p]).length = A.length + 1 := by simp
    rw [hl1] at hown4
    have d4 := hrow4.cell (i := 0) (by simp)
    have e4 := hrow4.frozen 0
    simp only [List.getElem_cons_zero] at d4
    have hown5 := hown4.farRow hrow4 (by decide) 0 (.slice ao4 (A.length + 1) cap4)
    have hrow5 := hrow4.set 0 (.slice ao4 (A.length + 1) cap4)
    replace hl1 := hide hl1
    have hb5 := Bel.st hb4 (p := ⟨w1.heap.size,0,none⟩) (by simp) (.slice ao4 (A.length + 1) cap4)
    clear c1 d1 f1
    go_wp2
    go_roundw
    case rel =>
     refine ⟨i + 2,m / 4294967296,A ++ [p],ao4,cap4,by go_num,by omega,by omega,?_,hD4,hE3,by rw [hl1.out];exact hrow5,by rw [hl1.out];exact hown5,hb5⟩
     rw [hl1.out];omega
    case measure => simp [intOf];omega
  ·have hm0 : m = 0 := by
    have := hD.out
    rw [List.drop_of_length_le (by omega)] at this
    rcases Nat.eq_zero_or_pos m with h | h
    ·exact h
    ·rw [digs_pos (by omega)] at this;cases this
   subst hm0
   have hE2 := hE.out
   rw [limbs_zero,List.append_nil] at hE2
   have hnv : NV wr (.slice bo A.length cap2) n := by show Rd _ _ _ _;rw [← hE2];exact hown.rd
   have c0 := Bel.cellOf hbel e0
   have f0 := Bel.frozenOf hbel e0 g0
   have hfin := hnv.setNe c0 (fun _ h => by cases h) (.slice bo A.length cap2)
   have hbel2 := Bel.st (Bel.to hbw1 hbel) (p := ⟨w.heap.size,0,none⟩) (Nat.le_refl _) (.slice bo A.length cap2)
   clear hE2 hE hA hD hnv
   go_wp2
   refine bodyPost_ret (v := .tuple #[.agg #[.slice bo A.length cap2],.bool true]) (by simp [results,Try.results34,go_sem,c0]) rfl ⟨_,rfl,hfin,hbel2⟩
def DrewB (v : Value) (w : World) (e : Ending) (w' : World) : Prop := e = .returned v ∧ Below w.heap.size w w'
theorem dval_split (a : List Nat) (i : Nat) (h : i ≤ a.length) : dval a = dval (a.take i) + 65536 ^ i * dval (a.drop i) := by
 have := dval_append (a.take i) (a.drop i)
 rw [List.take_append_drop,List.length_take,Nat.min_eq_left h] at this
 exact this
theorem dval_ltd {a b : List Nat} (sa : DSmall a) {i : Nat} (ha : i < a.length) (hb : i < b.length) (he : dval (a.drop (i + 1)) = dval (b.drop (i + 1))) (hlt : a[i] < b[i]) : dval a < dval b := by
 have e1 := dval_split a i (by omega)
 have e2 := dval_split b i (by omega)
 rw [List.drop_eq_getElem_cons ha,dval] at e1
 rw [List.drop_eq_getElem_cons hb,dval,← he] at e2
 have h1 := dval_lt (dsmall_take sa i)
 rw [List.length_take,Nat.min_eq_left (by omega)] at h1
 have h2 := Nat.mul_le_mul_left (65536 ^ i) (show a[i] + 65536 * dval (a.drop (i + 1)) + 1 ≤ b[i] + 65536 * dval (a.drop (i + 1)) by omega)
 rw [Nat.mul_add,Nat.mul_one] at h2
 omega
theorem digs_len_lt {m n : Nat} (h : (digs m).length < (digs n).length) : m < n := by
 have h1 := length_digs_lt.2 (Nat.le_refl (digs m).length)
 have h2 : ¬ n < 65536 ^ (digs m).length := fun h' => by have := length_digs_lt.1 h';omega
 omega
def cmpV (m n : Nat) : Int := if m < n then -1 else if n < m then 1 else 0
set_option maxHeartbeats 2000000 in
set_option maxRecDepth 100000 in
theorem rcmp (va vb : Value) (m n : Nat) (w : World) (ha : DV w va m) (hb : DV w vb n) :
  Calls Try.prog 40 #[va,vb] w (DrewB (.int .i64 (cmpV m n)) w) := by
 unfold DV at ha hb
 have sa := hide (dsmall_digs m)
 have sb := hide (dsmall_digs n)
 have em := hide (dval_digs m)
 have en := hide (dval_digs n)
 have l1 := hide (digs_len_lt (m := m) (n := n))
 have l2 := hide (digs_len_lt (m := n) (n := m))
 have c1 := hide (show m < n → cmpV m n = -1 by intro h;unfold cmpV;rw [if_pos h])
 have c2 := hide (show n < m → cmpV m n = 1 by intro h;unfold cmpV;rw [if_neg (by omega),if_pos h])
 have c3 := hide (show m = n → cmpV m n = 0 by intro h;unfold cmpV;rw [if_neg (by omega),if_neg (by omega)])
 obtain ⟨a,hae⟩ : ∃ a,a = digs m := ⟨_,rfl⟩
 obtain ⟨b,hbe⟩ : ∃ b,b = digs n := ⟨_,rfl⟩
 rw [← hae] at ha sa em l1 l2
 rw [← hbe] at hb sb en l1 l2
 clear hae hbe
 obtain ⟨aa,ca,rfl,hla,hca,hra⟩ := Rd.form ha
 obtain ⟨ab,cb,rfl,hlb,hcb,hrb⟩ := Rd.form hb
 have hca' : ca ≤ 9223372036854775807 := by unfold maxLen at hca;omega
 have hcb' : cb ≤ 9223372036854775807 := by unfold maxLen at hcb;omega
 clear ha hb
 by_cases hl : a.length = b.length
 ·have l3 : ((a.length : Int) != b.length) = false := by simp;omega
  have k1 : a.length ≤ b.length := by omega
  have k2 : b.length ≤ a.length := by omega
  replace hl := hide hl
  go_enter Try.func40,Try.ntmps40
  go_wp2
  go_loopw [5] (fun t wr => ∃ (j d : Nat),j ≤ a.length ∧ t = .int .i64 ((j : Int) - 1) ∧ wr = w.drewN d ∧ Hid (dval (a.drop j) = dval (b.drop j))) (fun t _ => (intOf t + 1).toNat)
  case atStart => exact ⟨a.length,0,Nat.le_refl _,rfl,rfl,by show _ = _;rw [List.drop_of_length_le (Nat.le_refl _),List.drop_of_length_le (by omega)]⟩
  case round =>
   obtain ⟨j,d,hj,rfl,rfl,hE⟩ := hrel
   by_cases hj0 : j = 0
   ·subst hj0
    have hmn : m = n := by have := hE.out;rw [List.drop_zero,List.drop_zero,em.out,en.out] at this;exact this
    have c4 := hide (c3.out hmn)
    clear hmn hE
    go_wp2
    go_ret
    exact ⟨by rw [c4.out];rfl,Bel.drN (Below.refl _ _) _⟩
   ·obtain ⟨i,rfl⟩ : ∃ i,j = i + 1 := ⟨j - 1,by omega⟩
    have hi1 : i < a.length := by omega
    have hi2 : i < b.length := by omega
    obtain ⟨ba,offa,rfl,hba,hcella⟩ := hra.at_ hi1
    obtain ⟨bb,offb,rfl,hbb,hcellb⟩ := hrb.at_ hi2
    have d1 := hcella _ hi1
    have d2 := hcellb _ hi2
    clear hcella hcellb
    by_cases hlt : a[i] < b[i]
    ·have c4 := hide (c1.out (by have := dval_ltd sa.out hi1 hi2 hE.out hlt;rw [em.out,en.out] at this;exact this))
     clear hE
     go_wp2
     go_quiet (fail)
     go_wp2
     go_ret
     exact ⟨by rw [c4.out];rfl,Bel.drN (Bel.drN (Below.refl _ _) _) _⟩
    ·by_cases hgt : b[i] < a[i]
     ·have c4 := hide (c2.out (by have := dval_ltd sb.out hi2 hi1 hE.out.symm hgt;rw [em.out,en.out] at this;exact this))
      clear hE
      go_wp2
      go_quiet (fail)
      go_wp2
      go_quiet (fail)
      go_wp2
      go_ret
      exact ⟨by rw [c4.out];rfl,Bel.drN (Bel.drN (Bel.drN (Below.refl _ _) _) _) _⟩
     ·have hE2 := hide (show dval (a.drop i) = dval (b.drop i) by rw [List.drop_eq_getElem_cons hi1,List.drop_eq_getElem_cons hi2,dval,dval,hE.out];omega)
      go_wp2
      go_quiet (fail)
      go_wp2
      go_quiet (fail)
      go_wp2
      go_roundw
      case rel => exact ⟨i,_,by omega,by go_num,rfl,hE2⟩
      case measure => first | (simp [intOf];done) | (simp [intOf];omega)
 ·have l3 : ((a.length : Int) != b.length) = true := by simp;omega
  by_cases hlt : a.length < b.length
  ·have c4 := hide (c1.out (l1.out hlt))
   clear hl
   go_enter Try.func40,Try.ntmps40
   go_wp2
   go_ret
   exact ⟨by rw [c4.out];rfl,Below.refl _ _⟩
  ·have c4 := hide (c2.out (l2.out (by omega)))
   clear hl
   go_enter Try.func40,Try.ntmps40
   go_wp2
   go_ret
   exact ⟨by rw [c4.out];rfl,Below.refl _ _⟩
theorem sub_step {A a b : List Nat} {i c c' x S T : Nat} (hl : A.length = i) (h : dval A + 65536 ^ i * dval (a.drop i) + S = T + 65536 ^ i * (c + dval (b.drop i))) (hx : x + b.getD i 0 + c = a.getD i 0 + 65536 * c') :
  dval (A ++ [x]) + 65536 ^ (i + 1) * dval (a.drop (i + 1)) + S = T + 65536 ^ (i + 1) * (c' + dval (b.drop (i + 1))) := by
 rw [dval_drop a i,dval_drop b i] at h
 rw [dval_snoc,hl,Nat.pow_succ]
 obtain ⟨p,hp⟩ : ∃ p,p = a.getD i 0 := ⟨_,rfl⟩
 obtain ⟨q,hq⟩ : ∃ q,q = b.getD i 0 := ⟨_,rfl⟩
 rw [← hp,← hq] at hx
 rw [← hp,← hq] at h
 clear hp hq hl
 have h2 := congrArg (fun t => 65536 ^ i * t) hx
 simp only [Nat.mul_add] at h2 h ⊢
 grind
theorem sub_end {v B T P z : Nat} (h : v + B = T + P * z) (hv : v < P) (hB : B ≤ T) : v = T - B := by
 rcases Nat.eq_zero_or_pos z with h0 | h0
 ·subst h0;simp at h;omega
 ·have := Nat.mul_le_mul_left P h0
  omega
set_option maxHeartbeats 4000000 in
set_option maxRecDepth 100000 in
theorem rsub (va vb : Value) (m n : Nat) (w : World) (ha : DV w va m) (hb : DV w vb n) (hmn : n ≤ m) (lm : (digs m).length ≤ 1000) :
  Calls Try.prog 95 #[va,vb] w (SomeDig (m - n) w) := by
 unfold DV at ha hb
 have SA := hide (dsmall_digs m)
 have SB := hide (dsmall_digs n)
 have em := hide (dval_digs m)
 have en := hide (dval_digs n)
 obtain ⟨a,hae⟩ : ∃ a,a = digs m := ⟨_,rfl⟩
 obtain ⟨b,hbe⟩ : ∃ b,b = digs n := ⟨_,rfl⟩
 rw [← hae] at ha SA em lm
 rw [← hbe] at hb SB en
 clear hae hbe
 obtain ⟨aa,ca,rfl,hla,hca,hra⟩ := Rd.form ha
 obtain ⟨ab,cb,rfl,hlb,hcb,hrb⟩ := Rd.form hb
 have hca' : ca ≤ 9223372036854775807 := by unfold maxLen at hca;omega
 have hcb' : cb ≤ 9223372036854775807 := by unfold maxLen at hcb;omega
 clear ha hb
 go_enter Try.func95,Try.ntmps95
 go_wp2
 go_loopw [5,6,7] (fun vv cc jj wr => ∃ (j c : Nat) (A : List Nat) (bo : Option Addr) (cap2 : Nat),vv = .slice bo A.length cap2 ∧ jj = .int .i64 j ∧ cc = .int .i64 c ∧ c ≤ 1 ∧ j ≤ a.length ∧ Hid (A.length = j) ∧ A.length ≤ 1000 ∧ Hid (DSmall A) ∧ Hid (dval A + 65536 ^ j * dval (a.drop j) + n = m + 65536 ^ j * (c + dval (b.drop j))) ∧ Own D64 wr w.heap.size 3 (.slice bo A.length cap2) A ∧ Below w.heap.size w wr) (fun _ _ j _ => a.length - (intOf j).toNat)
 case atStart => exact ⟨0,0,[],none,0,rfl,rfl,rfl,by omega,Nat.zero_le _,rfl,Nat.zero_le _,(fun x hx => by cases hx),by show _ = _;simp [dval,em.out,en.out],Own.nil _ _ _,Below.refl _ _⟩
 case round =>
  obtain ⟨j,c,A,bo,cap2,rfl,rfl,rfl,hc1,hj,hAl,hA1,hsm,hE,hown,hbel⟩ := hrel
  by_cases hjl : j < a.length
  ·have hra2 := hra.below hbel
   have hrb2 := hrb.below hbel
   have x1 := dgetD SA.out j
   have x2 := dgetD SB.out j
   obtain ⟨ba,offa,rfl,hba,hcella⟩ := hra2.at_ hjl
   have d1 := hcella _ hjl
   have hgd : a.getD j 0 = a[j] := by rw [List.getD_eq_getElem?_getD,List.getElem?_eq_getElem hjl];rfl
   rw [← hgd] at d1
   clear hcella hgd
   have hAl3 : A.length = j := hAl.out
   have hAl2 : A.length + 1 ≤ 1000 := by omega
   have hstep := hide (fun (x c' : Nat) => sub_step (x := x) (c' := c') hAl.out hE.out)
   obtain ⟨p,hp⟩ : ∃ p,p = a.getD j 0 := ⟨_,rfl⟩
   obtain ⟨q,hq⟩ : ∃ q,q = b.getD j 0 := ⟨_,rfl⟩
   rw [← hp] at x1 d1
   rw [← hq] at x2
   rw [← hp,← hq] at hstep
   replace hp := hide hp
   replace hq := hide hq
   have hAl5 : ∀ x,(A ++ [x]).length = j + 1 := fun x => by rw [List.length_append,List.length_singleton,hAl3]
   replace hAl5 := hide hAl5
   clear hAl3 hE hAl
   have s1 : IntKind.i64.wrap ((p : Int) - q) = (p : Int) - q := IntWalk.i64_in _ (by omega)
   have s2 : IntKind.i64.wrap ((p : Int) - q - c) = (p : Int) - q - c := IntWalk.i64_in _ (by omega)
   go_wp2_with fail
   go_region_held3 (fun X => X.cell? ⟨ba,offa + j,none⟩ = some (D64 p)) (go_keep) (first
    | (go_at_call 68;refine (digit_any _ b j _ (by exact hrb2)).mono ?_;rintro e w2 ⟨rfl,rfl⟩;rw [← hq.out]))
   obtain ⟨y,hy⟩ : ∃ y : Int,y = (p : Int) - q - c := ⟨_,rfl⟩
   rw [← hy]
   clear s1 s2
   by_cases hneg : p < q + c
   ·have t1 : y < 0 := by omega
    have t3 : -65536 ≤ y := by omega
    obtain ⟨x,hx,hx1⟩ : ∃ x : Nat,(x : Int) = y + 65536 ∧ x < 65536 := ⟨p + 65536 - q - c,by omega,by omega⟩
    have hE2 := hide (hstep.out x 1 (by omega))
    have hs2 := hide (dsmall_snoc hsm.out hx1)
    have hAl4 := hide (hAl5.out x)
    obtain ⟨wd,hwd⟩ : ∃ wd,wd = wr.drew := ⟨_,rfl⟩
    have hown2 : Own D64 wd w.heap.size 3 (.slice bo A.length cap2) A := by rw [hwd];exact hown
    have hbel2 : Below w.heap.size w wd := by rw [hwd];exact Below.drew hbel
    rw [← hwd]
    clear hwd
    replace hy := hide hy
    replace hx := hide hx
    clear hstep hown hbel hp hq hAl5 d1 hneg
    go_wp2_with (with_reducible refine wpList_append_rd _ rfl _ _ 51 rfl (V := D64) (fun _ => rfl) w.heap.size 3 (.int .i64 0) 8 Try.underlying51 infoInt rfl _ A rfl (hown2.alloc _) _ [x] rfl ?_ ?_ ?_ ?_ ?_)
    case refine_1 => exact Rd.new _ rfl rfl (Nat.le_refl _) (by decide) (by simp [hx.out])
    case refine_2 => simp;omega
    case refine_3 => simp;omega
    case refine_4 => have := hbel2.size;simp;omega
    intro v4 w4 hown4 hg4 hv4
    have hsz3 := hbel2.size
    have hb4 : Below w.heap.size w w4 := (Bel.al hbel2 _).grown hg4 (by simp;omega) (fun g hg => (hown2.lt g hg).1)
    obtain ⟨bo4,cap4,rfl⟩ := hown4.shape
    go_wp2
    go_roundw
    case rel => exact ⟨j + 1,1,A ++ [x],bo4,cap4,rfl,by go_num,rfl,by omega,by omega,hAl4,by simp;omega,hs2,hE2,hown4,hb4⟩
    case measure => simp [intOf];omega
   ·have t1 : 0 ≤ y := by omega
    have t3 : y < 65536 := by omega
    obtain ⟨x,hx,hx1⟩ : ∃ x : Nat,(x : Int) = y ∧ x < 65536 := ⟨p - q - c,by omega,by omega⟩
    have hE2 := hide (hstep.out x 0 (by omega))
    have hs2 := hide (dsmall_snoc hsm.out hx1)
    have hAl4 := hide (hAl5.out x)
    obtain ⟨wd,hwd⟩ : ∃ wd,wd = wr.drew := ⟨_,rfl⟩
    have hown2 : Own D64 wd w.heap.size 3 (.slice bo A.length cap2) A := by rw [hwd];exact hown
    have hbel2 : Below w.heap.size w wd := by rw [hwd];exact Below.drew hbel
    rw [← hwd]
    clear hwd
    replace hy := hide hy
    replace hx := hide hx
    clear hstep hown hbel hp hq hAl5 d1 hneg
    go_wp2_with (with_reducible refine wpList_append_rd _ rfl _ _ 51 rfl (V := D64) (fun _ => rfl) w.heap.size 3 (.int .i64 0) 8 Try.underlying51 infoInt rfl _ A rfl (hown2.alloc _) _ [x] rfl ?_ ?_ ?_ ?_ ?_)
    case refine_1 => exact Rd.new _ rfl rfl (Nat.le_refl _) (by decide) (by simp [hx.out])
    case refine_2 => simp;omega
    case refine_3 => simp;omega
    case refine_4 => have := hbel2.size;simp;omega
    intro v4 w4 hown4 hg4 hv4
    have hsz3 := hbel2.size
    have hb4 : Below w.heap.size w w4 := (Bel.al hbel2 _).grown hg4 (by simp;omega) (fun g hg => (hown2.lt g hg).1)
    obtain ⟨bo4,cap4,rfl⟩ := hown4.shape
    go_wp2
    go_roundw
    case rel => exact ⟨j + 1,0,A ++ [x],bo4,cap4,rfl,by go_num,rfl,by omega,by omega,hAl4,by simp;omega,hs2,hE2,hown4,hb4⟩
    case measure => simp [intOf];omega
  ·have hjj : j = a.length := by omega
   have hE2 := hE.out
   rw [hjj,List.drop_of_length_le (Nat.le_refl _),show dval [] = 0 from rfl,Nat.mul_zero,Nat.add_zero] at hE2
   have hv := dval_lt hsm.out
   rw [hAl.out,hjj] at hv
   have hE3 := hide (sub_end hE2 hv hmn)
   have hrd := hown.rd
   clear hE hE2 hv
   go_wp2_with fail
   refine (rtrim _ A _ hrd hsm.out).mono ?_
   rintro e w5 ⟨u,rfl,hu,hb5,ho5⟩
   obtain ⟨uo,ucap,rfl,-,-,-⟩ := Rd.form hu
   rw [hE3.out] at hu ⊢
   go_wp2
   go_ret
   exact ⟨.slice uo _ ucap,rfl,hu,Bel.to hbel hb5,fun k hk => (hown.lt k (ho5 k (own_len.trans hk))).1⟩
theorem dsmall_set {L : List Nat} (h : DSmall L) (j : Nat) {v : Nat} (hv : v < 65536) : DSmall (L.set j v) := by
 intro y hy
 rcases List.mem_or_eq_of_mem_set hy with hy | rfl
 ·exact h y hy
 ·exact hv
theorem dsmall_zeros (n : Nat) : DSmall (List.replicate n 0) := by
 intro x hx
 rw [(List.mem_replicate.1 hx).2];omega
end Go.Proofs.Ytldikghldcefcaa
end
section
set_option linter.unusedVariables false
set_option linter.unusedSimpArgs false
namespace Go.Proofs.Ytldikghldcefcaa
def bitsL : List Nat := [32768,16384,8192,4096,2048,1024,512,256,128,64,32,16,8,4,2,1]
def unit (b : Nat) : Nat := if b = 0 then 1 else 2 * b
theorem bit_arith {b p top Qi rest C : Nat} (hb : b ∈ bitsL) (hp : p < 65536) (hq : Qi < 65536) (hQ : Qi + 65536 * rest = 2 * b * C) :
  (top * 65536 + p) / b = 2 * ((top * 65536 + p) / (2 * b)) + p / b % 2 ∧ Qi + b < 65536 ∧ 0 < b ∧ b ≤ 32768 ∧ (b / 2 = 0 ∨ b / 2 ∈ bitsL) ∧ unit (b / 2) = b := by
 simp only [bitsL,List.mem_cons,List.not_mem_nil,or_false] at hb
 rcases hb with rfl | rfl | rfl | rfl | rfl | rfl | rfl | rfl | rfl | rfl | rfl | rfl | rfl | rfl | rfl | rfl
 all_goals exact ⟨by omega,by omega,by omega,by omega,by decide,by decide⟩
def DivS (n top p i : Nat) (Q : List Nat) (b R : Nat) : Prop :=
 R < n ∧ DSmall Q ∧ (b = 0 ∨ b ∈ bitsL) ∧ (∀ t,t < i → Q.getD t 0 = 0) ∧ ∃ C,n * C + R = (top * 65536 + p) / unit b ∧ dval (Q.drop i) = unit b * C
def DivO (n : Nat) (a : List Nat) (j : Nat) (Q : List Nat) (R : Nat) : Prop :=
 R < n ∧ DSmall Q ∧ (∀ t,t < j → Q.getD t 0 = 0) ∧ n * dval (Q.drop j) + R = dval (a.drop j)
theorem div_begin {n : Nat} {a Q : List Nat} {i R : Nat} (h : DivO n a (i + 1) Q R) (p : Nat) (hp : p < 65536) : DivS n (dval (a.drop (i + 1))) p i Q 32768 R := by
 obtain ⟨h1,h2,h3,h4⟩ := h
 refine ⟨h1,h2,.inr (by decide),fun t ht => h3 t (by omega),dval (Q.drop (i + 1)),?_,?_⟩
 ·rw [show unit 32768 = 65536 by decide,h4];omega
 ·rw [show unit 32768 = 65536 by decide,dval_drop,h3 i (by omega)];omega
theorem div_over {n : Nat} {a Q : List Nat} {i R : Nat} (h : DivS n (dval (a.drop (i + 1))) (a.getD i 0) i Q 0 R) : DivO n a i Q R := by
 obtain ⟨h1,h2,h3,h4,C,h5,h6⟩ := h
 rw [show unit 0 = 1 by decide] at h5 h6
 rw [Nat.one_mul] at h6
 refine ⟨h1,h2,h4,?_⟩
 rw [h6,h5,dval_drop a i];omega
theorem div_round {n top p i : Nat} {Q : List Nat} {b R : Nat} (hi : i < Q.length) (hp : p < 65536) (h : DivS n top p i Q b R) (hb : b ≠ 0) :
  0 < b ∧ b ≤ 32768 ∧ Q[i] + b < 65536 ∧
  (2 * R + p / b % 2 < n → DivS n top p i Q (b / 2) (2 * R + p / b % 2)) ∧
  (n ≤ 2 * R + p / b % 2 → DivS n top p i (Q.set i (Q[i] + b)) (b / 2) (2 * R + p / b % 2 - n)) := by
 obtain ⟨h1,h2,h3,h4,C,h5,h6⟩ := h
 have hm : b ∈ bitsL := by rcases h3 with h | h;exact absurd h hb;exact h
 have hu : unit b = 2 * b := by unfold unit;rw [if_neg hb]
 rw [hu] at h5 h6
 have hd := h6
 rw [List.drop_eq_getElem_cons hi,dval] at hd
 obtain ⟨a1,a2,a3,a4,a5,a6⟩ := bit_arith (top := top) hm hp (h2 _ (List.getElem_mem hi)) hd
 obtain ⟨X,hX⟩ : ∃ X,X = (top * 65536 + p) / (2 * b) := ⟨_,rfl⟩
 obtain ⟨Y,hY⟩ : ∃ Y,Y = (top * 65536 + p) / b := ⟨_,rfl⟩
 obtain ⟨e,he⟩ : ∃ e,e = p / b % 2 := ⟨_,rfl⟩
 have he2 : e < 2 := by omega
 rw [← hX] at h5 a1
 rw [← hY,← he] at a1
 rw [← he]
 have hnC : n * (2 * C) = 2 * (n * C) := by rw [Nat.mul_left_comm]
 have hnC1 : n * (2 * C + 1) = 2 * (n * C) + n := by rw [Nat.mul_add,hnC,Nat.mul_one]
 have hbC : b * (2 * C) = 2 * b * C := by rw [← Nat.mul_assoc,Nat.mul_comm b 2]
 refine ⟨a3,a4,a2,fun hlt => ⟨hlt,h2,a5,h4,2 * C,?_,?_⟩,fun hge => ⟨by omega,dsmall_set h2 i a2,a5,?_,2 * C + 1,?_,?_⟩⟩
 ·rw [a6,← hY];omega
 ·rw [a6,h6,hbC]
 ·intro t ht
  rw [List.getD_eq_getElem?_getD,List.getElem?_set_ne (by omega),← List.getD_eq_getElem?_getD]
  exact h4 t ht
 ·rw [a6,← hY,hnC1];omega
 ·rw [a6,List.drop_eq_getElem_cons (by rw [List.length_set];exact hi),dval,List.getElem_set_self,List.drop_set_of_lt (by omega),Nat.mul_add,hbC,Nat.mul_one]
  omega
theorem div_end {n : Nat} {a Q : List Nat} {R : Nat} (hn : 0 < n) (h : DivO n a 0 Q R) : dval Q = dval a / n ∧ R = dval a % n := by
 obtain ⟨h1,h2,h3,h4⟩ := h
 rw [List.drop_zero,List.drop_zero] at h4
 rw [← h4]
 exact ⟨by rw [Nat.mul_add_div hn,Nat.div_eq_of_lt h1];omega,by rw [Nat.mul_add_mod,Nat.mod_eq_of_lt h1]⟩
theorem div_start {n : Nat} (hn : 0 < n) (a : List Nat) : DivO n a a.length (List.replicate a.length 0) 0 := by
 refine ⟨hn,dsmall_zeros _,fun t ht => ?_,?_⟩
 ·rw [List.getD_eq_getElem?_getD,List.getElem?_replicate,if_pos ht];rfl
 ·rw [List.drop_of_length_le (by simp),List.drop_of_length_le (Nat.le_refl _)];rfl
end Go.Proofs.Ytldikghldcefcaa
end
section
open Go.RowKit
set_option linter.unusedVariables false
set_option linter.unusedSimpArgs false
namespace Go.Proofs.Ytldikghldcefcaa
def DivB (q r : Nat) (w : World) (e : Ending) (w' : World) : Prop := ∃ u v,e = .returned (.tuple #[u,v]) ∧ DV w' u q ∧ DV w' v r ∧ Below w.heap.size w w'
theorem digs_len_le {m n : Nat} (h : m ≤ n) : (digs m).length ≤ (digs n).length := by
 rcases Nat.lt_or_ge (digs n).length (digs m).length with h1 | h1
 ·have := digs_len_lt h1;omega
 ·exact h1
theorem digs_len_two {m n : Nat} (h : m ≤ 65536 * n) : (digs m).length ≤ (digs n).length + 1 := by
 by_cases hm : m = 0
 ·subst hm;rw [digs_zero];simp
 ·rw [digs_pos hm,List.length_cons]
  have := digs_len_le (m := m / 65536) (n := n) (by omega)
  omega
theorem w64_div (p bt z : Nat) (hz : z = p / bt) (hp : p < 65536) : wrap64 ((p : Int) / (bt : Int)) = (z : Int) := by
 have h : z ≤ p := by rw [hz];exact Nat.div_le_self _ _
 rw [← Int.natCast_ediv,← hz]
 exact IntWalk.wrap64_in (z : Int) (by omega)
theorem tmod_two (z : Nat) : ((z : Int).tmod 2 == 1) = decide (z % 2 = 1) := by
 have ht : (z : Int).tmod 2 = ((z % 2 : Nat) : Int) := by
  rw [Int.tmod_eq_emod_of_nonneg (Int.natCast_nonneg z)];exact (Int.natCast_emod z 2).symm
 rw [ht]
 rcases Nat.mod_two_eq_zero_or_one z with h | h <;> rw [h] <;> decide
set_option maxHeartbeats 4000000 in
set_option maxRecDepth 100000 in
theorem rdivide (va vb : Value) (m n : Nat) (w : World) (ha : DV w va m) (hb : DV w vb n) (hn : 0 < n) (lm : (digs m).length ≤ 900) (ln : (digs n).length ≤ 900) :
  Calls Try.prog 96 #[va,vb] w (DivB (m / n) (m % n) w) := by
 unfold DV at ha hb
 have SA := hide (dsmall_digs m)
 have em := hide (dval_digs m)
 have hl2 := hide (fun x (h : x ≤ 65536 * n) => digs_len_two (m := x) h)
 obtain ⟨a,hae⟩ : ∃ a,a = digs m := ⟨_,rfl⟩
 rw [← hae] at ha SA em lm
 clear hae
 obtain ⟨aa,ca,rfl,hla,hca,hra⟩ := Rd.form ha
 obtain ⟨ab,nb,cb,rfl⟩ := Rd.shape hb
 have hca' : ca ≤ 9223372036854775807 := by unfold maxLen at hca;omega
 clear ha
 have hbD : DV w (.slice ab nb cb) n := hb
 clear hb
 have hst0 := hide (div_start hn a)
 go_enter Try.func96,Try.ntmps96
 go_wp2_with (with_reducible refine wpList_make_row _ rfl _ _ 51 rfl 3 (.int .i64 0) 8 Try.underlying51 infoInt rfl .i64 .i64 _ _ a.length a.length rfl rfl (by omega) (by omega) (Nat.le_refl _) (by omega) (by omega) ?_;intro w2 hrow hb2 hz2)
 obtain ⟨g,hg⟩ : ∃ g,g = w.heap.size := ⟨_,rfl⟩
 have hgs : w.heap.size ≤ g := by omega
 have hgl := hrow.lt
 rw [← hg] at hrow hgl ⊢
 clear hz2 hg
 go_wp2
 go_loopw [7,8] (fun rr t wr => ∃ (j R : Nat) (Q : List Nat) (bo : Option Addr) (bn bc : Nat),rr = .slice bo bn bc ∧ t = .int .i64 ((j : Int) - 1) ∧ j ≤ a.length ∧ Row wr g 3 (Q.map D64) ∧ Hid (Q.length = a.length) ∧ Hid (DivO n a j Q R) ∧ DV wr (.slice bo bn bc) R ∧ Hid ((Value.slice bo bn bc).ownBlock ≠ some g) ∧ Below w.heap.size w wr) (fun _ t _ => (intOf t + 1).toNat)
 case atStart =>
  refine ⟨a.length,0,List.replicate a.length 0,none,0,0,rfl,rfl,Nat.le_refl _,by rw [List.map_replicate];exact hrow,by show _ = _;simp,hst0,?_,?_,hb2⟩
  ·show Rd _ _ _ _;rw [digs_zero];exact Rd.nil
  ·show _ ≠ _;intro h;cases h
 case round =>
  clear hrow hb2
  obtain ⟨j,R,Q,bo,bn,bc,rfl,rfl,hj,hrow,hQl,hO,hR,hne,hbel⟩ := hrel
  by_cases hj0 : j = 0
  ·subst hj0
   have hO2 := hO.out
   have hds := hide hO2.2.1
   obtain ⟨q1,q2⟩ := div_end hn hO2
   rw [em.out] at q1 q2
   have hrd := hrow.rdAll (n := a.length) (c := a.length) hQl.out.symm (Nat.le_refl _) (by omega)
   rw [q2] at hR
   replace q1 := hide q1
   clear hO hO2 q2
   go_wp2_with fail
   refine (rtrim _ Q _ hrd hds.out).mono ?_
   rintro e w5 ⟨u,rfl,hu,hb5,ho5⟩
   obtain ⟨uo,ucap,rfl,-,-,-⟩ := Rd.form hu
   rw [q1.out] at hu ⊢
   have hR5 := Rd.below hR hb5
   go_wp2
   go_ret2
   exact ⟨_,_,rfl,hu,hR5,Bel.to hbel hb5⟩
  ·obtain ⟨i,rfl⟩ : ∃ i,j = i + 1 := ⟨j - 1,by omega⟩
   have hil : i < a.length := by omega
   rw [show (((i + 1 : Nat)) : Int) - 1 = (i : Int) by omega]
   go_wp2
   obtain ⟨p,hp⟩ : ∃ p,p = a[i] := ⟨_,rfl⟩
   have hp2 := SA.out _ (List.getElem_mem hil)
   rw [← hp] at hp2
   have hpd : p = a.getD i 0 := by rw [hp,List.getD_eq_getElem?_getD,List.getElem?_eq_getElem hil];rfl
   replace hp := hide hp
   replace hpd := hide hpd
   have hst := hide (div_begin hO.out p hp2)
   go_loopw [7,9] (fun rr t wr => ∃ (bt R : Nat) (Q : List Nat) (bo : Option Addr) (bn bc : Nat),rr = .slice bo bn bc ∧ t = .int .i64 bt ∧ bt ≤ 32768 ∧ Row wr g 3 (Q.map D64) ∧ Hid (Q.length = a.length) ∧ Hid (DivS n (dval (a.drop (i + 1))) p i Q bt R) ∧ DV wr (.slice bo bn bc) R ∧ Hid ((Value.slice bo bn bc).ownBlock ≠ some g) ∧ Below w.heap.size w wr) (fun _ t _ => (intOf t).toNat)
   case atStart => exact ⟨32768,R,Q,bo,bn,bc,rfl,rfl,Nat.le_refl _,hrow,hQl,hst,hR,hne,hbel⟩
   case round =>
    clear hrow hbel hR hne hst hQl hO
    obtain ⟨bt,R,Q,bo,bn,bc,rfl,rfl,hbt,hrow,hQl,hS,hR,hne,hbel⟩ := hrel
    by_cases hb0 : bt = 0
    ·subst hb0
     have hO := hide (div_over (a := a) (by have := hS.out;rw [hpd.out] at this;exact this))
     clear hS
     go_wp2
     go_roundw
     case rel => exact ⟨i,R,Q,bo,bn,bc,rfl,by go_num,by omega,hrow,hQl,hO,hR,hne,hbel⟩
     case measure => simp [intOf]
    ·have hiQ : i < Q.length := by rw [hQl.out];exact hil
     obtain ⟨b1,b2,b3,b4,b5⟩ := div_round hiQ hp2 hS.out hb0
     have hRn : R < n := hS.out.1
     have lR : (digs R).length ≤ 1000 := by have := hl2.out R (by omega);omega
     obtain ⟨z,hz⟩ : ∃ z,z = p / bt := ⟨_,rfl⟩
     rw [← hz] at b4 b5
     replace b4 := hide b4
     replace b5 := hide b5
     have hra2 := hra.below hbel
     clear hS
     go_wp2_with fail
     refine (radd _ _ R R _ hR hR lR lR).mono ?_
     rintro e w3 ⟨u3,rfl,hu3,hb3,ho3⟩
     obtain ⟨uo3,un3,uc3,rfl⟩ := Rd.shape hu3
     obtain ⟨ba,offa,rfl,hba,hcella⟩ := hra2.at_ hil
     have d1 := Bel.cellOf hb3 (hcella _ hil)
     rw [← hp.out] at d1
     have hzb : z ≤ p := by rw [hz];exact Nat.div_le_self _ _
     replace hz := hide hz
     clear hcella
     go_upto_region 10 with (fail)
     go_cut [34] (fun bb X => bb = .bool (decide (z % 2 = 1)) ∧ X = w3)
     case first =>
      go_wp2
      go_meet
      refine ⟨?_,rfl⟩
      rw [w64_div p bt z hz.out hp2,tmod_two]
     case rest =>
      obtain ⟨rfl,hX⟩ := hcut
      rw [hX]
      clear hX
      have l1 : digs 1 = [1] := by rw [digs_pos (by omega),show 1 / 65536 = 0 from rfl,digs_zero]
      have l2R : (digs (R + R)).length ≤ 1000 := by have := hl2.out (R + R) (by omega);omega
      replace l1 := hide l1
      by_cases hbeta : z % 2 = 1
      ·have hd : decide (z % 2 = 1) = true := decide_eq_true hbeta
       rw [hd]
       go_wp2_with fail
       refine (radd _ _ (R + R) 1 _ (Rd.alloc hu3 _) (by show Rd _ _ _ _;rw [l1.out];exact Rd.new _ rfl rfl (Nat.le_refl _) (by decide) rfl) l2R (by rw [l1.out];decide)).mono ?_
       rintro e w4 ⟨u4,rfl,hu4,hb4,ho4⟩
       obtain ⟨uo4,un4,uc4,rfl⟩ := Rd.shape hu4
       have bw4 : Below w.heap.size w w4 := Bel.to (Bel.al (Bel.to hbel hb3) _) hb4
       have hbn4 : DV w4 (.slice ab nb cb) n := Rd.below hbD bw4
       go_wp2_with fail
       refine (rcmp _ _ (R + R + 1) n _ hu4 hbn4).mono ?_
       rintro e w5 ⟨rfl,hb5⟩
       by_cases hge : n ≤ R + R + 1
       ·have hcv : ¬ cmpV (R + R + 1) n < 0 := by unfold cmpV;split <;> (try split) <;> omega
        have hcv2 : 0 ≤ cmpV (R + R + 1) n := by omega
        have hS2 := b5.out (by omega)
        rw [show 2 * R + z % 2 - n = R + R + 1 - n by omega] at hS2
        have lV : (digs (R + R + 1)).length ≤ 1000 := by have := hl2.out (R + R + 1) (by omega);omega
        have hu5 : DV w5 _ (R + R + 1) := Rd.below hu4 hb5
        have hbn5 : DV w5 _ n := Rd.below hbn4 hb5
        have hrow5 : Row w5 g 3 (Q.map D64) := (Row.keep hrow (Bel.to (Bel.al hb3 _) hb4)).keep hb5
        have hbel5 := Bel.to bw4 hb5
        obtain ⟨y,hy⟩ : ∃ y,y = Q[i] := ⟨_,rfl⟩
        rw [← hy] at hS2 b3
        replace hS2 := hide hS2
        replace hy := hide hy
        go_wp2_with fail
        refine (rsub _ _ (R + R + 1) n _ hu5 hbn5 hge lV).mono ?_
        rintro e w6 ⟨u6,rfl,hu6,hb6,ho6⟩
        obtain ⟨uo6,un6,uc6,rfl⟩ := Rd.shape hu6
        have hrow6 := hrow5.keep hb6
        have hg5 := hrow5.lt
        have hne6 : (Value.slice uo6 un6 uc6).ownBlock ≠ some g := fun h => by have h1 := ho6 g h;omega
        have c6 := hrow6.cellV hiQ
        rw [← hy.out] at c6
        have f6 := hrow6.frozen i
        have hrow7 := hrow6.setV (V := D64) i (y + bt)
        rw [show D64 (y + bt) = .int .i64 ((y : Int) + (bt : Int)) by rw [← Int.natCast_add]] at hrow7
        have hR7 : DV _ _ (R + R + 1 - n) := Rd.setCell hu6 (p := ⟨g,i,none⟩) hne6 (.int .i64 ((y : Int) + (bt : Int)))
        have hbel7 := Bel.st (Bel.to hbel5 hb6) (p := ⟨g,i,none⟩) hgs (.int .i64 ((y : Int) + (bt : Int)))
        have hQ7 := hide (show (Q.set i (y + bt)).length = a.length by rw [List.length_set];exact hQl.out)
        replace hne6 := hide hne6
        go_wp2
        go_roundw
        case rel => exact ⟨bt / 2,R + R + 1 - n,Q.set i (y + bt),uo6,un6,uc6,rfl,by go_num,by omega,hrow7,hQ7,hS2,hR7,hne6,hbel7⟩
        case measure => simp [intOf];omega
       ·have hcv : cmpV (R + R + 1) n < 0 := by unfold cmpV;rw [if_pos (by omega)];decide
        have hS2 := b4.out (by omega)
        rw [show 2 * R + z % 2 = R + R + 1 by omega] at hS2
        replace hS2 := hide hS2
        have hR5 := Rd.below hu4 hb5
        have hrow5 : Row w5 g 3 (Q.map D64) := (Row.keep hrow (Bel.to (Bel.al hb3 _) hb4)).keep hb5
        have hne5 : Hid ((Value.slice uo4 un4 uc4).ownBlock ≠ some g) := by
         show _ ≠ _
         intro h
         have h1 := ho4 g h
         have h2 := hrow.lt
         have h3 := hb3.size;simp at h1;omega
        have hbel5 := Bel.to bw4 hb5
        go_wp2
        go_roundw
        case rel => exact ⟨bt / 2,R + R + 1,Q,uo4,un4,uc4,rfl,by go_num,by omega,hrow5,hQl,hS2,hR5,hne5,hbel5⟩
        case measure => simp [intOf];omega
      ·have hd : decide (z % 2 = 1) = false := decide_eq_false hbeta
       rw [hd]
       have bw3 : Below w.heap.size w w3 := Bel.to hbel hb3
       have hbn3 : DV w3 (.slice ab nb cb) n := Rd.below hbD bw3
       go_wp2_with fail
       refine (rcmp _ _ (R + R) n _ hu3 hbn3).mono ?_
       rintro e w5 ⟨rfl,hb5⟩
       by_cases hge : n ≤ R + R
       ·have hcv : ¬ cmpV (R + R) n < 0 := by unfold cmpV;split <;> (try split) <;> omega
        have hcv2 : 0 ≤ cmpV (R + R) n := by omega
        have hS2 := b5.out (by omega)
        rw [show 2 * R + z % 2 - n = R + R - n by omega] at hS2
        have lV : (digs (R + R)).length ≤ 1000 := by have := hl2.out (R + R) (by omega);omega
        have hu5 : DV w5 _ (R + R) := Rd.below hu3 hb5
        have hbn5 : DV w5 _ n := Rd.below hbn3 hb5
        have hrow5 : Row w5 g 3 (Q.map D64) := (Row.keep hrow hb3).keep hb5
        have hbel5 := Bel.to bw3 hb5
        obtain ⟨y,hy⟩ : ∃ y,y = Q[i] := ⟨_,rfl⟩
        rw [← hy] at hS2 b3
        replace hS2 := hide hS2
        replace hy := hide hy
        go_wp2_with fail
        refine (rsub _ _ (R + R) n _ hu5 hbn5 hge lV).mono ?_
        rintro e w6 ⟨u6,rfl,hu6,hb6,ho6⟩
        obtain ⟨uo6,un6,uc6,rfl⟩ := Rd.shape hu6
        have hrow6 := hrow5.keep hb6
        have hg5 := hrow5.lt
        have hne6 : (Value.slice uo6 un6 uc6).ownBlock ≠ some g := fun h => by have h1 := ho6 g h;omega
        have c6 := hrow6.cellV hiQ
        rw [← hy.out] at c6
        have f6 := hrow6.frozen i
        have hrow7 := hrow6.setV (V := D64) i (y + bt)
        rw [show D64 (y + bt) = .int .i64 ((y : Int) + (bt : Int)) by rw [← Int.natCast_add]] at hrow7
        have hR7 : DV _ _ (R + R - n) := Rd.setCell hu6 (p := ⟨g,i,none⟩) hne6 (.int .i64 ((y : Int) + (bt : Int)))
        have hbel7 := Bel.st (Bel.to hbel5 hb6) (p := ⟨g,i,none⟩) hgs (.int .i64 ((y : Int) + (bt : Int)))
        have hQ7 := hide (show (Q.set i (y + bt)).length = a.length by rw [List.length_set];exact hQl.out)
        replace hne6 := hide hne6
        go_wp2
        go_roundw
        case rel => exact ⟨bt / 2,R + R - n,Q.set i (y + bt),uo6,un6,uc6,rfl,by go_num,by omega,hrow7,hQ7,hS2,hR7,hne6,hbel7⟩
        case measure => simp [intOf];omega
       ·have hcv : cmpV (R + R) n < 0 := by unfold cmpV;rw [if_pos (by omega)];decide
        have hS2 := b4.out (by omega)
        rw [show 2 * R + z % 2 = R + R by omega] at hS2
        replace hS2 := hide hS2
        have hR5 := Rd.below hu3 hb5
        have hrow5 : Row w5 g 3 (Q.map D64) := (Row.keep hrow hb3).keep hb5
        have hne5 : Hid ((Value.slice uo3 un3 uc3).ownBlock ≠ some g) := by
         show _ ≠ _
         intro h
         have h1 := ho3 g h
         have h2 := hrow.lt
         omega
        have hbel5 := Bel.to bw3 hb5
        go_wp2
        go_roundw
        case rel => exact ⟨bt / 2,R + R,Q,uo3,un3,uc3,rfl,by go_num,by omega,hrow5,hQl,hS2,hR5,hne5,hbel5⟩
        case measure => simp [intOf];omega
set_option maxHeartbeats 4000000 in
set_option maxRecDepth 100000 in
theorem rdivmod (va vb : Value) (m n : Nat) (w : World) (ha : NV w va m) (hb : NV w vb n) (lm : (limbs m).length ≤ 64) (ln : (limbs n).length ≤ 64) (hn : 0 < n) :
  Calls Try.prog 70 #[.agg #[va],.agg #[vb]] w (Nat3 (m / n) (m % n) w) := by
 have dm := hide (digs_limbs_len lm)
 have dn := hide (digs_limbs_len ln)
 have dq : (digs (m / n)).length ≤ 128 := by have := digs_len_le (Nat.div_le_self m n);have := dm.out;omega
 have dr : (digs (m % n)).length ≤ 128 := by have := digs_len_le (Nat.le_of_lt (Nat.mod_lt m hn));have := dn.out;omega
 obtain ⟨q,hq⟩ : ∃ q,q = m / n := ⟨_,rfl⟩
 obtain ⟨r,hr⟩ : ∃ r,r = m % n := ⟨_,rfl⟩
 rw [← hq] at dq
 rw [← hr] at dr
 rw [← hq,← hr]
 replace hq := hide hq
 replace hr := hide hr
 obtain ⟨aa,ca,rfl,hla,hca,hra⟩ := Rd.form ha
 obtain ⟨ab,cb,rfl,hlb,hcb,hrb⟩ := Rd.form hb
 have hn0 : 0 < (limbs n).length := by rw [limbs_pos (by omega)];simp
 go_enter Try.func70,Try.ntmps70
 go_wp2_with fail
 refine (rvalid _ m _ (by exact (((ha.alloc _).alloc _).alloc _).alloc _) lm).mono ?_
 rintro e w1 ⟨rfl,hb1⟩
 have hp : DivPre w w1 aa ab m n ca cb := ⟨Bel.to (Bel.al (Bel.al (Bel.al (Bel.al (Below.refl _ _) _) _) _) _) hb1,by have := hb1.size;simp at this;omega,Bel.cellOf hb1 (by go_simp),Bel.cellOf hb1 (by go_simp),Bel.cellOf hb1 (by go_simp),Bel.cellOf hb1 (by go_simp),Bel.frozenOf hb1 (v := .slice none 0 0) (by go_simp) (by go_simp),Bel.frozenOf hb1 (v := .slice none 0 0) (by go_simp) (by go_simp)⟩
 clear hb1
 have d1 := hp.c1
 go_wp2_with fail
 refine (rvalid _ n _ (by exact hb.below hp.bel) ln).mono ?_
 rintro e w2 ⟨rfl,hb2⟩
 replace hp := hp.keep hb2
 clear hb2 d1
 have d0 := hp.c0
 have d1 := hp.c1
 have na := ha.below hp.bel
 have nb := hb.below hp.bel
 go_upto_region 5 with (fail)
 go_cut [7,8] (fun x y X => DivPre w X aa ab m n ca cb ∧ DV X x q ∧ DV X y r)
 case first =>
  go_region_held3 (fun X => X.cell? ⟨w.heap.size,0,none⟩ = some (.slice aa (limbs m).length ca) ∧ X.cell? ⟨w.heap.size + 1,0,none⟩ = some (.slice ab (limbs n).length cb)) (go_keep) (first
   | (go_at_call 36;refine (halves _ m _ ?_ ?_).mono ?_;(exact Rd.drew na);(omega);rintro e w2 ⟨u2,rfl,hu2,hb2,-⟩;have hp2 := (hp.keep (Below.drew (Below.refl _ _))).keep hb2;have d02 := hp2.c0;have d12 := hp2.c1;have nb2 : NV w2 _ n := Rd.below (Rd.drew nb) hb2)
   | (go_at_call 36;refine (halves _ n _ ?_ ?_).mono ?_;(exact nb2);(omega);rintro e w3 ⟨u3,rfl,hu3,hb3,-⟩;have hp3 := hp2.keep hb3;have d03 := hp3.c0;have d13 := hp3.c1;have hu23 : DV w3 _ m := Rd.below hu2 hb3)
   | (go_at_call 96;refine (rdivide _ _ m n _ ?_ ?_ ?_ ?_ ?_).mono ?_;(exact hu23);(exact hu3);(exact hn);(have := dm.out;omega);(have := dn.out;omega);rintro e w4 ⟨u4,v4,rfl,hu4,hv4,hb4⟩;have hp4 := hp3.keep hb4;have d04 := hp4.c0;have d14 := hp4.c1))
  all_goals go_wp2_with fail
  all_goals
   go_meet
   rw [← hq.out] at hu4
   rw [← hr.out] at hv4
   exact ⟨hp4,hu4,hv4⟩
 case rest =>
  obtain ⟨hp5,hx,hy⟩ := hcut
  clear hp d0 d1 na nb
  go_wp2_with fail
  refine (whole_ok _ q _ (by first | exact hx | exact hx.alloc _) dq).mono ?_
  rintro e w6 ⟨uq,rfl,huq,hb6⟩
  obtain ⟨aq,nq,cq,rfl⟩ := Rd.shape huq
  have hp6 : DivPre w w6 aa ab m n ca cb := (by first | exact hp5.keep hb6 | exact (hp5.keep (Bel.al (Below.refl _ _) _)).keep hb6)
  have hy6 : DV w6 _ r := (by first | exact Rd.below hy hb6 | exact Rd.below (Rd.alloc hy _) hb6)
  have s6 := hb6.size
  go_wp2_with fail
  refine (whole_ok _ r _ (by first | exact hy6.alloc _ | exact (hy6.alloc _).alloc _) dr).mono ?_
  rintro e w7 ⟨ur,rfl,hur,hb7⟩
  obtain ⟨ar,nr,cr,rfl⟩ := Rd.shape hur
  have hp7 : DivPre w w7 aa ab m n ca cb := (hp6.keep (Bel.al (Below.refl _ _) _)).keep hb7
  have huq7 : NV w7 _ q := Rd.below (Rd.alloc huq _) hb7
  have c9 : w7.cell? ⟨w6.heap.size,0,none⟩ = some (.slice aq nq cq) := Bel.cellOf hb7 (new_cell w6 _ _)
  have hp8 : DivPre w (w7.alloc (Obj.cells #[Value.slice ar nr cr] 30)) aa ab m n ca cb := hp7.keep (Bel.al (Below.refl _ _) _)
  have huq8 : NV (w7.alloc (Obj.cells #[Value.slice ar nr cr] 30)) _ q := Rd.alloc huq7 _
  have hur8 : NV (w7.alloc (Obj.cells #[Value.slice ar nr cr] 30)) _ r := Rd.alloc hur _
  have c9' := cell_alloc c9 (Obj.cells #[Value.slice ar nr cr] 30)
  have c11 := new_cell w7 (Value.slice ar nr cr) 30
  have z9 : w.heap.size + 1 + 1 + 1 < w6.heap.size := hp6.size
  have z11 : w6.heap.size < w7.heap.size := by have := hb7.size;simp at this;omega
  go_wp2_with fail
  obtain ⟨wd,hwd⟩ : ∃ wd,wd = (w7.alloc (Obj.cells #[Value.slice ar nr cr] 30)) := ⟨_,rfl⟩
  obtain ⟨g9,hg9⟩ : ∃ g,g = w6.heap.size := ⟨_,rfl⟩
  obtain ⟨g11,hg11⟩ : ∃ g,g = w7.heap.size := ⟨_,rfl⟩
  rw [← hwd] at hp8 huq8 hur8 c9' c11
  rw [← hg9] at c9' z9 z11
  rw [← hg11] at c11 z11
  rw [← hwd,← hg9,← hg11]
  clear hwd hg9 hg11 c9 hp7 hur huq7 hp6 hy6 hb7 hb6 huq hx hy hp5
  have e2 := hp8.c2
  have e3 := hp8.c3
  have g2 := hp8.f2
  have g3 := hp8.f3
  have sz := hp8.size
  have hbel := hp8.bel
  clear hp8
  go_region
  go_wp2
  have e3' := cell_far (p := ⟨w.heap.size + 1 + 1,0,none⟩) e3 (by simp) (Value.slice aq nq cq)
  have hu2 := (huq8.setNe e2 (fun _ h => by cases h) (.slice aq nq cq)).setNe e3' (fun _ h => by cases h) (.slice ar nr cr)
  have hr2 := (hur8.setNe e2 (fun _ h => by cases h) (.slice aq nq cq)).setNe e3' (fun _ h => by cases h) (.slice ar nr cr)
  have hb2 := Bel.st (Bel.st hbel (p := ⟨w.heap.size + 1 + 1,0,none⟩) (by simp only [];omega) (.slice aq nq cq)) (p := ⟨w.heap.size + 1 + 1 + 1,0,none⟩) (by simp only [];omega) (.slice ar nr cr)
  refine bodyPost_ret (v := .tuple #[.agg #[.slice aq nq cq],.agg #[.slice ar nr cr],.int .i64 0]) (by simp [results,Try.results70,go_sem,e2,e3]) rfl ⟨_,_,rfl,hu2.drew,hr2.drew,hb2.drew⟩
def chooseV (n k : Int) : Nat × Int := if 0 ≤ n ∧ n ≤ 80 then (chooseI n k,0) else (0,2)
theorem choose_any (n k : Int) (w : World) : Calls Try.prog 101 #[.int .i64 n,.int .i64 k] w (NatC (chooseV n k).1 (chooseV n k).2 w) := by
 unfold chooseV
 by_cases h : 0 ≤ n ∧ n ≤ 80
 ·rw [if_pos h];exact choose_ok n k w h
 ·rw [if_neg h];exact choose_range n k w h
end Go.Proofs.Ytldikghldcefcaa
end

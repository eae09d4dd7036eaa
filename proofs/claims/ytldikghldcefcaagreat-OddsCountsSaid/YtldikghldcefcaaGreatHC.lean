/- Lemmas, merged out of smaller texts (wip/tools/mergedce.py). No condition. -/
import Derived.Deep.LoopGhost
import Derived.Deep.RegionWith
import Derived.Test.YtldikghldcefcaaGreatHCore
import Derived.Test.YtldikghldcefcaaGreatHB
section
open Go.RowKit
set_option linter.unusedVariables false
set_option linter.unusedSimpArgs false
namespace Go.Proofs.YtldikghldcefcaaGreat
abbrev D64 (n : Nat) : Value := .int .i64 (n : Int)
theorem own_len {ao : Option Addr} {n n' c c' : Nat} : (Value.slice ao n c).ownBlock = (Value.slice ao n' c').ownBlock := by cases ao <;> rfl
def DV (w : World) (v : Value) (n : Nat) : Prop := Rd D64 w v (digs n)
def SomeDig (n : Nat) (w : World) (e : Ending) (w' : World) : Prop := ∃ v,e = .returned v ∧ DV w' v n ∧ Below w.heap.size w w' ∧ ∀ k,v.ownBlock = some k → w.heap.size ≤ k
def CutDig (u : Value) (n : Nat) (w : World) (e : Ending) (w' : World) : Prop := ∃ v,e = .returned v ∧ DV w' v n ∧ Below w.heap.size w w' ∧ ∀ k,v.ownBlock = some k → u.ownBlock = some k
theorem rtrim (v : Value) (l : List Nat) (w : World) (h : Rd D64 w v l) (hs : DSmall l) :
  Calls Tryz.prog 134 #[v] w (CutDig v (dval l) w) := by
 obtain ⟨ao,cap,rfl,hlc,hcm,hr⟩ := h.form
 have hcm : cap ≤ 9223372036854775807 := by unfold maxLen at hcm;omega
 go_enter Tryz.func134,Tryz.ntmps134
 go_wp2
 go_loop [3] (fun t => ∃ n : Nat,n ≤ l.length ∧ t = .int .i64 n ∧ Hid (dval (l.take n) = dval l)) (fun t => (intOf t).toNat)
 case atStart => exact ⟨l.length,Nat.le_refl _,rfl,by show dval (l.take l.length) = dval l;rw [List.take_length]⟩
 case round =>
  obtain ⟨n,hn,rfl,hv⟩ := hrel
  by_cases h0 : n = 0
  ·subst h0
   have HZ := hide (show dval l = 0 by rw [← hv.out];simp [dval])
   have hcut := hr.take (n := 0) (c := cap) rfl hn (Nat.zero_le _) (by unfold maxLen;omega)
   clear hv
   go_wp2
   go_ret
   refine ⟨.slice _ _ cap,rfl,?_,Below.refl _ _,fun k hk => own_len.trans hk⟩
   show Rd _ _ _ _
   rw [HZ.out,digs_zero]
   rw [List.take_zero] at hcut
   exact hcut
  ·have hk : n - 1 < l.length := by omega
   obtain ⟨b,off,rfl,hb,hc⟩ := hr.at_ hk
   have hc1 := hc (n - 1) hk
   clear hc
   by_cases h1 : l[n - 1] = 0
   ·have hn1 : Hid (dval (l.take (n - 1)) = dval l) := by
     show _ = _
     rw [← hv.out]
     have := dval_take_succ l (n - 1) hk
     rw [h1,Nat.sub_add_cancel (by omega)] at this
     rw [this];simp
    have h1' : ((l[n - 1] : Nat) : Int) = 0 := by omega
    go_wp2
    go_round
    case rel => exact ⟨n - 1,by omega,by go_num,hn1⟩
    case measure => simp [intOf];omega
   ·have h1' : (((l[n - 1] : Nat) : Int) == 0) = false := by simpa using h1
    have hl := digs_take hs (by omega : 0 < n) hn h1
    rw [hv.out] at hl
    have HL := hide hl
    have hcut := hr.take (n := n) (c := cap) rfl hn (by omega) (by unfold maxLen;omega)
    clear h1 hl hv
    go_wp2
    go_ret
    refine ⟨.slice _ _ cap,rfl,?_,Below.refl _ _,fun k hk => own_len.trans hk⟩
    show Rd _ _ _ _
    rw [HL.out]
    exact hcut
theorem rvalid (v : Value) (n : Nat) (w : World) (h : NV w v n) (hn : (limbs n).length ≤ 64) :
  Calls Tryz.prog 53 #[.agg #[v]] w (BoolB true w) := by
 obtain ⟨ao,cap,rfl,hlc,hcm,hr⟩ := Rd.form h
 have hcm : cap ≤ 9223372036854775807 := by unfold maxLen at hcm;omega
 by_cases h0 : (limbs n).length = 0
 ·go_enter Tryz.func53,Tryz.ntmps53
  go_wp2
  go_ret
  exact ⟨rfl,(Below.refl _ _).alloc (Nat.le_refl _) _⟩
 ·have hl := limbs_last (n := n) (by omega)
  have hk : (limbs n).length - 1 < (limbs n).length := by omega
  obtain ⟨b,off,rfl,hb,hc⟩ := hr.at_ hk
  have hc1 := hc _ hk
  clear hc
  have hx : ((((limbs n)[(limbs n).length - 1] : Nat) : Int) != 0) = true := by simpa using hl
  clear hl
  go_enter Tryz.func53,Tryz.ntmps53
  go_wp2
  go_ret
  exact ⟨rfl,(Below.refl _ _).alloc (Nat.le_refl _) _⟩
theorem digit_any (v : Value) (l : List Nat) (i : Nat) (w : World) (h : Rd D64 w v l) :
  Calls Tryz.prog 135 #[v,.int .i64 (i : Int)] w (Pure (.int .i64 ((l.getD i 0 : Nat) : Int)) w) := by
 obtain ⟨ao,cap,rfl,hlc,hcm,hr⟩ := Rd.form h
 have hcm : cap ≤ 9223372036854775807 := by unfold maxLen at hcm;omega
 by_cases hi : i < l.length
 ·obtain ⟨b,off,rfl,hb,hc⟩ := hr.at_ hi
  have hc1 := hc _ hi
  clear hc
  have hgd : l.getD i 0 = l[i] := by rw [List.getD_eq_getElem?_getD,List.getElem?_eq_getElem hi];rfl
  rw [hgd]
  clear hgd
  go_enter Tryz.func135,Tryz.ntmps135
  go_wp2
  go_ret
  exact ⟨rfl,rfl⟩
 ·have hgd : l.getD i 0 = 0 := by rw [List.getD_eq_getElem?_getD,List.getElem?_eq_none (by omega)];rfl
  rw [hgd]
  clear hgd
  go_enter Tryz.func135,Tryz.ntmps135
  go_wp2
  go_ret
  exact ⟨rfl,rfl⟩
def halvesL : List Nat → List Nat
 | [] => []
 | x :: t => x % 65536 :: x / 65536 :: halvesL t
theorem halvesL_append (a b : List Nat) : halvesL (a ++ b) = halvesL a ++ halvesL b := by
 induction a with
 | nil => rfl
 | cons x t ih => simp only [List.cons_append,halvesL,ih]
theorem halvesL_length (a : List Nat) : (halvesL a).length = 2 * a.length := by
 induction a with
 | nil => rfl
 | cons x t ih => simp only [halvesL,List.length_cons,ih];omega
theorem halvesL_val (a : List Nat) : dval (halvesL a) = val a := by
 induction a with
 | nil => rfl
 | cons x t ih => simp only [halvesL,dval,val,ih];omega
theorem halvesL_small {a : List Nat} (h : Small a) : DSmall (halvesL a) := by
 induction a with
 | nil => intro x hx;cases hx
 | cons x t ih =>
  obtain ⟨h1,h2⟩ := small_cons h
  intro y hy
  simp only [halvesL,List.mem_cons] at hy
  rcases hy with rfl | rfl | hy
  ·omega
  ·omega
  ·exact ih h2 y hy
set_option maxHeartbeats 2000000 in
set_option maxRecDepth 100000 in
theorem halves (v : Value) (n : Nat) (w : World) (h : NV w v n) (hn : (limbs n).length ≤ 1000) :
  Calls Tryz.prog 115 #[.agg #[v]] w (SomeDig n w) := by
 have hsm := hide (small_limbs n)
 have hvl := hide (val_limbs n)
 unfold NV at h
 obtain ⟨l,hl⟩ : ∃ l,l = limbs n := ⟨_,rfl⟩
 rw [← hl] at h hn hsm hvl
 clear hl
 obtain ⟨ao,cap,rfl,hlc,hcm,hr⟩ := Rd.form h
 have hcm : cap ≤ 9223372036854775807 := by unfold maxLen at hcm;omega
 go_enter Tryz.func115,Tryz.ntmps115
 go_wp2
 obtain ⟨W,hW⟩ : ∃ W,W = w.alloc (Obj.cells #[.slice ao l.length cap] 30) := ⟨_,rfl⟩
 have b0 : W.cell? ⟨w.heap.size,0,none⟩ = some (.slice ao l.length cap) := by rw [hW];go_simp
 have hbW : Below w.heap.size w W := by rw [hW];exact Bel.al (Below.refl _ _) _
 have hsW : w.heap.size < W.heap.size := by rw [hW];simp
 rw [← hW]
 clear hW
 have hrW := hr.below hbW
 go_loopw [3,4] (fun vv jj wr => ∃ (j : Nat) (A : List Nat) (bo : Option Addr) (cap2 : Nat),vv = .slice bo A.length cap2 ∧ jj = .int .i64 j ∧ j ≤ l.length ∧ A.length ≤ 2000 ∧ Hid (A = halvesL (l.take j)) ∧ Own D64 wr W.heap.size 3 (.slice bo A.length cap2) A ∧ Below W.heap.size W wr) (fun _ j _ => l.length - (intOf j).toNat)
 case atStart => exact ⟨0,[],none,0,rfl,rfl,Nat.zero_le _,Nat.zero_le _,rfl,Own.nil _ _ _,Below.refl _ _⟩
 case round =>
  obtain ⟨j,A,bo,cap2,rfl,rfl,hj,hA2,hA,hown,hbel⟩ := hrel
  have c0 := Bel.cellOf hbel b0
  by_cases hjl : j < l.length
  ·obtain ⟨b,off,rfl,hb,hc⟩ := hrW.at_ hjl
   have c1 := Bel.cellOf hbel (hc j hjl)
   have hc1 := hide (show ∀ i (hi : i < l.length),∀ x,x = l[i] → W.cell? ⟨b,off + i,none⟩ = some (U32 x) by intro i hi x hx;rw [hx];exact hc i hi)
   clear hc
   have hA3 := hide (show A ++ [l[j] % 65536,l[j] / 65536] = halvesL (l.take (j + 1)) by rw [take_snoc l j hjl,halvesL_append,← hA.out];rfl)
   have hAl : A.length = 2 * j := by rw [hA.out,halvesL_length,List.length_take];omega
   have hAl2 : A.length + 2 ≤ 2000 := by omega
   replace hAl := hide hAl
   have hx : l[j] < 4294967296 := small_get hsm.out hjl
   obtain ⟨x,hxe⟩ : ∃ x,x = l[j] := ⟨_,rfl⟩
   rw [← hxe] at c1 hA3 hx
   replace hxe := hide hxe
   go_wp2_with (with_reducible refine wpList_append_rd _ rfl _ _ 53 rfl (V := D64) (fun _ => rfl) W.heap.size 3 (.int .i64 0) 8 Tryz.underlying53 infoInt rfl _ A rfl (hown.alloc _) _ [x % 65536] rfl ?_ ?_ ?_ ?_ ?_)
   case refine_1 => exact Rd.new _ rfl rfl (Nat.le_refl _) (by decide) (by simp)
   case refine_2 => simp;omega
   case refine_3 => simp;omega
   case refine_4 => have := hbel.size;simp;omega
   intro v4 w4 hown4 hg4 hv4
   have hsz3 := hbel.size
   have hb4 : Below W.heap.size W w4 := (Bel.al hbel _).grown hg4 (by simp;omega) (fun g hg => (hown.lt g hg).1)
   obtain ⟨bo4,cap4,rfl⟩ := hown4.shape
   have hl1 : (A ++ [x % 65536]).length = A.length + 1 := by simp
   have c04 := Bel.cellOf hb4 b0
   have c14 : w4.cell? ⟨b,off + j,none⟩ = some (U32 x) := Bel.cellOf hb4 (hc1.out j hjl x hxe.out)
   have hs4 := hb4.size
   have hl2 : (A ++ [x % 65536]).length + 1 ≤ 2000 := by rw [hl1];omega
   clear c0 c1
   go_wp2_with (with_reducible refine wpList_append_rd _ rfl _ _ 53 rfl (V := D64) (fun _ => rfl) W.heap.size 3 (.int .i64 0) 8 Tryz.underlying53 infoInt rfl _ (A ++ [x % 65536]) rfl (hown4.alloc _) _ [x / 65536] rfl ?_ ?_ ?_ ?_ ?_)
   case refine_1 => exact Rd.new _ rfl rfl (Nat.le_refl _) (by decide) (by simp)
   case refine_2 => simp;omega
   case refine_3 => simp;omega
   case refine_4 => simp;omega
   intro v5 w5 hown5 hg5 hv5
   have hb5 : Below W.heap.size W w5 := (Bel.al hb4 _).grown hg5 (by simp;omega) (fun g hg => (hown4.lt g (by simpa using hg)).1)
   obtain ⟨bo5,cap5,rfl⟩ := hown5.shape
   clear c04 c14 hl1
   go_wp2
   go_roundw
   case rel => exact ⟨j + 1,A ++ [x % 65536,x / 65536],bo5,cap5,by simp,by go_num,by omega,by simp at hl2 ⊢;omega,hA3,by simpa using hown5,hb5⟩
   case measure => simp [intOf];omega
  ·have hA3 := hide (show A = halvesL l by rw [hA.out,List.take_of_length_le (by omega)])
   have hrd := hown.rd
   have hds := hide (show DSmall A by rw [hA3.out];exact halvesL_small hsm.out)
   have hdv := hide (show dval A = n by rw [hA3.out,halvesL_val,hvl.out])
   clear hA
   go_wp2_with fail
   refine (rtrim _ A _ hrd hds.out).mono ?_
   rintro e w5 ⟨u,rfl,hu,hb5,ho5⟩
   obtain ⟨uo,ucap,rfl,-,-,-⟩ := Rd.form hu
   rw [hdv.out] at hu ⊢
   go_wp2
   go_ret
   exact ⟨.slice uo _ ucap,rfl,hu,Bel.to (Bel.to hbW hbel) hb5,fun k hk => by have := (hown.lt k (ho5 k (own_len.trans hk))).1;omega⟩
theorem dval_drop (a : List Nat) (i : Nat) : dval (a.drop i) = a.getD i 0 + 65536 * dval (a.drop (i + 1)) := by
 by_cases h : i < a.length
 ·rw [List.drop_eq_getElem_cons h,dval,List.getD_eq_getElem?_getD,List.getElem?_eq_getElem h];rfl
 ·rw [List.drop_of_length_le (by omega),List.drop_of_length_le (by omega),List.getD_eq_getElem?_getD,List.getElem?_eq_none (by omega)];rfl
theorem dgetD {a : List Nat} (h : DSmall a) (i : Nat) : a.getD i 0 < 65536 := by
 by_cases hi : i < a.length
 ·rw [List.getD_eq_getElem?_getD,List.getElem?_eq_getElem hi];exact h _ (List.getElem_mem hi)
 ·rw [List.getD_eq_getElem?_getD,List.getElem?_eq_none (by omega)];decide
theorem dgetD0 {a : List Nat} {i : Nat} (hi : a.length ≤ i) : a.getD i 0 = 0 := by
 rw [List.getD_eq_getElem?_getD,List.getElem?_eq_none hi];rfl
theorem dsmall_snoc {a : List Nat} (h : DSmall a) {x : Nat} (hx : x < 65536) : DSmall (a ++ [x]) := by
 intro y hy
 rcases List.mem_append.1 hy with hy | hy
 ·exact h y hy
 ·rw [List.mem_singleton.1 hy];exact hx
theorem dval_snoc (a : List Nat) (x : Nat) : dval (a ++ [x]) = dval a + 65536 ^ a.length * x := by
 rw [dval_append,dval,dval];simp
theorem add_step {A a b : List Nat} {i c S : Nat} (hl : A.length = i) (h : dval A + 65536 ^ i * (c + dval (a.drop i) + dval (b.drop i)) = S) :
  dval (A ++ [(a.getD i 0 + b.getD i 0 + c) % 65536]) + 65536 ^ (i + 1) * ((a.getD i 0 + b.getD i 0 + c) / 65536 + dval (a.drop (i + 1)) + dval (b.drop (i + 1))) = S := by
 rw [dval_drop a i,dval_drop b i] at h
 rw [dval_snoc,hl,Nat.pow_succ]
 obtain ⟨x,hx⟩ : ∃ x,x = a.getD i 0 + b.getD i 0 + c := ⟨_,rfl⟩
 rw [← hx]
 have := Nat.div_add_mod x 65536
 obtain ⟨q,hq⟩ : ∃ q,q = x / 65536 := ⟨_,rfl⟩
 obtain ⟨r,hr⟩ : ∃ r,r = x % 65536 := ⟨_,rfl⟩
 rw [← hq,← hr] at this ⊢
 clear hq hr
 grind
set_option maxHeartbeats 4000000 in
set_option maxRecDepth 100000 in
theorem radd_lists (va vb : Value) (a b : List Nat) (w : World) (ha : Rd D64 w va a) (hb : Rd D64 w vb b) (sa : DSmall a) (sb : DSmall b) (la : a.length ≤ 1000) (lb : b.length ≤ 1000) :
  Calls Tryz.prog 114 #[va,vb] w (SomeDig (dval a + dval b) w) := by
 obtain ⟨aa,ca,rfl,hla,hca,hra⟩ := Rd.form ha
 obtain ⟨ab,cb,rfl,hlb,hcb,hrb⟩ := Rd.form hb
 have hca' : ca ≤ 9223372036854775807 := by unfold maxLen at hca;omega
 have hcb' : cb ≤ 9223372036854775807 := by unfold maxLen at hcb;omega
 have SA := hide sa
 have SB := hide sb
 clear sa sb ha hb
 by_cases hab : a.length < b.length
 ·have hK1 : a.length ≤ b.length := by omega
  have hK2 : b.length ≤ b.length := by omega
  go_enter Tryz.func114,Tryz.ntmps114
  go_wp2
  go_loopw [6,7,8] (fun vv cc jj wr => ∃ (j c : Nat) (A : List Nat) (bo : Option Addr) (cap2 : Nat),vv = .slice bo A.length cap2 ∧ jj = .int .i64 j ∧ cc = .int .i64 c ∧ c ≤ 1 ∧ j ≤ b.length + 1 ∧ Hid (A.length = j) ∧ A.length ≤ 1001 ∧ Hid (j = b.length + 1 → c = 0) ∧ Hid (DSmall A) ∧ Hid (dval A + 65536 ^ j * (c + dval (a.drop j) + dval (b.drop j)) = dval a + dval b) ∧ Own D64 wr w.heap.size 3 (.slice bo A.length cap2) A ∧ Below w.heap.size w wr) (fun _ _ j _ => b.length + 1 - (intOf j).toNat)
  case atStart => exact ⟨0,0,[],none,0,rfl,rfl,rfl,by omega,by omega,rfl,Nat.zero_le _,fun _ => rfl,(fun x hx => by cases hx),by show _ = _;simp [dval],Own.nil _ _ _,Below.refl _ _⟩
  case round =>
   obtain ⟨j,c,A,bo,cap2,rfl,rfl,rfl,hc1,hj,hAl,hA1,hc0,hsm,hE,hown,hbel⟩ := hrel
   by_cases hjl : j ≤ b.length
   ·have hra2 := hra.below hbel
    have hrb2 := hrb.below hbel
    have x1 := dgetD SA.out j
    have x2 := dgetD SB.out j
    have hE2 := hide (add_step hAl.out hE.out)
    have hz : j = b.length → (a.getD j 0 + b.getD j 0 + c) / 65536 = 0 := by
     intro h
     rw [dgetD0 (by omega),dgetD0 (by omega)];omega
    obtain ⟨p,hp⟩ : ∃ p,p = a.getD j 0 := ⟨_,rfl⟩
    obtain ⟨q,hq⟩ : ∃ q,q = b.getD j 0 := ⟨_,rfl⟩
    rw [← hp,← hq] at hE2 hz
    rw [← hp] at x1
    rw [← hq] at x2
    replace hp := hide hp
    replace hq := hide hq
    have hz2 := hide (show j + 1 = b.length + 1 → (p + q + c) / 65536 = 0 by intro h;exact hz (by omega))
    have hs2 := hide (dsmall_snoc hsm.out (show (p + q + c) % 65536 < 65536 by omega))
    have hAl3 : A.length = j := hAl.out
    have hAl2 : A.length + 1 ≤ 1001 := by omega
    have hAl4 := hide (show (A ++ [(p + q + c) % 65536]).length = j + 1 by rw [List.length_append,List.length_singleton,hAl3])
    clear hAl3 hz hE hAl
    go_wp2_with fail
    refine (digit_any _ a j _ hra2).mono ?_
    rintro e w2 ⟨rfl,rfl⟩
    rw [← hp.out]
    go_wp2_with fail
    refine (digit_any _ b j _ hrb2).mono ?_
    rintro e w2 ⟨rfl,rfl⟩
    rw [← hq.out]
    go_wp2_with (with_reducible refine wpList_append_rd _ rfl _ _ 53 rfl (V := D64) (fun _ => rfl) w.heap.size 3 (.int .i64 0) 8 Tryz.underlying53 infoInt rfl _ A rfl (hown.alloc _) _ [(p + q + c) % 65536] rfl ?_ ?_ ?_ ?_ ?_)
    case refine_1 => exact Rd.new _ rfl rfl (Nat.le_refl _) (by decide) (by simp)
    case refine_2 => simp;omega
    case refine_3 => simp;omega
    case refine_4 => have := hbel.size;simp;omega
    intro v4 w4 hown4 hg4 hv4
    have hsz3 := hbel.size
    have hb4 : Below w.heap.size w w4 := (Bel.al hbel _).grown hg4 (by simp;omega) (fun g hg => (hown.lt g hg).1)
    obtain ⟨bo4,cap4,rfl⟩ := hown4.shape
    have hq1 := hide (show (p + q + c) / 65536 ≤ 1 by omega)
    go_wp2
    go_roundw
    case rel => exact ⟨j + 1,(p + q + c) / 65536,_,bo4,cap4,rfl,by go_num,by go_num,hq1.out,by omega,hAl4,by simp;omega,hz2,hs2,hE2,hown4,hb4⟩
    case measure => simp [intOf];omega
   ·have hjj : j = b.length + 1 := by omega
    have hcz := hc0.out hjj
    have hE2 := hE.out
    rw [hcz,List.drop_of_length_le (by omega),List.drop_of_length_le (by omega)] at hE2
    have hE3 := hide (show dval A = dval a + dval b by simpa [dval] using hE2)
    have hrd := hown.rd
    clear hE hE2 hc0 hjj hcz
    go_wp2_with fail
    refine (rtrim _ A _ hrd hsm.out).mono ?_
    rintro e w5 ⟨u,rfl,hu,hb5,ho5⟩
    obtain ⟨uo,ucap,rfl,-,-,-⟩ := Rd.form hu
    rw [hE3.out] at hu ⊢
    go_wp2
    go_ret
    exact ⟨.slice uo _ ucap,rfl,hu,Bel.to hbel hb5,fun k hk => (hown.lt k (ho5 k (own_len.trans hk))).1⟩
 ·have hK1 : a.length ≤ a.length := by omega
  have hK2 : b.length ≤ a.length := by omega
  go_enter Tryz.func114,Tryz.ntmps114
  go_wp2
  go_loopw [6,7,8] (fun vv cc jj wr => ∃ (j c : Nat) (A : List Nat) (bo : Option Addr) (cap2 : Nat),vv = .slice bo A.length cap2 ∧ jj = .int .i64 j ∧ cc = .int .i64 c ∧ c ≤ 1 ∧ j ≤ a.length + 1 ∧ Hid (A.length = j) ∧ A.length ≤ 1001 ∧ Hid (j = a.length + 1 → c = 0) ∧ Hid (DSmall A) ∧ Hid (dval A + 65536 ^ j * (c + dval (a.drop j) + dval (b.drop j)) = dval a + dval b) ∧ Own D64 wr w.heap.size 3 (.slice bo A.length cap2) A ∧ Below w.heap.size w wr) (fun _ _ j _ => a.length + 1 - (intOf j).toNat)
  case atStart => exact ⟨0,0,[],none,0,rfl,rfl,rfl,by omega,by omega,rfl,Nat.zero_le _,fun _ => rfl,(fun x hx => by cases hx),by show _ = _;simp [dval],Own.nil _ _ _,Below.refl _ _⟩
  case round =>
   obtain ⟨j,c,A,bo,cap2,rfl,rfl,rfl,hc1,hj,hAl,hA1,hc0,hsm,hE,hown,hbel⟩ := hrel
   by_cases hjl : j ≤ a.length
   ·have hra2 := hra.below hbel
    have hrb2 := hrb.below hbel
    have x1 := dgetD SA.out j
    have x2 := dgetD SB.out j
    have hE2 := hide (add_step hAl.out hE.out)
    have hz : j = a.length → (a.getD j 0 + b.getD j 0 + c) / 65536 = 0 := by
     intro h
     rw [dgetD0 (by omega),dgetD0 (by omega)];omega
    obtain ⟨p,hp⟩ : ∃ p,p = a.getD j 0 := ⟨_,rfl⟩
    obtain ⟨q,hq⟩ : ∃ q,q = b.getD j 0 := ⟨_,rfl⟩
    rw [← hp,← hq] at hE2 hz
    rw [← hp] at x1
    rw [← hq] at x2
    replace hp := hide hp
    replace hq := hide hq
    have hz2 := hide (show j + 1 = a.length + 1 → (p + q + c) / 65536 = 0 by intro h;exact hz (by omega))
    have hs2 := hide (dsmall_snoc hsm.out (show (p + q + c) % 65536 < 65536 by omega))
    have hAl3 : A.length = j := hAl.out
    have hAl2 : A.length + 1 ≤ 1001 := by omega
    have hAl4 := hide (show (A ++ [(p + q + c) % 65536]).length = j + 1 by rw [List.length_append,List.length_singleton,hAl3])
    clear hAl3 hz hE hAl
    go_wp2_with fail
    refine (digit_any _ a j _ hra2).mono ?_
    rintro e w2 ⟨rfl,rfl⟩
    rw [← hp.out]
    go_wp2_with fail
    refine (digit_any _ b j _ hrb2).mono ?_
    rintro e w2 ⟨rfl,rfl⟩
    rw [← hq.out]
    go_wp2_with (with_reducible refine wpList_append_rd _ rfl _ _ 53 rfl (V := D64) (fun _ => rfl) w.heap.size 3 (.int .i64 0) 8 Tryz.underlying53 infoInt rfl _ A rfl (hown.alloc _) _ [(p + q + c) % 65536] rfl ?_ ?_ ?_ ?_ ?_)
    case refine_1 => exact Rd.new _ rfl rfl (Nat.le_refl _) (by decide) (by simp)
    case refine_2 => simp;omega
    case refine_3 => simp;omega
    case refine_4 => have := hbel.size;simp;omega
    intro v4 w4 hown4 hg4 hv4
    have hsz3 := hbel.size
    have hb4 : Below w.heap.size w w4 := (Bel.al hbel _).grown hg4 (by simp;omega) (fun g hg => (hown.lt g hg).1)
    obtain ⟨bo4,cap4,rfl⟩ := hown4.shape
    have hq1 := hide (show (p + q + c) / 65536 ≤ 1 by omega)
    go_wp2
    go_roundw
    case rel => exact ⟨j + 1,(p + q + c) / 65536,_,bo4,cap4,rfl,by go_num,by go_num,hq1.out,by omega,hAl4,by simp;omega,hz2,hs2,hE2,hown4,hb4⟩
    case measure => simp [intOf];omega
   ·have hjj : j = a.length + 1 := by omega
    have hcz := hc0.out hjj
    have hE2 := hE.out
    rw [hcz,List.drop_of_length_le (by omega),List.drop_of_length_le (by omega)] at hE2
    have hE3 := hide (show dval A = dval a + dval b by simpa [dval] using hE2)
    have hrd := hown.rd
    clear hE hE2 hc0 hjj hcz
    go_wp2_with fail
    refine (rtrim _ A _ hrd hsm.out).mono ?_
    rintro e w5 ⟨u,rfl,hu,hb5,ho5⟩
    obtain ⟨uo,ucap,rfl,-,-,-⟩ := Rd.form hu
    rw [hE3.out] at hu ⊢
    go_wp2
    go_ret
    exact ⟨.slice uo _ ucap,rfl,hu,Bel.to hbel hb5,fun k hk => (hown.lt k (ho5 k (own_len.trans hk))).1⟩
theorem radd (va vb : Value) (m n : Nat) (w : World) (ha : DV w va m) (hb : DV w vb n) (la : (digs m).length ≤ 1000) (lb : (digs n).length ≤ 1000) :
  Calls Tryz.prog 114 #[va,vb] w (SomeDig (m + n) w) := by
 have := radd_lists va vb _ _ w ha hb (dsmall_digs m) (dsmall_digs n) la lb
 rw [dval_digs,dval_digs] at this
 exact this
def WholeB (n : Nat) (w : World) (e : Ending) (w' : World) : Prop := ∃ u,e = .returned (.tuple #[.agg #[u],.bool true]) ∧ NV w' u n ∧ Below w.heap.size w w'
theorem digs_limbs_len {n k : Nat} (h : (limbs n).length ≤ k) : (digs n).length ≤ 2 * k := by
 rw [← length_digs_lt]
 have := length_limbs_lt.2 h
 rw [Nat.pow_mul]
 exact this
theorem limbs_digs_len {n k : Nat} (h : (digs n).length ≤ 2 * k) : (limbs n).length ≤ k := by
 rw [← length_limbs_lt]
 have := length_digs_lt.2 h
 rw [Nat.pow_mul] at this
 exact this
theorem digs_step {l : List Nat} {i m : Nat} (hi : i < l.length) (h : l.drop i = digs m) : m ≠ 0 ∧ l[i] = m % 65536 ∧ l.drop (i + 1) = digs (m / 65536) := by
 have hm : m ≠ 0 := by
  rintro rfl
  rw [digs_zero,List.drop_eq_nil_iff] at h;omega
 rw [List.drop_eq_getElem_cons hi,digs_pos hm] at h
 injection h with h1 h2
 exact ⟨hm,h1,h2⟩
set_option maxHeartbeats 4000000 in
set_option maxRecDepth 100000 in
theorem whole_ok (v : Value) (n : Nat) (w : World) (h : DV w v n) (hn : (digs n).length ≤ 128) :
  Calls Tryz.prog 113 #[v] w (WholeB n w) := by
 unfold DV at h
 have hdv := hide (dval_digs n)
 have hsm := hide (dsmall_digs n)
 have hstart := hide (show ([] : List Nat) ++ limbs n = limbs n from rfl)
 have hl0 := hide (show (digs n).drop 0 = digs n from rfl)
 have hlim := hide (limbs_digs_len (k := 64) (by omega) : (limbs n).length ≤ 64)
 obtain ⟨ao,cap,rfl,-,-,-⟩ := Rd.form h
 go_enter Tryz.func113,Tryz.ntmps113
 go_wp2_with fail
 refine (rtrim _ (digs n) _ (h.alloc _) hsm.out).mono ?_
 rintro e w1 ⟨u,rfl,hu,hb1,-⟩
 rw [hdv.out] at hu
 have e0 : w1.cell? ⟨w.heap.size,0,none⟩ = some (.slice none 0 0) := Bel.cellOf hb1 (by go_simp)
 have g0 : w1.frozen? ⟨w.heap.size,0,none⟩ = false := by rw [hb1.frozen (by simp)];go_simp
 have hsz1 : w.heap.size < w1.heap.size := by have := hb1.size;simp at this;omega
 have hbw1 := Bel.one _ hb1
 clear h hb1 hdv
 unfold DV at hu
 obtain ⟨l,hl⟩ : ∃ l,l = digs n := ⟨_,rfl⟩
 rw [← hl] at hu hn hsm
 have hl0 := hide (show l.drop 0 = digs n from hl)
 clear hl
 obtain ⟨ao,cap,rfl,hlc,hcm,hr⟩ := Rd.form hu
 have hcm : cap ≤ 9223372036854775807 := by unfold maxLen at hcm;omega
 go_wp2
 have hrow0 : Row (w1.alloc (Obj.cells #[.slice none 0 0] 30)) w1.heap.size 30 [.slice none 0 0] := by
  have := Row.newOf (w := w1) (c := #[.slice none 0 0]) (cs := [.slice none 0 0]) 30 rfl
  simpa using this
 obtain ⟨W,hW⟩ : ∃ W,W = w1.alloc (Obj.cells #[.slice none 0 0] 30) := ⟨_,rfl⟩
 have hbW : Below w1.heap.size w1 W := by rw [hW];exact Bel.al (Below.refl _ _) _
 rw [← hW] at hrow0 ⊢
 clear hW
 have hstart2 := hide (show ([] : List Nat) ++ limbs n = limbs n from rfl)
 go_loopw [5] (fun t wr => ∃ (i m : Nat) (A : List Nat) (bo : Option Addr) (cap2 : Nat),t = .int .i64 i ∧ i ≤ 130 ∧ i ≤ l.length + 1 ∧ A.length ≤ i ∧ Hid (l.drop i = digs m) ∧ Hid (A ++ limbs m = limbs n) ∧
   Row wr w1.heap.size 30 [.slice bo A.length cap2] ∧ Own U32 wr (w1.heap.size + 1) 68 (.slice bo A.length cap2) A ∧ Below w1.heap.size w1 wr) (fun t _ => l.length + 1 - (intOf t).toNat)
 case atStart => exact ⟨0,n,[],none,0,rfl,by omega,by omega,Nat.zero_le _,hl0,hstart2,hrow0,Own.nil _ _ _,hbW⟩
 case round =>
  obtain ⟨i,m,A,bo,cap2,rfl,hi,hil,hA,hD,hE,hrow,hown,hbel⟩ := hrel
  have d1 := hrow.cell (i := 0) (by simp)
  have f1 := hrow.frozen 0
  simp only [List.getElem_cons_zero] at d1
  have hsz := hrow.lt
  by_cases hk : i < l.length
  ·obtain ⟨hm,hx,hD2⟩ := digs_step hk hD.out
   have hlm := limbs_pos hm
   have hE2 := hE.out
   rw [hlm] at hE2
   obtain ⟨b,off,rfl,hb,hc⟩ := hr.at_ hk
   have c1 := Bel.cellOf hbel (hc i hk)
   by_cases hk2 : i + 1 < l.length
   ·obtain ⟨hm2,hy,hD3⟩ := digs_step hk2 hD2
    have c2 := Bel.cellOf hbel (hc (i + 1) hk2)
    rw [Nat.div_div_eq_div_mul] at hD3
    have hmm : m % 4294967296 = l[i] + 65536 * l[i + 1] := by rw [hx,hy];omega
    have p1 : l[i] < 65536 := by omega
    have q1 : l[i + 1] < 65536 := by omega
    obtain ⟨p,hp⟩ : ∃ p,p = l[i] := ⟨_,rfl⟩
    obtain ⟨q,hq⟩ : ∃ q,q = l[i + 1] := ⟨_,rfl⟩
    rw [← hp,← hq] at hmm
    rw [← hp] at c1 p1
    rw [← hq] at c2 q1
    have hE3 := hide (show (A ++ [p + 65536 * q]) ++ limbs (m / 4294967296) = limbs n by rw [List.append_assoc,← hmm];exact hE2)
    have hD4 := hide (show l.drop (i + 2) = digs (m / 4294967296) from hD3)
    clear hmm hm2 hy hD3 hc hx hD2 hlm hE2 hE hD hm hp hq
    go_wp2_with (with_reducible refine wpList_append_rd _ rfl _ _ 28 rfl (V := U32) (fun _ => rfl) (w1.heap.size + 1) 68 (.int .u32 0) 4 Tryz.underlying28 infoU32 rfl _ A rfl (hown.alloc _) _ [p + 65536 * q] rfl ?_ ?_ ?_ ?_ ?_)
    case refine_1 => exact Rd.new _ rfl rfl (Nat.le_refl _) (by decide) (by simp)
    case refine_2 => simp;omega
    case refine_3 => simp;omega
    case refine_4 => simp;omega
    intro v4 w4 hown4 hg4 hv4
    have hne1 : some (w1.heap.size) ≠ (Value.slice bo A.length cap2).ownBlock := fun he => by
     have := (hown.lt _ he.symm).1;omega
    have hrow4 := (hrow.alloc (Obj.cells #[Value.int IntKind.u32 ((p : Int) + 65536 * (q : Int))] 68)).grown hg4 hne1
    have hb4 : Below w1.heap.size w1 w4 := (Bel.al hbel _).grown hg4 (by simp;omega) (fun g hg => by have := (hown.lt g hg).1;omega)
    obtain ⟨ao4,cap4,rfl⟩ := hown4.shape
    have hl1 : (A ++ [p + 65536 * q]).length = A.length + 1 := by simp
    rw [hl1] at hown4
    have d4 := hrow4.cell (i := 0) (by simp)
    have e4 := hrow4.frozen 0
    simp only [List.getElem_cons_zero] at d4
    have hown5 := hown4.farRow hrow4 (by decide) 0 (.slice ao4 (A.length + 1) cap4)
    have hrow5 := hrow4.set 0 (.slice ao4 (A.length + 1) cap4)
    replace hl1 := hide hl1
    have hb5 := Bel.st hb4 (p := ⟨w1.heap.size,0,none⟩) (by simp) (.slice ao4 (A.length + 1) cap4)
    clear c1 c2 d1 f1
    go_wp2
    go_roundw
    case rel =>
     refine ⟨i + 2,m / 4294967296,A ++ [p + 65536 * q],ao4,cap4,by go_num,by omega,by omega,?_,hD4,hE3,by rw [hl1.out];exact hrow5,by rw [hl1.out];exact hown5,hb5⟩
     rw [hl1.out];omega
    case measure => simp [intOf];omega
   ·have hD3 : m / 65536 = 0 := by
     rw [List.drop_of_length_le (by omega)] at hD2
     rcases Nat.eq_zero_or_pos (m / 65536) with h | h
     ·exact h
     ·rw [digs_pos (by omega)] at hD2;cases hD2
    have hmm : m % 4294967296 = l[i] := by rw [hx];omega
    have p1 : l[i] < 65536 := by omega
    obtain ⟨p,hp⟩ : ∃ p,p = l[i] := ⟨_,rfl⟩
    rw [← hp] at hmm
    rw [← hp] at c1 p1
    have hE3 := hide (show (A ++ [p]) ++ limbs (m / 4294967296) = limbs n by rw [List.append_assoc,← hmm];exact hE2)
    have hD4 := hide (show l.drop (i + 2) = digs (m / 4294967296) by rw [show m / 4294967296 = 0 by omega,digs_zero,List.drop_of_length_le (by omega)])
    clear hmm hD3 hc hx hD2 hlm hE2 hE hD hm hp
    go_wp2_with (with_reducible refine wpList_append_rd _ rfl _ _ 28 rfl (V := U32) (fun _ => rfl) (w1.heap.size + 1) 68 (.int .u32 0) 4 Tryz.underlying28 infoU32 rfl _ A rfl (hown.alloc _) _ [p] rfl ?_ ?_ ?_ ?_ ?_)
    case refine_1 => exact Rd.new _ rfl rfl (Nat.le_refl _) (by decide) (by simp)
    case refine_2 => simp;omega
    case refine_3 => simp;omega
    case refine_4 => simp;omega
    intro v4 w4 hown4 hg4 hv4
    have hne1 : some (w1.heap.size) ≠ (Value.slice bo A.length cap2).ownBlock := fun he => by
     have := (hown.lt _ he.symm).1;omega
    have hrow4 := (hrow.alloc (Obj.cells #[Value.int IntKind.u32 (p : Int)] 68)).grown hg4 hne1
    have hb4 : Below w1.heap.size w1 w4 := (Bel.al hbel _).grown hg4 (by simp;omega) (fun g hg => by have := (hown.lt g hg).1;omega)
    obtain ⟨ao4,cap4,rfl⟩ := hown4.shape
    have hl1 : (A ++ [p]).length = A.length + 1 := by simp
    rw [hl1] at hown4
    have d4 := hrow4.cell (i := 0) (by simp)
    have e4 := hrow4.frozen 0
    simp only [List.getElem_cons_zero] at d4
    have hown5 := hown4.farRow hrow4 (by decide) 0 (.slice ao4 (A.length + 1) cap4)
    have hrow5 := hrow4.set 0 (.slice ao4 (A.length + 1) cap4)
    replace hl1 := hide hl1
    have hb5 := Bel.st hb4 (p := ⟨w1.heap.size,0,none⟩) (by simp) (.slice ao4 (A.length + 1) cap4)
    clear c1 d1 f1
    go_wp2
    go_roundw
    case rel =>
     refine ⟨i + 2,m / 4294967296,A ++ [p],ao4,cap4,by go_num,by omega,by omega,?_,hD4,hE3,by rw [hl1.out];exact hrow5,by rw [hl1.out];exact hown5,hb5⟩
     rw [hl1.out];omega
    case measure => simp [intOf];omega
  ·have hm0 : m = 0 := by
    have := hD.out
    rw [List.drop_of_length_le (by omega)] at this
    rcases Nat.eq_zero_or_pos m with h | h
    ·exact h
    ·rw [digs_pos (by omega)] at this;cases this
   subst hm0
   have hE2 := hE.out
   rw [limbs_zero,List.append_nil] at hE2
   have hnv : NV wr (.slice bo A.length cap2) n := by show Rd _ _ _ _;rw [← hE2];exact hown.rd
   have c0 := Bel.cellOf hbel e0
   have f0 := Bel.frozenOf hbel e0 g0
   have hfin := hnv.setNe c0 (fun _ h => by cases h) (.slice bo A.length cap2)
   have hbel2 := Bel.st (Bel.to hbw1 hbel) (p := ⟨w.heap.size,0,none⟩) (Nat.le_refl _) (.slice bo A.length cap2)
   clear hE2 hE hA hD hnv
   go_wp2
   refine bodyPost_ret (v := .tuple #[.agg #[.slice bo A.length cap2],.bool true]) (by simp [results,Tryz.results113,go_sem,c0]) rfl ⟨_,rfl,hfin,hbel2⟩
theorem wide_law (a0 a1 b0 b1 : Nat) (h0 : a0 < 4294967296) (h2 : b0 < 4294967296) (q : Nat) (hq : q = (a0 + 4294967296 * a1) * (b0 + 4294967296 * b1)) :
  q / 18446744073709551616 = a1 * b1 + (a1 * b0 + a0 * b0 / 4294967296) / 4294967296 + (a0 * b1 + (a1 * b0 + a0 * b0 / 4294967296) % 4294967296) / 4294967296 ∧
  q % 18446744073709551616 = (a0 * b1 + (a1 * b0 + a0 * b0 / 4294967296) % 4294967296) % 4294967296 * 4294967296 + a0 * b0 % 4294967296 := by
 have e : q = a0 * b0 + 4294967296 * (a1 * b0) + 4294967296 * (a0 * b1) + 18446744073709551616 * (a1 * b1) := by grind
 generalize a0 * b0 = p00 at *
 generalize a1 * b0 = p10 at *
 generalize a0 * b1 = p01 at *
 generalize a1 * b1 = p11 at *
 omega
set_option maxHeartbeats 1000000 in
theorem wide_any (a b : Nat) (w : World) (ha : a < 18446744073709551616) (hb : b < 18446744073709551616) :
  Calls Tryz.prog 90 #[.int .u64 (a : Int),.int .u64 (b : Int)] w
   (Pure (.tuple #[.int .u64 ((a * b / 18446744073709551616 : Nat) : Int),.int .u64 ((a * b % 18446744073709551616 : Nat) : Int)]) w) := by
 obtain ⟨a0,ea0⟩ : ∃ a0,a0 = a % 4294967296 := ⟨_,rfl⟩
 obtain ⟨a1,ea1⟩ : ∃ a1,a1 = a / 4294967296 := ⟨_,rfl⟩
 obtain ⟨b0,eb0⟩ : ∃ b0,b0 = b % 4294967296 := ⟨_,rfl⟩
 obtain ⟨b1,eb1⟩ : ∃ b1,b1 = b / 4294967296 := ⟨_,rfl⟩
 have l0 : a0 < 4294967296 := by omega
 have l1 : a1 < 4294967296 := by omega
 have m0 : b0 < 4294967296 := by omega
 have m1 : b1 < 4294967296 := by omega
 have ja0 : (a : Int) % 4294967296 = (a0 : Int) := by omega
 have ja1 : (a : Int) / 4294967296 = (a1 : Int) := by omega
 have jb0 : (b : Int) % 4294967296 = (b0 : Int) := by omega
 have jb1 : (b : Int) / 4294967296 = (b1 : Int) := by omega
 obtain ⟨w1,w2⟩ := wide_law a0 a1 b0 b1 l0 m0 (a * b) (by rw [show a0 + 4294967296 * a1 = a by omega,show b0 + 4294967296 * b1 = b by omega])
 rw [w1,w2]
 clear w1 w2 ea0 ea1 eb0 eb1
 have p00 := mul_bd l0 m0
 have p10 := mul_bd l1 m0
 have p01 := mul_bd l0 m1
 have p11 := mul_bd l1 m1
 obtain ⟨p00a,p00b⟩ := p00
 obtain ⟨p10a,p10b⟩ := p10
 obtain ⟨p01a,p01b⟩ := p01
 obtain ⟨p11a,p11b⟩ := p11
 have hfit : (a1 : Int) * b1 + ((a1 : Int) * b0 + (a0 : Int) * b0 / 4294967296) / 4294967296 + ((a0 : Int) * b1 + ((a1 : Int) * b0 + (a0 : Int) * b0 / 4294967296) % 4294967296) / 4294967296 < 18446744073709551616 := by omega
 go_enter Tryz.func90,Tryz.ntmps90
 go_wp2
 go_ret2
 exact ⟨by simp,rfl⟩
theorem half_pow (x k : Nat) : x / 2 ^ k / 2 = x / 2 ^ (k + 1) := by rw [Nat.pow_succ,Nat.div_div_eq_div_mul]
set_option maxHeartbeats 1000000 in
theorem bit_any (hi lo i : Nat) (w : World) (h1 : hi < 18446744073709551616) (h2 : lo < 18446744073709551616) (h3 : i < 128) :
  Calls Tryz.prog 91 #[.int .u64 (hi : Int),.int .u64 (lo : Int),.int .i64 (i : Int)] w
   (Pure (.int .u64 (((hi * 18446744073709551616 + lo) / 2 ^ i % 2 : Nat) : Int)) w) := by
 by_cases hc : i < 64
 ·have hv : (hi * 18446744073709551616 + lo) / 2 ^ i % 2 = lo / 2 ^ i % 2 := by
   have e : hi * 18446744073709551616 = 2 ^ i * (2 * (hi * 2 ^ (63 - i))) := by
    have : (18446744073709551616 : Nat) = 2 ^ i * 2 * 2 ^ (63 - i) := by rw [← Nat.pow_succ,← Nat.pow_add,show i + 1 + (63 - i) = 64 by omega]
    rw [this];grind
   rw [e,Nat.mul_add_div (Nat.pow_pos (by omega)),Nat.mul_add_mod]
  rw [hv]
  clear hv
  obtain ⟨r,hr⟩ : ∃ r,r = lo / 2 ^ i % 2 := ⟨_,rfl⟩
  rw [← hr]
  replace hr := hide hr
  go_enter Tryz.func91,Tryz.ntmps91
  go_wp2
  go_loop [7,8] (fun x k => ∃ j xv : Nat,j ≤ i ∧ k = .int .i64 j ∧ x = .int .u64 xv ∧ Hid (xv = lo / 2 ^ j) ∧ xv < 18446744073709551616) (fun _ k => i - (intOf k).toNat)
  case atStart => exact ⟨0,lo,Nat.zero_le _,rfl,rfl,by show _ = _;simp,h2⟩
  case round =>
   obtain ⟨j,xv,hj,rfl,rfl,hx,hxb⟩ := hrel
   by_cases hji : j < i
   ·have hnew := hide (show xv / 2 = lo / 2 ^ (j + 1) by rw [hx.out,half_pow])
    go_wp2
    go_round
    case rel => exact ⟨j + 1,xv / 2,by omega,by go_num,by go_num,hnew,by omega⟩
    case measure => simp [intOf];omega
   ·obtain rfl : j = i := by omega
    go_wp2
    go_ret
    have e : ((xv : Int) % 2) = (r : Int) := by rw [hr.out,← hx.out];omega
    exact ⟨by rw [← e];rfl,rfl⟩
 ·obtain ⟨k,rfl⟩ : ∃ k,i = 64 + k := ⟨i - 64,by omega⟩
  have hv : (hi * 18446744073709551616 + lo) / 2 ^ (64 + k) % 2 = hi / 2 ^ k % 2 := by
   rw [Nat.pow_add,← Nat.div_div_eq_div_mul]
   congr 2
   have : (2 : Nat) ^ 64 = 18446744073709551616 := by decide
   rw [this]
   omega
  rw [hv]
  clear hv
  obtain ⟨r,hr⟩ : ∃ r,r = hi / 2 ^ k % 2 := ⟨_,rfl⟩
  rw [← hr]
  replace hr := hide hr
  go_enter Tryz.func91,Tryz.ntmps91
  go_wp2
  go_loop [7,8] (fun x t => ∃ j xv : Nat,j ≤ k ∧ t = .int .i64 j ∧ x = .int .u64 xv ∧ Hid (xv = hi / 2 ^ j) ∧ xv < 18446744073709551616) (fun _ t => k - (intOf t).toNat)
  case atStart => exact ⟨0,hi,Nat.zero_le _,rfl,rfl,by show _ = _;simp,h1⟩
  case round =>
   obtain ⟨j,xv,hj,rfl,rfl,hx,hxb⟩ := hrel
   by_cases hji : j < k
   ·have hnew := hide (show xv / 2 = hi / 2 ^ (j + 1) by rw [hx.out,half_pow])
    go_wp2
    go_round
    case rel => exact ⟨j + 1,xv / 2,by omega,by go_num,by go_num,hnew,by omega⟩
    case measure => simp [intOf];omega
   ·obtain rfl : j = k := by omega
    go_wp2
    go_ret
    have e : ((xv : Int) % 2) = (r : Int) := by rw [hr.out,← hx.out];omega
    exact ⟨by rw [← e];rfl,rfl⟩
theorem bit_div {P c q r i : Nat} (hc : 0 < c) (h : P / 2 ^ (i + 1) = q * c + r) (hr : r < c) :
  P / 2 ^ i = 2 * q * c + (2 * r + P / 2 ^ i % 2) := by
 have h1 := half_pow P i
 rw [h] at h1
 have h2 : P / 2 ^ i = 2 * (P / 2 ^ i / 2) + P / 2 ^ i % 2 := by omega
 rw [h1] at h2
 generalize P / 2 ^ i = x at *
 grind
theorem quot_lt {P c q r i : Nat} (hP : P < c * 18446744073709551616) (h : P / 2 ^ i = q * c + r) : q < 18446744073709551616 := by
 have h1 : P / 2 ^ i ≤ P := Nat.div_le_self _ _
 have h2 : q * c < 18446744073709551616 * c := by rw [Nat.mul_comm 18446744073709551616];omega
 exact Nat.lt_of_mul_lt_mul_right h2
theorem bit_int (hi lo : Nat) (x : Int) (w : World) (h1 : hi < 18446744073709551616) (h2 : lo < 18446744073709551616) (h0 : 0 ≤ x) (h3 : x < 128) :
  Calls Tryz.prog 91 #[.int .u64 (hi : Int),.int .u64 (lo : Int),.int .i64 x] w
   (Pure (.int .u64 (((hi * 18446744073709551616 + lo) / 2 ^ x.toNat % 2 : Nat) : Int)) w) := by
 obtain ⟨i,rfl⟩ := Int.eq_ofNat_of_zero_le h0
 exact bit_any hi lo i w h1 h2 (by omega)
def Int3 (x y c : Int) (w : World) (e : Ending) (w' : World) : Prop := e = .returned (.tuple #[.int .i64 x,.int .i64 y,.int .i64 c]) ∧ w = w'
set_option maxHeartbeats 2000000 in
set_option maxRecDepth 100000 in
theorem muldiv_any (a b c : Nat) (w : World) (ha : a ≤ 9223372036854775807) (hb : b ≤ 9223372036854775807) (hc0 : 0 < c) (hc : c ≤ 9223372036854775807) (hq : a * b / c ≤ 9223372036854775807) :
  Calls Tryz.prog 55 #[.int .i64 (a : Int),.int .i64 (b : Int),.int .i64 (c : Int)] w (Int3 ((a * b / c : Nat) : Int) ((a * b % c : Nat) : Int) 0 w) := by
 obtain ⟨P,hP⟩ : ∃ P,P = a * b := ⟨_,rfl⟩
 have hPc : P < c * 18446744073709551616 := by
  have := Nat.div_add_mod P c
  have h2 := Nat.mod_lt P hc0
  rw [← hP] at hq
  have h3 : c * (P / c) ≤ c * 9223372036854775807 := Nat.mul_le_mul_left _ hq
  omega
 obtain ⟨hi,hhi⟩ : ∃ hi,hi = P / 18446744073709551616 := ⟨_,rfl⟩
 obtain ⟨lo,hlo⟩ : ∃ lo,lo = P % 18446744073709551616 := ⟨_,rfl⟩
 have hhc : hi < c := by rw [hhi];omega
 have hlb : lo < 18446744073709551616 := by omega
 have hPe : hi * 18446744073709551616 + lo = P := by omega
 have hw := hide (fun w => wide_any a b w (by omega) (by omega))
 obtain ⟨Q,hQ⟩ : ∃ Q,Q = a * b / c := ⟨_,rfl⟩
 obtain ⟨R,hR⟩ : ∃ R,R = a * b % c := ⟨_,rfl⟩
 rw [← hQ,← hR]
 rw [← hP] at hQ hR
 have hQb : Q ≤ 9223372036854775807 := by rw [hQ,hP];exact hq
 have hz : ((c : Int) == 0) = false := by simp;omega
 have hhi2 : (hi : Int) < (c : Int) := by omega
 have hdc : decide (c ≤ hi) = false := decide_eq_false (by omega)
 replace hP := hide hP
 replace hhi := hide hhi
 replace hlo := hide hlo
 replace hPe := hide hPe
 replace hQ := hide hQ
 replace hR := hide hR
 clear hq
 go_enter Tryz.func55,Tryz.ntmps55
 go_wp2_with fail
 refine (hw.out _).mono ?_
 rintro e w' ⟨rfl,rfl⟩
 rw [← hP.out,← hhi.out,← hlo.out]
 go_wp2
 go_loopw [11,12,13] (fun qq rr ii wr => w = wr ∧ ∃ (q r m : Nat),m ≤ 128 ∧ qq = .int .u64 q ∧ rr = .int .u64 r ∧ ii = .int .i64 ((m : Int) - 1) ∧ r < c ∧ Hid (P / 2 ^ m = q * c + r) ∧ q < 18446744073709551616) (fun _ _ ii _ => (intOf ii + 1).toNat)
 case atStart =>
  refine ⟨rfl,0,0,128,by omega,rfl,rfl,rfl,hc0,?_,by omega⟩
  show P / 2 ^ 128 = _
  rw [Nat.div_eq_of_lt]
  ·simp
  ·have : (2 : Nat) ^ 128 = 18446744073709551616 * 18446744073709551616 := by decide
   omega
 case round =>
  obtain ⟨rfl,q,r,m,hm,rfl,rfl,rfl,hr,hE,hqb⟩ := hrel
  by_cases hm0 : m = 0
  ·subst hm0
   have hE2 := hE.out
   rw [Nat.pow_zero,Nat.div_one] at hE2
   have hq1 : Q = q := by rw [hQ.out,hE2,Nat.mul_comm q c,Nat.mul_add_div hc0,Nat.div_eq_of_lt hr];omega
   have hr1 : R = r := by rw [hR.out,hE2,Nat.mul_comm q c,Nat.mul_add_mod,Nat.mod_eq_of_lt hr]
   subst hq1 hr1
   clear hE2 hE
   go_wp2
   go_ret3
   exact ⟨rfl,rfl⟩
  ·have hst := bit_div (i := m - 1) hc0 (by rw [Nat.sub_add_cancel (by omega)];exact hE.out) hr
   obtain ⟨bt,hbt⟩ : ∃ bt,bt = P / 2 ^ (m - 1) % 2 := ⟨_,rfl⟩
   rw [← hbt] at hst
   rw [show m - 1 = ((m : Int) - 1).toNat by omega] at hbt
   have hb2 : bt < 2 := by omega
   have h2q : 2 * q < 18446744073709551616 := quot_lt hPc hst
   replace hbt := hide hbt
   by_cases hge : c ≤ 2 * r + bt
   ·have hnew : P / 2 ^ (m - 1) = (2 * q + 1) * c + (2 * r + bt - c) := by
     rw [hst,Nat.add_mul];omega
    have h2q1 : 2 * q + 1 < 18446744073709551616 := quot_lt hPc hnew
    replace hnew := hide hnew
    clear hst
    go_wp2_with fail
    refine (bit_int hi lo _ _ (by omega) hlb (by omega) (by omega)).mono ?_
    rintro e w' ⟨rfl,rfl⟩
    rw [hPe.out,← hbt.out]
    go_wp2
    go_roundw
    case rel => exact ⟨trivial,2 * q + 1,2 * r + bt - c,m - 1,by omega,by go_num,by go_num,by go_num,by omega,hnew,by omega⟩
    case measure => simp [intOf] <;> omega
   ·replace hst := hide hst
    go_wp2_with fail
    refine (bit_int hi lo _ _ (by omega) hlb (by omega) (by omega)).mono ?_
    rintro e w' ⟨rfl,rfl⟩
    rw [hPe.out,← hbt.out]
    go_wp2
    go_roundw
    case rel => exact ⟨trivial,2 * q,2 * r + bt,m - 1,by omega,by go_num,by go_num,by go_num,by omega,hst,by omega⟩
    case measure => simp [intOf] <;> omega
set_option maxHeartbeats 2000000 in
set_option maxRecDepth 100000 in
theorem muldiv_over (a b c : Nat) (w : World) (ha : a ≤ 9223372036854775807) (hb : b ≤ 9223372036854775807) (hc0 : 0 < c) (hc : c ≤ 9223372036854775807) (hq : 9223372036854775807 < a * b / c) :
  Calls Tryz.prog 55 #[.int .i64 (a : Int),.int .i64 (b : Int),.int .i64 (c : Int)] w (Int3 0 0 9 w) := by
 obtain ⟨P,hP⟩ : ∃ P,P = a * b := ⟨_,rfl⟩
 obtain ⟨hi,hhi⟩ : ∃ hi,hi = P / 18446744073709551616 := ⟨_,rfl⟩
 obtain ⟨lo,hlo⟩ : ∃ lo,lo = P % 18446744073709551616 := ⟨_,rfl⟩
 have hlb : lo < 18446744073709551616 := by omega
 have hib : hi < 18446744073709551616 := by
  have : P ≤ 9223372036854775807 * 9223372036854775807 := by rw [hP];exact Nat.mul_le_mul ha hb
  omega
 have hPe : hi * 18446744073709551616 + lo = P := by omega
 have hw := hide (fun w => wide_any a b w (by omega) (by omega))
 have hz : ((c : Int) == 0) = false := by simp;omega
 by_cases hhc : hi < c
 ·have hPc : P < c * 18446744073709551616 := by omega
  obtain ⟨Q,hQ⟩ : ∃ Q,Q = a * b / c := ⟨_,rfl⟩
  rw [← hQ] at hq
  rw [← hP] at hQ
  have hhi2 : (hi : Int) < (c : Int) := by omega
  have hdc : decide (c ≤ hi) = false := decide_eq_false (by omega)
  replace hP := hide hP
  replace hhi := hide hhi
  replace hlo := hide hlo
  replace hPe := hide hPe
  replace hQ := hide hQ
  go_enter Tryz.func55,Tryz.ntmps55
  go_wp2_with fail
  refine (hw.out _).mono ?_
  rintro e w' ⟨rfl,rfl⟩
  rw [← hP.out,← hhi.out,← hlo.out]
  go_wp2
  go_loopw [11,12,13] (fun qq rr ii wr => w = wr ∧ ∃ (q r m : Nat),m ≤ 128 ∧ qq = .int .u64 q ∧ rr = .int .u64 r ∧ ii = .int .i64 ((m : Int) - 1) ∧ r < c ∧ Hid (P / 2 ^ m = q * c + r) ∧ q < 18446744073709551616) (fun _ _ ii _ => (intOf ii + 1).toNat)
  case atStart =>
   refine ⟨rfl,0,0,128,by omega,rfl,rfl,rfl,hc0,?_,by omega⟩
   show P / 2 ^ 128 = _
   rw [Nat.div_eq_of_lt]
   ·simp
   ·have : (2 : Nat) ^ 128 = 18446744073709551616 * 18446744073709551616 := by decide
    omega
  case round =>
   obtain ⟨rfl,q,r,m,hm,rfl,rfl,rfl,hr,hE,hqb⟩ := hrel
   by_cases hm0 : m = 0
   ·subst hm0
    have hE2 := hE.out
    rw [Nat.pow_zero,Nat.div_one] at hE2
    have hq1 : Q = q := by rw [hQ.out,hE2,Nat.mul_comm q c,Nat.mul_add_div hc0,Nat.div_eq_of_lt hr];omega
    subst hq1
    clear hE2 hE
    go_wp2
    go_ret3
    exact ⟨rfl,rfl⟩
   ·have hst := bit_div (i := m - 1) hc0 (by rw [Nat.sub_add_cancel (by omega)];exact hE.out) hr
    obtain ⟨bt,hbt⟩ : ∃ bt,bt = P / 2 ^ (m - 1) % 2 := ⟨_,rfl⟩
    rw [← hbt] at hst
    rw [show m - 1 = ((m : Int) - 1).toNat by omega] at hbt
    have hb2 : bt < 2 := by omega
    have h2q : 2 * q < 18446744073709551616 := quot_lt hPc hst
    replace hbt := hide hbt
    by_cases hge : c ≤ 2 * r + bt
    ·have hnew : P / 2 ^ (m - 1) = (2 * q + 1) * c + (2 * r + bt - c) := by
      rw [hst,Nat.add_mul];omega
     have h2q1 : 2 * q + 1 < 18446744073709551616 := quot_lt hPc hnew
     replace hnew := hide hnew
     clear hst
     go_wp2_with fail
     refine (bit_int hi lo _ _ (by omega) hlb (by omega) (by omega)).mono ?_
     rintro e w' ⟨rfl,rfl⟩
     rw [hPe.out,← hbt.out]
     go_wp2
     go_roundw
     case rel => exact ⟨trivial,2 * q + 1,2 * r + bt - c,m - 1,by omega,by go_num,by go_num,by go_num,by omega,hnew,by omega⟩
     case measure => simp [intOf] <;> omega
    ·replace hst := hide hst
     go_wp2_with fail
     refine (bit_int hi lo _ _ (by omega) hlb (by omega) (by omega)).mono ?_
     rintro e w' ⟨rfl,rfl⟩
     rw [hPe.out,← hbt.out]
     go_wp2
     go_roundw
     case rel => exact ⟨trivial,2 * q,2 * r + bt,m - 1,by omega,by go_num,by go_num,by go_num,by omega,hst,by omega⟩
     case measure => simp [intOf] <;> omega
 ·have hhi2 : (c : Int) ≤ (hi : Int) := by omega
  replace hP := hide hP
  replace hhi := hide hhi
  replace hlo := hide hlo
  replace hPe := hide hPe
  clear hq
  go_enter Tryz.func55,Tryz.ntmps55
  go_wp2_with fail
  refine (hw.out _).mono ?_
  rintro e w' ⟨rfl,rfl⟩
  rw [← hP.out,← hhi.out,← hlo.out]
  go_wp2
  go_ret3
  exact ⟨rfl,rfl⟩
theorem in_any (x m : Int) (w : World) : Calls Tryz.prog 54 #[.int .i64 x,.int .i64 m] w (Pure (.bool (decide (0 ≤ x ∧ x ≤ m))) w) := by
 by_cases h1 : 0 ≤ x
 ·by_cases h2 : x ≤ m
  ·have h : decide (0 ≤ x ∧ x ≤ m) = true := decide_eq_true ⟨h1,h2⟩
   rw [h]
   clear h
   go_enter Tryz.func54,Tryz.ntmps54
   go_wp2
   go_ret
   exact ⟨rfl,rfl⟩
  ·have h : decide (0 ≤ x ∧ x ≤ m) = false := decide_eq_false (by omega)
   rw [h]
   clear h
   go_enter Tryz.func54,Tryz.ntmps54
   go_wp2
   go_ret
   exact ⟨rfl,rfl⟩
 ·have h : decide (0 ≤ x ∧ x ≤ m) = false := decide_eq_false (by omega)
  rw [h]
  clear h
  go_enter Tryz.func54,Tryz.ntmps54
  go_wp2
  go_ret
  exact ⟨rfl,rfl⟩
theorem in_yes (x m : Int) (w : World) (h1 : 0 ≤ x) (h2 : x ≤ m) : Calls Tryz.prog 54 #[.int .i64 x,.int .i64 m] w (Pure (.bool true) w) := by
 have := in_any x m w
 rwa [decide_eq_true (⟨h1,h2⟩ : 0 ≤ x ∧ x ≤ m)] at this
theorem in_no (x m : Int) (w : World) (h : ¬ (0 ≤ x ∧ x ≤ m)) : Calls Tryz.prog 54 #[.int .i64 x,.int .i64 m] w (Pure (.bool false) w) := by
 have := in_any x m w
 rwa [decide_eq_false h] at this
theorem muldiv_int (a : Nat) (b : Int) (c : Nat) (w : World) (ha : a ≤ 9223372036854775807) (hb0 : 0 ≤ b) (hb : b ≤ 9223372036854775807) (hc0 : 0 < c) (hc : c ≤ 9223372036854775807) (hq : a * b.toNat / c ≤ 9223372036854775807) :
  Calls Tryz.prog 55 #[.int .i64 (a : Int),.int .i64 b,.int .i64 (c : Int)] w (Int3 ((a * b.toNat / c : Nat) : Int) ((a * b.toNat % c : Nat) : Int) 0 w) := by
 obtain ⟨b,rfl⟩ := Int.eq_ofNat_of_zero_le hb0
 exact muldiv_any a b c w ha (by omega) hc0 hc hq
theorem muldiv_int_over (a : Nat) (b : Int) (c : Nat) (w : World) (ha : a ≤ 9223372036854775807) (hb0 : 0 ≤ b) (hb : b ≤ 9223372036854775807) (hc0 : 0 < c) (hc : c ≤ 9223372036854775807) (hq : 9223372036854775807 < a * b.toNat / c) :
  Calls Tryz.prog 55 #[.int .i64 (a : Int),.int .i64 b,.int .i64 (c : Int)] w (Int3 0 0 9 w) := by
 obtain ⟨b,rfl⟩ := Int.eq_ofNat_of_zero_le hb0
 exact muldiv_over a b c w ha (by omega) hc0 hc hq
theorem choose_mono (n k i : Nat) (hk : k ≤ n) (hi : i ≤ k) : choose (n - k + i) i ≤ choose n k := by
 obtain ⟨d,rfl⟩ : ∃ d,k = i + d := ⟨k - i,by omega⟩
 clear hi
 induction d generalizing i with
 | zero => rw [Nat.add_zero,show n - i + i = n by omega];exact Nat.le_refl _
 | succ d ih =>
  have h1 := ih (i := i + 1) (by omega)
  have h2 := (choose_mono_step (n - (i + (d + 1)) + i) i).1
  rw [show i + 1 + d = i + (d + 1) by omega,show n - (i + (d + 1)) + (i + 1) = n - (i + (d + 1)) + i + 1 by omega] at h1
  omega
set_option maxHeartbeats 2000000 in
set_option maxRecDepth 100000 in
theorem rcount_in (n k : Nat) (w : World) (hn : n ≤ 80) (hk : k ≤ n) :
  Calls Tryz.prog 22 #[.int .i64 (n : Int),.int .i64 (k : Int)] w (IntP (countV n k).1 (countV n k).2 w) := by
 have hcv : countV n k = if choose n k ≤ 9223372036854775807 then ((choose n k : Int),0) else (0,9) := by
  unfold countV
  rw [if_pos (by omega),chooseI_nat n k n k rfl rfl]
 replace hcv := hide hcv
 go_enter Tryz.func22,Tryz.ntmps22
 go_wp2_with fail
 refine (in_yes _ _ _ (by omega) (by omega)).mono ?_
 rintro e w' ⟨rfl,rfl⟩
 go_wp2_with fail
 refine (in_yes _ _ _ (by omega) (by omega)).mono ?_
 rintro e w' ⟨rfl,rfl⟩
 go_wp2
 go_loopw [6,7] (fun c t wr => w = wr ∧ ∃ (i x : Nat),1 ≤ i ∧ i ≤ k + 1 ∧ t = .int .i64 i ∧ c = .int .i64 x ∧ Hid (x = choose (n - k + i - 1) (i - 1)) ∧ x ≤ 9223372036854775807) (fun _ t _ => k + 1 - (intOf t).toNat)
 case atStart => exact ⟨rfl,1,1,Nat.le_refl _,by omega,rfl,rfl,by show _ = _;rw [Nat.sub_self,choose_zero],by omega⟩
 case round =>
  obtain ⟨rfl,i,x,hi1,hik,rfl,rfl,hx,hxb⟩ := hrel
  by_cases hik' : i ≤ k
  ·have hprod : x * (n - k + i) / i = choose (n - k + i) i := by
    have h1 := choose_mul (n - k + i - 1) (i - 1)
    rw [show n - k + i - 1 + 1 = n - k + i by omega,Nat.sub_add_cancel hi1,← hx.out] at h1
    rw [← h1,Nat.mul_div_cancel _ (by omega)]
   have hmono := choose_mono n k i hk hik'
   have htn : ((n : Int) - k + i).toNat = n - k + i := by omega
   obtain ⟨y,hy⟩ : ∃ y,y = choose (n - k + i) i := ⟨_,rfl⟩
   rw [← hy] at hprod hmono
   rw [← htn] at hprod
   replace hprod := hide hprod
   replace hy := hide hy
   clear htn
   by_cases hyb : y ≤ 9223372036854775807
   ·clear hmono
    go_wp2_with fail
    refine (muldiv_int _ _ _ _ hxb (by omega) (by omega) (by omega) (by omega) (by rw [hprod.out];exact hyb)).mono ?_
    rintro e w' ⟨rfl,rfl⟩
    rw [hprod.out]
    go_wp2
    go_roundw
    case rel => exact ⟨trivial,i + 1,y,by omega,by omega,by go_num,rfl,by show _ = _;rw [hy.out,show n - k + (i + 1) - 1 = n - k + i by omega,Nat.add_sub_cancel],hyb⟩
    case measure => simp [intOf];omega
   ·have hov := hide (show countV n k = (0,9) by rw [hcv.out,if_neg (by omega)])
    clear hmono
    go_wp2_with fail
    refine (muldiv_int_over _ _ _ _ hxb (by omega) (by omega) (by omega) (by omega) (by rw [hprod.out];omega)).mono ?_
    rintro e w' ⟨rfl,rfl⟩
    clear hyb
    go_wp2
    go_ret2
    rw [hov.out]
    exact ⟨rfl,rfl⟩
  ·have hxe := hx.out
   rw [show n - k + i - 1 = n by omega,show i - 1 = k by omega] at hxe
   have hok := hide (show countV n k = ((x : Int),0) by rw [hcv.out,← hxe,if_pos hxb])
   clear hxe hx
   go_wp2
   go_ret2
   rw [hok.out]
   exact ⟨rfl,rfl⟩
theorem rcount_any (n k : Int) (w : World) : Calls Tryz.prog 22 #[.int .i64 n,.int .i64 k] w (IntP (countV n k).1 (countV n k).2 w) := by
 by_cases hn : 0 ≤ n ∧ n ≤ 80
 ·by_cases hk : 0 ≤ k ∧ k ≤ n
  ·obtain ⟨n,rfl⟩ := Int.eq_ofNat_of_zero_le hn.1
   obtain ⟨k,rfl⟩ := Int.eq_ofNat_of_zero_le hk.1
   exact rcount_in n k w (by omega) (by omega)
  ·have h0 : chooseI n k = 0 := by
    unfold chooseI
    by_cases h : k < 0
    ·rw [if_pos h]
    ·rw [if_neg h,choose_gt (by omega)]
   have hc : countV n k = (0,0) := by unfold countV;rw [if_pos hn,h0];rfl
   rw [hc]
   clear hc h0
   go_enter Tryz.func22,Tryz.ntmps22
   go_wp2_with fail
   refine (in_yes _ _ _ (by omega) (by omega)).mono ?_
   rintro e w' ⟨rfl,rfl⟩
   go_wp2_with fail
   refine (in_no _ _ _ hk).mono ?_
   rintro e w' ⟨rfl,rfl⟩
   clear hn hk
   go_wp2
   go_ret2
   exact ⟨rfl,rfl⟩
 ·have hc : countV n k = (0,2) := by unfold countV;rw [if_neg hn]
  rw [hc]
  clear hc
  go_enter Tryz.func22,Tryz.ntmps22
  go_wp2_with fail
  refine (in_no _ _ _ hn).mono ?_
  rintro e w' ⟨rfl,rfl⟩
  clear hn
  go_wp2
  go_ret2
  exact ⟨rfl,rfl⟩
theorem countV_ok (n k : Nat) (hn : n ≤ 80) (hx : choose n k ≤ 9223372036854775807) (x y : Int) (h1 : x = n) (h2 : y = k) : countV x y = ((choose n k : Int),0) := by
 unfold countV
 rw [chooseI_nat n k x y h1 h2,if_pos (by omega),if_pos hx]
def DrewB (v : Value) (w : World) (e : Ending) (w' : World) : Prop := e = .returned v ∧ Below w.heap.size w w'
theorem dval_split (a : List Nat) (i : Nat) (h : i ≤ a.length) : dval a = dval (a.take i) + 65536 ^ i * dval (a.drop i) := by
 have := dval_append (a.take i) (a.drop i)
 rw [List.take_append_drop,List.length_take,Nat.min_eq_left h] at this
 exact this
theorem dval_ltd {a b : List Nat} (sa : DSmall a) {i : Nat} (ha : i < a.length) (hb : i < b.length) (he : dval (a.drop (i + 1)) = dval (b.drop (i + 1))) (hlt : a[i] < b[i]) : dval a < dval b := by
 have e1 := dval_split a i (by omega)
 have e2 := dval_split b i (by omega)
 rw [List.drop_eq_getElem_cons ha,dval] at e1
 rw [List.drop_eq_getElem_cons hb,dval,← he] at e2
 have h1 := dval_lt (dsmall_take sa i)
 rw [List.length_take,Nat.min_eq_left (by omega)] at h1
 have h2 := Nat.mul_le_mul_left (65536 ^ i) (show a[i] + 65536 * dval (a.drop (i + 1)) + 1 ≤ b[i] + 65536 * dval (a.drop (i + 1)) by omega)
 rw [Nat.mul_add,Nat.mul_one] at h2
 omega
theorem digs_len_lt {m n : Nat} (h : (digs m).length < (digs n).length) : m < n := by
 have h1 := length_digs_lt.2 (Nat.le_refl (digs m).length)
 have h2 : ¬ n < 65536 ^ (digs m).length := fun h' => by have := length_digs_lt.1 h';omega
 omega
def cmpV (m n : Nat) : Int := if m < n then -1 else if n < m then 1 else 0
set_option maxHeartbeats 2000000 in
set_option maxRecDepth 100000 in
theorem rcmp (va vb : Value) (m n : Nat) (w : World) (ha : DV w va m) (hb : DV w vb n) :
  Calls Tryz.prog 132 #[va,vb] w (DrewB (.int .i64 (cmpV m n)) w) := by
 unfold DV at ha hb
 have sa := hide (dsmall_digs m)
 have sb := hide (dsmall_digs n)
 have em := hide (dval_digs m)
 have en := hide (dval_digs n)
 have l1 := hide (digs_len_lt (m := m) (n := n))
 have l2 := hide (digs_len_lt (m := n) (n := m))
 have c1 := hide (show m < n → cmpV m n = -1 by intro h;unfold cmpV;rw [if_pos h])
 have c2 := hide (show n < m → cmpV m n = 1 by intro h;unfold cmpV;rw [if_neg (by omega),if_pos h])
 have c3 := hide (show m = n → cmpV m n = 0 by intro h;unfold cmpV;rw [if_neg (by omega),if_neg (by omega)])
 obtain ⟨a,hae⟩ : ∃ a,a = digs m := ⟨_,rfl⟩
 obtain ⟨b,hbe⟩ : ∃ b,b = digs n := ⟨_,rfl⟩
 rw [← hae] at ha sa em l1 l2
 rw [← hbe] at hb sb en l1 l2
 clear hae hbe
 obtain ⟨aa,ca,rfl,hla,hca,hra⟩ := Rd.form ha
 obtain ⟨ab,cb,rfl,hlb,hcb,hrb⟩ := Rd.form hb
 have hca' : ca ≤ 9223372036854775807 := by unfold maxLen at hca;omega
 have hcb' : cb ≤ 9223372036854775807 := by unfold maxLen at hcb;omega
 clear ha hb
 by_cases hl : a.length = b.length
 ·have l3 : ((a.length : Int) != b.length) = false := by simp;omega
  have k1 : a.length ≤ b.length := by omega
  have k2 : b.length ≤ a.length := by omega
  replace hl := hide hl
  go_enter Tryz.func132,Tryz.ntmps132
  go_wp2
  go_loopw [5] (fun t wr => ∃ (j d : Nat),j ≤ a.length ∧ t = .int .i64 ((j : Int) - 1) ∧ wr = w.drewN d ∧ Hid (dval (a.drop j) = dval (b.drop j))) (fun t _ => (intOf t + 1).toNat)
  case atStart => exact ⟨a.length,0,Nat.le_refl _,rfl,rfl,by show _ = _;rw [List.drop_of_length_le (Nat.le_refl _),List.drop_of_length_le (by omega)]⟩
  case round =>
   obtain ⟨j,d,hj,rfl,rfl,hE⟩ := hrel
   by_cases hj0 : j = 0
   ·subst hj0
    have hmn : m = n := by have := hE.out;rw [List.drop_zero,List.drop_zero,em.out,en.out] at this;exact this
    have c4 := hide (c3.out hmn)
    clear hmn hE
    go_wp2
    go_ret
    exact ⟨by rw [c4.out];rfl,Bel.drN (Below.refl _ _) _⟩
   ·obtain ⟨i,rfl⟩ : ∃ i,j = i + 1 := ⟨j - 1,by omega⟩
    have hi1 : i < a.length := by omega
    have hi2 : i < b.length := by omega
    obtain ⟨ba,offa,rfl,hba,hcella⟩ := hra.at_ hi1
    obtain ⟨bb,offb,rfl,hbb,hcellb⟩ := hrb.at_ hi2
    have d1 := hcella _ hi1
    have d2 := hcellb _ hi2
    clear hcella hcellb
    by_cases hlt : a[i] < b[i]
    ·have c4 := hide (c1.out (by have := dval_ltd sa.out hi1 hi2 hE.out hlt;rw [em.out,en.out] at this;exact this))
     clear hE
     go_wp2
     go_quiet (fail)
     go_wp2
     go_ret
     exact ⟨by rw [c4.out];rfl,Bel.drN (Bel.drN (Below.refl _ _) _) _⟩
    ·by_cases hgt : b[i] < a[i]
     ·have c4 := hide (c2.out (by have := dval_ltd sb.out hi2 hi1 hE.out.symm hgt;rw [em.out,en.out] at this;exact this))
      clear hE
      go_wp2
      go_quiet (fail)
      go_wp2
      go_quiet (fail)
      go_wp2
      go_ret
      exact ⟨by rw [c4.out];rfl,Bel.drN (Bel.drN (Bel.drN (Below.refl _ _) _) _) _⟩
     ·have hE2 := hide (show dval (a.drop i) = dval (b.drop i) by rw [List.drop_eq_getElem_cons hi1,List.drop_eq_getElem_cons hi2,dval,dval,hE.out];omega)
      go_wp2
      go_quiet (fail)
      go_wp2
      go_quiet (fail)
      go_wp2
      go_roundw
      case rel => exact ⟨i,_,by omega,by go_num,rfl,hE2⟩
      case measure => first | (simp [intOf];done) | (simp [intOf];omega)
 ·have l3 : ((a.length : Int) != b.length) = true := by simp;omega
  by_cases hlt : a.length < b.length
  ·have c4 := hide (c1.out (l1.out hlt))
   clear hl
   go_enter Tryz.func132,Tryz.ntmps132
   go_wp2
   go_ret
   exact ⟨by rw [c4.out];rfl,Below.refl _ _⟩
  ·have c4 := hide (c2.out (l2.out (by omega)))
   clear hl
   go_enter Tryz.func132,Tryz.ntmps132
   go_wp2
   go_ret
   exact ⟨by rw [c4.out];rfl,Below.refl _ _⟩
theorem sub_step {A a b : List Nat} {i c c' x S T : Nat} (hl : A.length = i) (h : dval A + 65536 ^ i * dval (a.drop i) + S = T + 65536 ^ i * (c + dval (b.drop i))) (hx : x + b.getD i 0 + c = a.getD i 0 + 65536 * c') :
  dval (A ++ [x]) + 65536 ^ (i + 1) * dval (a.drop (i + 1)) + S = T + 65536 ^ (i + 1) * (c' + dval (b.drop (i + 1))) := by
 rw [dval_drop a i,dval_drop b i] at h
 rw [dval_snoc,hl,Nat.pow_succ]
 obtain ⟨p,hp⟩ : ∃ p,p = a.getD i 0 := ⟨_,rfl⟩
 obtain ⟨q,hq⟩ : ∃ q,q = b.getD i 0 := ⟨_,rfl⟩
 rw [← hp,← hq] at hx
 rw [← hp,← hq] at h
 clear hp hq hl
 have h2 := congrArg (fun t => 65536 ^ i * t) hx
 simp only [Nat.mul_add] at h2 h ⊢
 grind
theorem sub_end {v B T P z : Nat} (h : v + B = T + P * z) (hv : v < P) (hB : B ≤ T) : v = T - B := by
 rcases Nat.eq_zero_or_pos z with h0 | h0
 ·subst h0;simp at h;omega
 ·have := Nat.mul_le_mul_left P h0
  omega
set_option maxHeartbeats 4000000 in
set_option maxRecDepth 100000 in
theorem rsub (va vb : Value) (m n : Nat) (w : World) (ha : DV w va m) (hb : DV w vb n) (hmn : n ≤ m) (lm : (digs m).length ≤ 1000) :
  Calls Tryz.prog 126 #[va,vb] w (SomeDig (m - n) w) := by
 unfold DV at ha hb
 have SA := hide (dsmall_digs m)
 have SB := hide (dsmall_digs n)
 have em := hide (dval_digs m)
 have en := hide (dval_digs n)
 obtain ⟨a,hae⟩ : ∃ a,a = digs m := ⟨_,rfl⟩
 obtain ⟨b,hbe⟩ : ∃ b,b = digs n := ⟨_,rfl⟩
 rw [← hae] at ha SA em lm
 rw [← hbe] at hb SB en
 clear hae hbe
 obtain ⟨aa,ca,rfl,hla,hca,hra⟩ := Rd.form ha
 obtain ⟨ab,cb,rfl,hlb,hcb,hrb⟩ := Rd.form hb
 have hca' : ca ≤ 9223372036854775807 := by unfold maxLen at hca;omega
 have hcb' : cb ≤ 9223372036854775807 := by unfold maxLen at hcb;omega
 clear ha hb
 go_enter Tryz.func126,Tryz.ntmps126
 go_wp2
 go_loopw [5,6,7] (fun vv cc jj wr => ∃ (j c : Nat) (A : List Nat) (bo : Option Addr) (cap2 : Nat),vv = .slice bo A.length cap2 ∧ jj = .int .i64 j ∧ cc = .int .i64 c ∧ c ≤ 1 ∧ j ≤ a.length ∧ Hid (A.length = j) ∧ A.length ≤ 1000 ∧ Hid (DSmall A) ∧ Hid (dval A + 65536 ^ j * dval (a.drop j) + n = m + 65536 ^ j * (c + dval (b.drop j))) ∧ Own D64 wr w.heap.size 3 (.slice bo A.length cap2) A ∧ Below w.heap.size w wr) (fun _ _ j _ => a.length - (intOf j).toNat)
 case atStart => exact ⟨0,0,[],none,0,rfl,rfl,rfl,by omega,Nat.zero_le _,rfl,Nat.zero_le _,(fun x hx => by cases hx),by show _ = _;simp [dval,em.out,en.out],Own.nil _ _ _,Below.refl _ _⟩
 case round =>
  obtain ⟨j,c,A,bo,cap2,rfl,rfl,rfl,hc1,hj,hAl,hA1,hsm,hE,hown,hbel⟩ := hrel
  by_cases hjl : j < a.length
  ·have hra2 := hra.below hbel
   have hrb2 := hrb.below hbel
   have x1 := dgetD SA.out j
   have x2 := dgetD SB.out j
   obtain ⟨ba,offa,rfl,hba,hcella⟩ := hra2.at_ hjl
   have d1 := hcella _ hjl
   have hgd : a.getD j 0 = a[j] := by rw [List.getD_eq_getElem?_getD,List.getElem?_eq_getElem hjl];rfl
   rw [← hgd] at d1
   clear hcella hgd
   have hAl3 : A.length = j := hAl.out
   have hAl2 : A.length + 1 ≤ 1000 := by omega
   have hstep := hide (fun (x c' : Nat) => sub_step (x := x) (c' := c') hAl.out hE.out)
   obtain ⟨p,hp⟩ : ∃ p,p = a.getD j 0 := ⟨_,rfl⟩
   obtain ⟨q,hq⟩ : ∃ q,q = b.getD j 0 := ⟨_,rfl⟩
   rw [← hp] at x1 d1
   rw [← hq] at x2
   rw [← hp,← hq] at hstep
   replace hp := hide hp
   replace hq := hide hq
   have hAl5 : ∀ x,(A ++ [x]).length = j + 1 := fun x => by rw [List.length_append,List.length_singleton,hAl3]
   replace hAl5 := hide hAl5
   clear hAl3 hE hAl
   have s1 : IntKind.i64.wrap ((p : Int) - q) = (p : Int) - q := IntWalk.i64_in _ (by omega)
   have s2 : IntKind.i64.wrap ((p : Int) - q - c) = (p : Int) - q - c := IntWalk.i64_in _ (by omega)
   go_wp2_with fail
   go_region_held3 (fun X => X.cell? ⟨ba,offa + j,none⟩ = some (D64 p)) (go_keep) (first
    | (go_at_call 135;refine (digit_any _ b j _ (by exact hrb2)).mono ?_;rintro e w2 ⟨rfl,rfl⟩;rw [← hq.out]))
   obtain ⟨y,hy⟩ : ∃ y : Int,y = (p : Int) - q - c := ⟨_,rfl⟩
   rw [← hy]
   clear s1 s2
   by_cases hneg : p < q + c
   ·have t1 : y < 0 := by omega
    have t3 : -65536 ≤ y := by omega
    obtain ⟨x,hx,hx1⟩ : ∃ x : Nat,(x : Int) = y + 65536 ∧ x < 65536 := ⟨p + 65536 - q - c,by omega,by omega⟩
    have hE2 := hide (hstep.out x 1 (by omega))
    have hs2 := hide (dsmall_snoc hsm.out hx1)
    have hAl4 := hide (hAl5.out x)
    obtain ⟨wd,hwd⟩ : ∃ wd,wd = wr.drew := ⟨_,rfl⟩
    have hown2 : Own D64 wd w.heap.size 3 (.slice bo A.length cap2) A := by rw [hwd];exact hown
    have hbel2 : Below w.heap.size w wd := by rw [hwd];exact Below.drew hbel
    rw [← hwd]
    clear hwd
    replace hy := hide hy
    replace hx := hide hx
    clear hstep hown hbel hp hq hAl5 d1 hneg
    go_wp2_with (with_reducible refine wpList_append_rd _ rfl _ _ 53 rfl (V := D64) (fun _ => rfl) w.heap.size 3 (.int .i64 0) 8 Tryz.underlying53 infoInt rfl _ A rfl (hown2.alloc _) _ [x] rfl ?_ ?_ ?_ ?_ ?_)
    case refine_1 => exact Rd.new _ rfl rfl (Nat.le_refl _) (by decide) (by simp [hx.out])
    case refine_2 => simp;omega
    case refine_3 => simp;omega
    case refine_4 => have := hbel2.size;simp;omega
    intro v4 w4 hown4 hg4 hv4
    have hsz3 := hbel2.size
    have hb4 : Below w.heap.size w w4 := (Bel.al hbel2 _).grown hg4 (by simp;omega) (fun g hg => (hown2.lt g hg).1)
    obtain ⟨bo4,cap4,rfl⟩ := hown4.shape
    go_wp2
    go_roundw
    case rel => exact ⟨j + 1,1,A ++ [x],bo4,cap4,rfl,by go_num,rfl,by omega,by omega,hAl4,by simp;omega,hs2,hE2,hown4,hb4⟩
    case measure => simp [intOf];omega
   ·have t1 : 0 ≤ y := by omega
    have t3 : y < 65536 := by omega
    obtain ⟨x,hx,hx1⟩ : ∃ x : Nat,(x : Int) = y ∧ x < 65536 := ⟨p - q - c,by omega,by omega⟩
    have hE2 := hide (hstep.out x 0 (by omega))
    have hs2 := hide (dsmall_snoc hsm.out hx1)
    have hAl4 := hide (hAl5.out x)
    obtain ⟨wd,hwd⟩ : ∃ wd,wd = wr.drew := ⟨_,rfl⟩
    have hown2 : Own D64 wd w.heap.size 3 (.slice bo A.length cap2) A := by rw [hwd];exact hown
    have hbel2 : Below w.heap.size w wd := by rw [hwd];exact Below.drew hbel
    rw [← hwd]
    clear hwd
    replace hy := hide hy
    replace hx := hide hx
    clear hstep hown hbel hp hq hAl5 d1 hneg
    go_wp2_with (with_reducible refine wpList_append_rd _ rfl _ _ 53 rfl (V := D64) (fun _ => rfl) w.heap.size 3 (.int .i64 0) 8 Tryz.underlying53 infoInt rfl _ A rfl (hown2.alloc _) _ [x] rfl ?_ ?_ ?_ ?_ ?_)
    case refine_1 => exact Rd.new _ rfl rfl (Nat.le_refl _) (by decide) (by simp [hx.out])
    case refine_2 => simp;omega
    case refine_3 => simp;omega
    case refine_4 => have := hbel2.size;simp;omega
    intro v4 w4 hown4 hg4 hv4
    have hsz3 := hbel2.size
    have hb4 : Below w.heap.size w w4 := (Bel.al hbel2 _).grown hg4 (by simp;omega) (fun g hg => (hown2.lt g hg).1)
    obtain ⟨bo4,cap4,rfl⟩ := hown4.shape
    go_wp2
    go_roundw
    case rel => exact ⟨j + 1,0,A ++ [x],bo4,cap4,rfl,by go_num,rfl,by omega,by omega,hAl4,by simp;omega,hs2,hE2,hown4,hb4⟩
    case measure => simp [intOf];omega
  ·have hjj : j = a.length := by omega
   have hE2 := hE.out
   rw [hjj,List.drop_of_length_le (Nat.le_refl _),show dval [] = 0 from rfl,Nat.mul_zero,Nat.add_zero] at hE2
   have hv := dval_lt hsm.out
   rw [hAl.out,hjj] at hv
   have hE3 := hide (sub_end hE2 hv hmn)
   have hrd := hown.rd
   clear hE hE2 hv
   go_wp2_with fail
   refine (rtrim _ A _ hrd hsm.out).mono ?_
   rintro e w5 ⟨u,rfl,hu,hb5,ho5⟩
   obtain ⟨uo,ucap,rfl,-,-,-⟩ := Rd.form hu
   rw [hE3.out] at hu ⊢
   go_wp2
   go_ret
   exact ⟨.slice uo _ ucap,rfl,hu,Bel.to hbel hb5,fun k hk => (hown.lt k (ho5 k (own_len.trans hk))).1⟩
theorem dval_set {L : List Nat} {j : Nat} (h : j < L.length) (v : Nat) : dval (L.set j v) + 65536 ^ j * L[j] = dval L + 65536 ^ j * v := by
 induction L generalizing j with
 | nil => simp at h
 | cons x t ih =>
  cases j with
  | zero => simp only [zsB,dval,List.getElem_cons_zero,Nat.pow_zero];omega
  | succ j =>
   have := ih (j := j) (by simpa using h)
   simp only [zsC,dval,List.getElem_cons_succ,Nat.pow_succ]
   obtain ⟨P,hP⟩ : ∃ P,P = 65536 ^ j := ⟨_,rfl⟩
   rw [← hP] at this ⊢
   clear hP ih
   grind
theorem dsmall_set {L : List Nat} (h : DSmall L) (j : Nat) {v : Nat} (hv : v < 65536) : DSmall (L.set j v) := by
 intro y hy
 rcases List.mem_or_eq_of_mem_set hy with hy | rfl
 ·exact h y hy
 ·exact hv
theorem dval_take_getD (b : List Nat) (k : Nat) : dval (b.take (k + 1)) = dval (b.take k) + 65536 ^ k * b.getD k 0 := by
 by_cases h : k < b.length
 ·rw [dval_take_succ b k h,List.getD_eq_getElem?_getD,List.getElem?_eq_getElem h];rfl
 ·rw [dgetD0 (by omega),List.take_of_length_le (by omega),List.take_of_length_le (by omega)];simp
theorem dval_zeros (n : Nat) : dval (List.replicate n 0) = 0 := by
 induction n with
 | zero => rfl
 | succ n ih => rw [List.replicate_succ,dval,ih]
theorem dsmall_zeros (n : Nat) : DSmall (List.replicate n 0) := by
 intro x hx
 rw [(List.mem_replicate.1 hx).2];omega
theorem dmul_step {L b : List Nat} {i k c p x B : Nat} (hj : i + k < L.length) (h : dval L + 65536 ^ (i + k) * c = B + p * 65536 ^ i * dval (b.take k)) (hx : x = L[i + k] + p * b.getD k 0 + c) :
  dval (L.set (i + k) (x % 65536)) + 65536 ^ (i + (k + 1)) * (x / 65536) = B + p * 65536 ^ i * dval (b.take (k + 1)) := by
 have hs := dval_set hj (x % 65536)
 rw [dval_take_getD,show i + (k + 1) = (i + k) + 1 by omega,Nat.pow_succ]
 obtain ⟨q,hq⟩ : ∃ q,q = b.getD k 0 := ⟨_,rfl⟩
 obtain ⟨y,hy⟩ : ∃ y,y = L[i + k] := ⟨_,rfl⟩
 rw [← hq,← hy] at hx
 rw [← hy] at hs
 rw [← hq]
 have hdm := Nat.div_add_mod x 65536
 obtain ⟨d,hd⟩ : ∃ d,d = x / 65536 := ⟨_,rfl⟩
 obtain ⟨r,hr⟩ : ∃ r,r = x % 65536 := ⟨_,rfl⟩
 rw [← hd,← hr] at hdm
 rw [← hr] at hs ⊢
 rw [← hd]
 rw [Nat.pow_add] at h hs ⊢
 obtain ⟨Pi,hPi⟩ : ∃ P,P = 65536 ^ i := ⟨_,rfl⟩
 obtain ⟨Pk,hPk⟩ : ∃ P,P = 65536 ^ k := ⟨_,rfl⟩
 rw [← hPi,← hPk] at h hs ⊢
 clear hPi hPk hd hr hq hy hj
 grind
theorem mul_lim {L a b : List Nat} {i k c p : Nat} (sa : DSmall a) (sb : DSmall b) (hi : i < a.length) (hp : p = a[i]) (h : dval L + 65536 ^ (i + k) * c = dval (a.take i) * dval b + p * 65536 ^ i * dval (b.take k)) (hk : b.length ≤ k) (hc : 0 < c) : k ≤ b.length := by
 rw [List.take_of_length_le hk] at h
 have e := dval_take_succ a i hi
 have h2 : dval L + 65536 ^ (i + k) * c = dval (a.take (i + 1)) * dval b := by
  rw [e,h,← hp]
  obtain ⟨Pi,hPi⟩ : ∃ P,P = 65536 ^ i := ⟨_,rfl⟩
  rw [← hPi]
  clear hPi e h
  grind
 have h3 := dval_lt (dsmall_take sa (i + 1))
 rw [List.length_take,Nat.min_eq_left (by omega)] at h3
 have h4 := dval_lt sb
 have h5 : dval (a.take (i + 1)) * dval b ≤ 65536 ^ (i + 1) * dval b := Nat.mul_le_mul_right _ (by omega)
 have h6 : 65536 ^ (i + 1) * dval b < 65536 ^ (i + 1) * 65536 ^ b.length := Nat.mul_lt_mul_of_pos_left h4 (Nat.pow_pos (by omega))
 rw [← Nat.pow_add] at h6
 have h7 : 65536 ^ (i + k) ≤ 65536 ^ (i + k) * c := Nat.le_mul_of_pos_right _ hc
 have h8 : (65536 : Nat) ^ (i + k) < 65536 ^ (i + 1 + b.length) := by omega
 have := (Nat.pow_lt_pow_iff_right (by omega : 1 < 65536)).1 h8
 omega
theorem mul_end {L a b : List Nat} {i k p : Nat} (hi : i < a.length) (hp : p = a[i]) (h : dval L + 65536 ^ (i + k) * 0 = dval (a.take i) * dval b + p * 65536 ^ i * dval (b.take k)) (hk : b.length ≤ k) : dval L = dval (a.take (i + 1)) * dval b := by
 rw [List.take_of_length_le hk] at h
 rw [dval_take_succ a i hi,← hp]
 obtain ⟨Pi,hPi⟩ : ∃ P,P = 65536 ^ i := ⟨_,rfl⟩
 rw [← hPi] at h ⊢
 clear hPi
 grind
set_option maxHeartbeats 4000000 in
set_option maxRecDepth 100000 in
theorem rmul_d (va vb : Value) (m n : Nat) (w : World) (ha : DV w va m) (hb : DV w vb n) (lm : (digs m).length ≤ 1000) (ln : (digs n).length ≤ 1000) :
  Calls Tryz.prog 116 #[va,vb] w (SomeDig (m * n) w) := by
 unfold DV at ha hb
 have SA := hide (dsmall_digs m)
 have SB := hide (dsmall_digs n)
 have em := hide (dval_digs m)
 have en := hide (dval_digs n)
 obtain ⟨a,hae⟩ : ∃ a,a = digs m := ⟨_,rfl⟩
 obtain ⟨b,hbe⟩ : ∃ b,b = digs n := ⟨_,rfl⟩
 rw [← hae] at ha SA em lm
 rw [← hbe] at hb SB en ln
 clear hae hbe
 obtain ⟨aa,ca,rfl,hla,hca,hra⟩ := Rd.form ha
 obtain ⟨ab,cb,rfl,hlb,hcb,hrb⟩ := Rd.form hb
 have hca' : ca ≤ 9223372036854775807 := by unfold maxLen at hca;omega
 have hcb' : cb ≤ 9223372036854775807 := by unfold maxLen at hcb;omega
 clear ha hb
 go_enter Tryz.func116,Tryz.ntmps116
 go_wp2_with (with_reducible refine wpList_make_row _ rfl _ _ 53 rfl 3 (.int .i64 0) 8 Tryz.underlying53 infoInt rfl .i64 .i64 _ _ (a.length + b.length + 1) (a.length + b.length + 1) rfl rfl (by omega) (by omega) (Nat.le_refl _) (by omega) (by omega) ?_;intro w2 hrow hb2 hz2)
 obtain ⟨g,hg⟩ : ∃ g,g = w.heap.size := ⟨_,rfl⟩
 have hgs : w.heap.size ≤ g := by omega
 rw [← hg] at hrow ⊢
 clear hg hz2
 go_wp2
 go_loopw [6] (fun t wr => ∃ (i : Nat) (L : List Nat),i ≤ a.length ∧ t = .int .i64 i ∧ Row wr g 3 (L.map D64) ∧ Hid (L.length = a.length + b.length + 1) ∧ Hid (DSmall L) ∧ Hid (dval L = dval (a.take i) * dval b) ∧ Below w.heap.size w wr) (fun t _ => a.length - (intOf t).toNat)
 case atStart =>
  refine ⟨0,List.replicate (a.length + b.length + 1) 0,Nat.zero_le _,rfl,by rw [List.map_replicate];exact hrow,by show _ = _;simp,dsmall_zeros _,?_,hb2⟩
  show _ = _;rw [dval_zeros];simp [dval]
 case round =>
  clear hrow hb2
  obtain ⟨i,L,hi,rfl,hrow,hLl,hLs,hLv,hbel⟩ := hrel
  by_cases hil : i < a.length
  ·go_wp2
   obtain ⟨p,hp⟩ : ∃ p,p = a[i] := ⟨_,rfl⟩
   have hp2 := SA.out _ (List.getElem_mem hil)
   rw [← hp] at hp2
   replace hp := hide hp
   have hst := hide (show dval L + 65536 ^ (i + 0) * 0 = dval (a.take i) * dval b + p * 65536 ^ i * dval (b.take 0) by rw [hLv.out];simp [dval])
   go_loopw [7,8,9] (fun cc kk xx wr => ∃ (k c : Nat) (L : List Nat),k ≤ b.length + 1 ∧ kk = .int .i64 k ∧ cc = .int .i64 c ∧ c < 65536 ∧ Row wr g 3 (L.map D64) ∧ Hid (L.length = a.length + b.length + 1) ∧ Hid (DSmall L) ∧ Hid (dval L + 65536 ^ (i + k) * c = dval (a.take i) * dval b + p * 65536 ^ i * dval (b.take k)) ∧ Below w.heap.size w wr) (fun _ kk _ _ => b.length + 2 - (intOf kk).toNat)
   case atStart => exact ⟨0,0,L,Nat.zero_le _,rfl,rfl,by omega,hrow,hLl,hLs,hst,hbel⟩
   case round =>
    clear hrow hbel hLl hLs hLv hst
    obtain ⟨k,c,L,hk,rfl,rfl,hc,hrow,hLl,hLs,hE,hbel⟩ := hrel
    by_cases hkl : k < b.length
    ·have hk2 : k ≤ b.length := by omega
     have hjN : i + k < L.length := by rw [hLl.out];omega
     have hra2 := hra.below hbel
     have hrb2 := hrb.below hbel
     obtain ⟨ba,offa,rfl,hba,hcella⟩ := hra2.at_ hil
     have d1 := hcella _ hil
     rw [← hp.out] at d1
     have d2 := hrow.cellV hjN
     have f2 := hrow.frozen (i + k)
     have x1 := hLs.out _ (List.getElem_mem hjN)
     have x2 := dgetD SB.out k
     have hstep := hide (fun (x : Nat) => dmul_step (x := x) hjN hE.out)
     obtain ⟨y,hy⟩ : ∃ y,y = L[i + k] := ⟨_,rfl⟩
     obtain ⟨q,hq⟩ : ∃ q,q = b.getD k 0 := ⟨_,rfl⟩
     rw [← hy] at d2 x1 hstep
     rw [← hq] at x2 hstep
     replace hy := hide hy
     replace hq := hide hq
     obtain ⟨M,hM⟩ : ∃ M,M = p * q := ⟨_,rfl⟩
     have hM1 : M ≤ 65535 * 65535 := by rw [hM];exact Nat.mul_le_mul (by omega) (by omega)
     have hMI : (p : Int) * (q : Int) = (M : Int) := by rw [hM];exact (Int.natCast_mul p q).symm
     rw [← hM] at hstep
     clear hcella
     replace hM := hide hM
     have s1 : IntKind.i64.wrap ((i : Int) + k) = (i : Int) + k := IntWalk.i64_in _ (by omega)
     have s2 : IntKind.i64.wrap ((p : Int) * q) = (M : Int) := by rw [hMI];exact IntWalk.i64_in _ (by omega)
     have s3 : IntKind.i64.wrap ((y : Int) + M) = (y : Int) + M := IntWalk.i64_in _ (by omega)
     have s4 : IntKind.i64.wrap ((y : Int) + M + c) = (y : Int) + M + c := IntWalk.i64_in _ (by omega)
     replace hMI := hide hMI
     have i1 : (0 : Int) ≤ (i : Int) + k := by omega
     have i2 : (i : Int) + k < ((a.length + b.length + 1 : Nat) : Int) := by have := hLl.out;omega
     have i4 : (i : Int) + k < (a.length : Int) + b.length + 1 := by have := hLl.out;omega
     have i3 : ((i : Int) + k).toNat = i + k := by omega
     go_wp2_with fail
     go_region_held3 (fun X => X.cell? ⟨ba,offa + i,none⟩ = some (D64 p) ∧ X.cell? ⟨g,i + k,none⟩ = some (D64 y)) (go_keep) (first
      | (go_at_call 135;refine (digit_any _ b k _ (by exact hrb2)).mono ?_;rintro e w2 ⟨rfl,rfl⟩;rw [← hq.out]))
     obtain ⟨x,hx⟩ : ∃ x : Nat,x = y + M + c := ⟨_,rfl⟩
     have hxI : (y : Int) + M + c = (x : Int) := by omega
     rw [hxI]
     have hx1 : x < 4294967296 := by omega
     have hE2 := hide (hstep.out x hx)
     have hs2 := hide (dsmall_set hLs.out (i + k) (show x % 65536 < 65536 by omega))
     have hL2 := hide (show (L.set (i + k) (x % 65536)).length = a.length + b.length + 1 by rw [List.length_set];exact hLl.out)
     obtain ⟨wd,hwd⟩ : ∃ wd,wd = wr.drew := ⟨_,rfl⟩
     have hrowd : Row wd g 3 (L.map D64) := by rw [hwd];exact hrow
     have hbeld : Below w.heap.size w wd := by rw [hwd];exact Below.drew hbel
     have d2d : wd.cell? ⟨g,i + k,none⟩ = some (D64 y) := by rw [hwd];exact d2
     have f2d : wd.frozen? ⟨g,i + k,none⟩ = false := by rw [hwd];exact f2
     rw [← hwd]
     clear hwd
     have hrow2 := hrowd.setV (V := D64) (i + k) (x % 65536)
     have ee : ((x % 65536 : Nat) : Int) = (x : Int) % 65536 := Int.natCast_emod x 65536
     rw [show D64 (x % 65536) = .int .i64 ((x : Int) % 65536) by rw [← ee]] at hrow2
     have hb2 := Bel.st hbeld (p := ⟨g,i + k,none⟩) hgs (.int .i64 ((x : Int) % 65536))
     replace ee := hide ee
     clear hxI s1 s2 s3 s4 hstep hx hMI
     go_wp2
     go_roundw
     case rel => exact ⟨k + 1,x / 65536,_,by omega,by go_num,by go_num,by omega,hrow2,hL2,hs2,hE2,hb2⟩
     case measure => simp [intOf];omega
    ·by_cases hc0 : 0 < c
     ·have hk2 := mul_lim SA.out SB.out hil hp.out hE.out (by omega) hc0
      have hjN : i + k < L.length := by rw [hLl.out];omega
      have hra2 := hra.below hbel
      have hrb2 := hrb.below hbel
      obtain ⟨ba,offa,rfl,hba,hcella⟩ := hra2.at_ hil
      have d1 := hcella _ hil
      rw [← hp.out] at d1
      have d2 := hrow.cellV hjN
      have f2 := hrow.frozen (i + k)
      have x1 := hLs.out _ (List.getElem_mem hjN)
      have x2 := dgetD SB.out k
      have hstep := hide (fun (x : Nat) => dmul_step (x := x) hjN hE.out)
      obtain ⟨y,hy⟩ : ∃ y,y = L[i + k] := ⟨_,rfl⟩
      obtain ⟨q,hq⟩ : ∃ q,q = b.getD k 0 := ⟨_,rfl⟩
      rw [← hy] at d2 x1 hstep
      rw [← hq] at x2 hstep
      replace hy := hide hy
      replace hq := hide hq
      obtain ⟨M,hM⟩ : ∃ M,M = p * q := ⟨_,rfl⟩
      have hM1 : M ≤ 65535 * 65535 := by rw [hM];exact Nat.mul_le_mul (by omega) (by omega)
      have hMI : (p : Int) * (q : Int) = (M : Int) := by rw [hM];exact (Int.natCast_mul p q).symm
      rw [← hM] at hstep
      clear hcella
      replace hM := hide hM
      have s1 : IntKind.i64.wrap ((i : Int) + k) = (i : Int) + k := IntWalk.i64_in _ (by omega)
      have s2 : IntKind.i64.wrap ((p : Int) * q) = (M : Int) := by rw [hMI];exact IntWalk.i64_in _ (by omega)
      have s3 : IntKind.i64.wrap ((y : Int) + M) = (y : Int) + M := IntWalk.i64_in _ (by omega)
      have s4 : IntKind.i64.wrap ((y : Int) + M + c) = (y : Int) + M + c := IntWalk.i64_in _ (by omega)
      replace hMI := hide hMI
      have i1 : (0 : Int) ≤ (i : Int) + k := by omega
      have i2 : (i : Int) + k < ((a.length + b.length + 1 : Nat) : Int) := by have := hLl.out;omega
      have i4 : (i : Int) + k < (a.length : Int) + b.length + 1 := by have := hLl.out;omega
      have i3 : ((i : Int) + k).toNat = i + k := by omega
      go_wp2_with fail
      go_region_held3 (fun X => X.cell? ⟨ba,offa + i,none⟩ = some (D64 p) ∧ X.cell? ⟨g,i + k,none⟩ = some (D64 y)) (go_keep) (first
       | (go_at_call 135;refine (digit_any _ b k _ (by exact hrb2)).mono ?_;rintro e w2 ⟨rfl,rfl⟩;rw [← hq.out]))
      obtain ⟨x,hx⟩ : ∃ x : Nat,x = y + M + c := ⟨_,rfl⟩
      have hxI : (y : Int) + M + c = (x : Int) := by omega
      rw [hxI]
      have hx1 : x < 4294967296 := by omega
      have hE2 := hide (hstep.out x hx)
      have hs2 := hide (dsmall_set hLs.out (i + k) (show x % 65536 < 65536 by omega))
      have hL2 := hide (show (L.set (i + k) (x % 65536)).length = a.length + b.length + 1 by rw [List.length_set];exact hLl.out)
      obtain ⟨wd,hwd⟩ : ∃ wd,wd = wr.drew := ⟨_,rfl⟩
      have hrowd : Row wd g 3 (L.map D64) := by rw [hwd];exact hrow
      have hbeld : Below w.heap.size w wd := by rw [hwd];exact Below.drew hbel
      have d2d : wd.cell? ⟨g,i + k,none⟩ = some (D64 y) := by rw [hwd];exact d2
      have f2d : wd.frozen? ⟨g,i + k,none⟩ = false := by rw [hwd];exact f2
      rw [← hwd]
      clear hwd
      have hrow2 := hrowd.setV (V := D64) (i + k) (x % 65536)
      have ee : ((x % 65536 : Nat) : Int) = (x : Int) % 65536 := Int.natCast_emod x 65536
      rw [show D64 (x % 65536) = .int .i64 ((x : Int) % 65536) by rw [← ee]] at hrow2
      have hb2 := Bel.st hbeld (p := ⟨g,i + k,none⟩) hgs (.int .i64 ((x : Int) % 65536))
      replace ee := hide ee
      clear hxI s1 s2 s3 s4 hstep hx hMI
      go_wp2
      go_roundw
      case rel => exact ⟨k + 1,x / 65536,_,by omega,by go_num,by go_num,by omega,hrow2,hL2,hs2,hE2,hb2⟩
      case measure => simp [intOf];omega
     ·have hcz : c = 0 := by omega
      subst hcz
      have hE2 := hide (mul_end hil hp.out hE.out (by omega))
      clear hE
      go_wp2
      go_roundw
      case rel => exact ⟨i + 1,L,by omega,by go_num,hrow,hLl,hLs,hE2,hbel⟩
      case measure => simp [intOf];omega
  ·have hE3 := hide (show dval L = m * n by rw [hLv.out,List.take_of_length_le (by omega),em.out,en.out])
   have hrd := hrow.rdAll (n := a.length + b.length + 1) (c := a.length + b.length + 1) hLl.out.symm (Nat.le_refl _) (by omega)
   clear hLv
   go_wp2_with fail
   refine (rtrim _ L _ hrd hLs.out).mono ?_
   rintro e w5 ⟨u,rfl,hu,hb5,ho5⟩
   obtain ⟨uo,ucap,rfl,-,-,-⟩ := Rd.form hu
   rw [hE3.out] at hu ⊢
   go_wp2
   go_ret
   exact ⟨.slice uo _ ucap,rfl,hu,Bel.to hbel hb5,fun k hk => by have h : some g = some k := ho5 k (own_len.trans hk);injection h with h;omega⟩
end Go.Proofs.YtldikghldcefcaaGreat
end
section
set_option linter.unusedVariables false
set_option linter.unusedSimpArgs false
namespace Go.Proofs.YtldikghldcefcaaGreat
def bitsL : List Nat := [32768,16384,8192,4096,2048,1024,512,256,128,64,32,16,8,4,2,1]
def unit (b : Nat) : Nat := if b = 0 then 1 else 2 * b
theorem bit_arith {b p top Qi rest C : Nat} (hb : b ∈ bitsL) (hp : p < 65536) (hq : Qi < 65536) (hQ : Qi + 65536 * rest = 2 * b * C) :
  (top * 65536 + p) / b = 2 * ((top * 65536 + p) / (2 * b)) + p / b % 2 ∧ Qi + b < 65536 ∧ 0 < b ∧ b ≤ 32768 ∧ (b / 2 = 0 ∨ b / 2 ∈ bitsL) ∧ unit (b / 2) = b := by
 simp only [bitsL,List.mem_cons,List.not_mem_nil,or_false] at hb
 rcases hb with rfl | rfl | rfl | rfl | rfl | rfl | rfl | rfl | rfl | rfl | rfl | rfl | rfl | rfl | rfl | rfl
 all_goals exact ⟨by omega,by omega,by omega,by omega,by decide,by decide⟩
def DivS (n top p i : Nat) (Q : List Nat) (b R : Nat) : Prop :=
 R < n ∧ DSmall Q ∧ (b = 0 ∨ b ∈ bitsL) ∧ (∀ t,t < i → Q.getD t 0 = 0) ∧ ∃ C,n * C + R = (top * 65536 + p) / unit b ∧ dval (Q.drop i) = unit b * C
def DivO (n : Nat) (a : List Nat) (j : Nat) (Q : List Nat) (R : Nat) : Prop :=
 R < n ∧ DSmall Q ∧ (∀ t,t < j → Q.getD t 0 = 0) ∧ n * dval (Q.drop j) + R = dval (a.drop j)
theorem div_begin {n : Nat} {a Q : List Nat} {i R : Nat} (h : DivO n a (i + 1) Q R) (p : Nat) (hp : p < 65536) : DivS n (dval (a.drop (i + 1))) p i Q 32768 R := by
 obtain ⟨h1,h2,h3,h4⟩ := h
 refine ⟨h1,h2,.inr (by decide),fun t ht => h3 t (by omega),dval (Q.drop (i + 1)),?_,?_⟩
 ·rw [show unit 32768 = 65536 by decide,h4];omega
 ·rw [show unit 32768 = 65536 by decide,dval_drop,h3 i (by omega)];omega
theorem div_over {n : Nat} {a Q : List Nat} {i R : Nat} (h : DivS n (dval (a.drop (i + 1))) (a.getD i 0) i Q 0 R) : DivO n a i Q R := by
 obtain ⟨h1,h2,h3,h4,C,h5,h6⟩ := h
 rw [show unit 0 = 1 by decide] at h5 h6
 rw [Nat.one_mul] at h6
 refine ⟨h1,h2,h4,?_⟩
 rw [h6,h5,dval_drop a i];omega
theorem div_round {n top p i : Nat} {Q : List Nat} {b R : Nat} (hi : i < Q.length) (hp : p < 65536) (h : DivS n top p i Q b R) (hb : b ≠ 0) :
  0 < b ∧ b ≤ 32768 ∧ Q[i] + b < 65536 ∧
  (2 * R + p / b % 2 < n → DivS n top p i Q (b / 2) (2 * R + p / b % 2)) ∧
  (n ≤ 2 * R + p / b % 2 → DivS n top p i (Q.set i (Q[i] + b)) (b / 2) (2 * R + p / b % 2 - n)) := by
 obtain ⟨h1,h2,h3,h4,C,h5,h6⟩ := h
 have hm : b ∈ bitsL := by rcases h3 with h | h;exact absurd h hb;exact h
 have hu : unit b = 2 * b := by unfold unit;rw [if_neg hb]
 rw [hu] at h5 h6
 have hd := h6
 rw [List.drop_eq_getElem_cons hi,dval] at hd
 obtain ⟨a1,a2,a3,a4,a5,a6⟩ := bit_arith (top := top) hm hp (h2 _ (List.getElem_mem hi)) hd
 obtain ⟨X,hX⟩ : ∃ X,X = (top * 65536 + p) / (2 * b) := ⟨_,rfl⟩
 obtain ⟨Y,hY⟩ : ∃ Y,Y = (top * 65536 + p) / b := ⟨_,rfl⟩
 obtain ⟨e,he⟩ : ∃ e,e = p / b % 2 := ⟨_,rfl⟩
 have he2 : e < 2 := by omega
 rw [← hX] at h5 a1
 rw [← hY,← he] at a1
 rw [← he]
 have hnC : n * (2 * C) = 2 * (n * C) := by rw [Nat.mul_left_comm]
 have hnC1 : n * (2 * C + 1) = 2 * (n * C) + n := by rw [Nat.mul_add,hnC,Nat.mul_one]
 have hbC : b * (2 * C) = 2 * b * C := by rw [← Nat.mul_assoc,Nat.mul_comm b 2]
 refine ⟨a3,a4,a2,fun hlt => ⟨hlt,h2,a5,h4,2 * C,?_,?_⟩,fun hge => ⟨by omega,dsmall_set h2 i a2,a5,?_,2 * C + 1,?_,?_⟩⟩
 ·rw [a6,← hY];omega
 ·rw [a6,h6,hbC]
 ·intro t ht
  rw [List.getD_eq_getElem?_getD,List.getElem?_set_ne (by omega),← List.getD_eq_getElem?_getD]
  exact h4 t ht
 ·rw [a6,← hY,hnC1];omega
 ·rw [a6,List.drop_eq_getElem_cons (by rw [List.length_set];exact hi),dval,List.getElem_set_self,List.drop_set_of_lt (by omega),Nat.mul_add,hbC,Nat.mul_one]
  omega
theorem div_end {n : Nat} {a Q : List Nat} {R : Nat} (hn : 0 < n) (h : DivO n a 0 Q R) : dval Q = dval a / n ∧ R = dval a % n := by
 obtain ⟨h1,h2,h3,h4⟩ := h
 rw [List.drop_zero,List.drop_zero] at h4
 rw [← h4]
 exact ⟨by rw [Nat.mul_add_div hn,Nat.div_eq_of_lt h1];omega,by rw [Nat.mul_add_mod,Nat.mod_eq_of_lt h1]⟩
theorem div_start {n : Nat} (hn : 0 < n) (a : List Nat) : DivO n a a.length (List.replicate a.length 0) 0 := by
 refine ⟨hn,dsmall_zeros _,fun t ht => ?_,?_⟩
 ·rw [List.getD_eq_getElem?_getD,List.getElem?_replicate,if_pos ht];rfl
 ·rw [List.drop_of_length_le (by simp),List.drop_of_length_le (Nat.le_refl _)];rfl
end Go.Proofs.YtldikghldcefcaaGreat
end
section
open Go.RowKit
set_option linter.unusedVariables false
set_option linter.unusedSimpArgs false
namespace Go.Proofs.YtldikghldcefcaaGreat
def DivB (q r : Nat) (w : World) (e : Ending) (w' : World) : Prop := ∃ u v,e = .returned (.tuple #[u,v]) ∧ DV w' u q ∧ DV w' v r ∧ Below w.heap.size w w'
theorem digs_len_le {m n : Nat} (h : m ≤ n) : (digs m).length ≤ (digs n).length := by
 rcases Nat.lt_or_ge (digs n).length (digs m).length with h1 | h1
 ·have := digs_len_lt h1;omega
 ·exact h1
theorem digs_len_two {m n : Nat} (h : m ≤ 65536 * n) : (digs m).length ≤ (digs n).length + 1 := by
 by_cases hm : m = 0
 ·subst hm;rw [digs_zero];simp
 ·rw [digs_pos hm,List.length_cons]
  have := digs_len_le (m := m / 65536) (n := n) (by omega)
  omega
theorem w64_div (p bt z : Nat) (hz : z = p / bt) (hp : p < 65536) : wrap64 ((p : Int) / (bt : Int)) = (z : Int) := by
 have h : z ≤ p := by rw [hz];exact Nat.div_le_self _ _
 rw [← Int.natCast_ediv,← hz]
 exact IntWalk.wrap64_in (z : Int) (by omega)
theorem tmod_two (z : Nat) : ((z : Int).tmod 2 == 1) = decide (z % 2 = 1) := by
 have ht : (z : Int).tmod 2 = ((z % 2 : Nat) : Int) := by
  rw [Int.tmod_eq_emod_of_nonneg (Int.natCast_nonneg z)];exact (Int.natCast_emod z 2).symm
 rw [ht]
 rcases Nat.mod_two_eq_zero_or_one z with h | h <;> rw [h] <;> decide
set_option maxHeartbeats 4000000 in
set_option maxRecDepth 100000 in
theorem rdivide (va vb : Value) (m n : Nat) (w : World) (ha : DV w va m) (hb : DV w vb n) (hn : 0 < n) (lm : (digs m).length ≤ 900) (ln : (digs n).length ≤ 900) :
  Calls Tryz.prog 133 #[va,vb] w (DivB (m / n) (m % n) w) := by
 unfold DV at ha hb
 have SA := hide (dsmall_digs m)
 have em := hide (dval_digs m)
 have hl2 := hide (fun x (h : x ≤ 65536 * n) => digs_len_two (m := x) h)
 obtain ⟨a,hae⟩ : ∃ a,a = digs m := ⟨_,rfl⟩
 rw [← hae] at ha SA em lm
 clear hae
 obtain ⟨aa,ca,rfl,hla,hca,hra⟩ := Rd.form ha
 obtain ⟨ab,nb,cb,rfl⟩ := Rd.shape hb
 have hca' : ca ≤ 9223372036854775807 := by unfold maxLen at hca;omega
 clear ha
 have hbD : DV w (.slice ab nb cb) n := hb
 clear hb
 have hst0 := hide (div_start hn a)
 go_enter Tryz.func133,Tryz.ntmps133
 go_wp2_with (with_reducible refine wpList_make_row _ rfl _ _ 53 rfl 3 (.int .i64 0) 8 Tryz.underlying53 infoInt rfl .i64 .i64 _ _ a.length a.length rfl rfl (by omega) (by omega) (Nat.le_refl _) (by omega) (by omega) ?_;intro w2 hrow hb2 hz2)
 obtain ⟨g,hg⟩ : ∃ g,g = w.heap.size := ⟨_,rfl⟩
 have hgs : w.heap.size ≤ g := by omega
 have hgl := hrow.lt
 rw [← hg] at hrow hgl ⊢
 clear hz2 hg
 go_wp2
 go_loopw [7,8] (fun rr t wr => ∃ (j R : Nat) (Q : List Nat) (bo : Option Addr) (bn bc : Nat),rr = .slice bo bn bc ∧ t = .int .i64 ((j : Int) - 1) ∧ j ≤ a.length ∧ Row wr g 3 (Q.map D64) ∧ Hid (Q.length = a.length) ∧ Hid (DivO n a j Q R) ∧ DV wr (.slice bo bn bc) R ∧ Hid ((Value.slice bo bn bc).ownBlock ≠ some g) ∧ Below w.heap.size w wr) (fun _ t _ => (intOf t + 1).toNat)
 case atStart =>
  refine ⟨a.length,0,List.replicate a.length 0,none,0,0,rfl,rfl,Nat.le_refl _,by rw [List.map_replicate];exact hrow,by show _ = _;simp,hst0,?_,?_,hb2⟩
  ·show Rd _ _ _ _;rw [digs_zero];exact Rd.nil
  ·show _ ≠ _;intro h;cases h
 case round =>
  clear hrow hb2
  obtain ⟨j,R,Q,bo,bn,bc,rfl,rfl,hj,hrow,hQl,hO,hR,hne,hbel⟩ := hrel
  by_cases hj0 : j = 0
  ·subst hj0
   have hO2 := hO.out
   have hds := hide hO2.2.1
   obtain ⟨q1,q2⟩ := div_end hn hO2
   rw [em.out] at q1 q2
   have hrd := hrow.rdAll (n := a.length) (c := a.length) hQl.out.symm (Nat.le_refl _) (by omega)
   rw [q2] at hR
   replace q1 := hide q1
   clear hO hO2 q2
   go_wp2_with fail
   refine (rtrim _ Q _ hrd hds.out).mono ?_
   rintro e w5 ⟨u,rfl,hu,hb5,ho5⟩
   obtain ⟨uo,ucap,rfl,-,-,-⟩ := Rd.form hu
   rw [q1.out] at hu ⊢
   have hR5 := Rd.below hR hb5
   go_wp2
   go_ret2
   exact ⟨_,_,rfl,hu,hR5,Bel.to hbel hb5⟩
  ·obtain ⟨i,rfl⟩ : ∃ i,j = i + 1 := ⟨j - 1,by omega⟩
   have hil : i < a.length := by omega
   rw [show (((i + 1 : Nat)) : Int) - 1 = (i : Int) by omega]
   go_wp2
   obtain ⟨p,hp⟩ : ∃ p,p = a[i] := ⟨_,rfl⟩
   have hp2 := SA.out _ (List.getElem_mem hil)
   rw [← hp] at hp2
   have hpd : p = a.getD i 0 := by rw [hp,List.getD_eq_getElem?_getD,List.getElem?_eq_getElem hil];rfl
   replace hp := hide hp
   replace hpd := hide hpd
   have hst := hide (div_begin hO.out p hp2)
   go_loopw [7,9] (fun rr t wr => ∃ (bt R : Nat) (Q : List Nat) (bo : Option Addr) (bn bc : Nat),rr = .slice bo bn bc ∧ t = .int .i64 bt ∧ bt ≤ 32768 ∧ Row wr g 3 (Q.map D64) ∧ Hid (Q.length = a.length) ∧ Hid (DivS n (dval (a.drop (i + 1))) p i Q bt R) ∧ DV wr (.slice bo bn bc) R ∧ Hid ((Value.slice bo bn bc).ownBlock ≠ some g) ∧ Below w.heap.size w wr) (fun _ t _ => (intOf t).toNat)
   case atStart => exact ⟨32768,R,Q,bo,bn,bc,rfl,rfl,Nat.le_refl _,hrow,hQl,hst,hR,hne,hbel⟩
   case round =>
    clear hrow hbel hR hne hst hQl hO
    obtain ⟨bt,R,Q,bo,bn,bc,rfl,rfl,hbt,hrow,hQl,hS,hR,hne,hbel⟩ := hrel
    by_cases hb0 : bt = 0
    ·subst hb0
     have hO := hide (div_over (a := a) (by have := hS.out;rw [hpd.out] at this;exact this))
     clear hS
     go_wp2
     go_roundw
     case rel => exact ⟨i,R,Q,bo,bn,bc,rfl,by go_num,by omega,hrow,hQl,hO,hR,hne,hbel⟩
     case measure => simp [intOf]
    ·have hiQ : i < Q.length := by rw [hQl.out];exact hil
     obtain ⟨b1,b2,b3,b4,b5⟩ := div_round hiQ hp2 hS.out hb0
     have hRn : R < n := hS.out.1
     have lR : (digs R).length ≤ 1000 := by have := hl2.out R (by omega);omega
     obtain ⟨z,hz⟩ : ∃ z,z = p / bt := ⟨_,rfl⟩
     rw [← hz] at b4 b5
     replace b4 := hide b4
     replace b5 := hide b5
     have hra2 := hra.below hbel
     clear hS
     go_wp2_with fail
     refine (radd _ _ R R _ hR hR lR lR).mono ?_
     rintro e w3 ⟨u3,rfl,hu3,hb3,ho3⟩
     obtain ⟨uo3,un3,uc3,rfl⟩ := Rd.shape hu3
     obtain ⟨ba,offa,rfl,hba,hcella⟩ := hra2.at_ hil
     have d1 := Bel.cellOf hb3 (hcella _ hil)
     rw [← hp.out] at d1
     have hzb : z ≤ p := by rw [hz];exact Nat.div_le_self _ _
     replace hz := hide hz
     clear hcella
     go_upto_region 10 with (fail)
     go_cut [34] (fun bb X => bb = .bool (decide (z % 2 = 1)) ∧ X = w3)
     case first =>
      go_wp2
      go_meet
      refine ⟨?_,rfl⟩
      rw [w64_div p bt z hz.out hp2,tmod_two]
     case rest =>
      obtain ⟨rfl,hX⟩ := hcut
      rw [hX]
      clear hX
      have l1 : digs 1 = [1] := by rw [digs_pos (by omega),show 1 / 65536 = 0 from rfl,digs_zero]
      have l2R : (digs (R + R)).length ≤ 1000 := by have := hl2.out (R + R) (by omega);omega
      replace l1 := hide l1
      by_cases hbeta : z % 2 = 1
      ·have hd : decide (z % 2 = 1) = true := decide_eq_true hbeta
       rw [hd]
       go_wp2_with fail
       refine (radd _ _ (R + R) 1 _ (Rd.alloc hu3 _) (by show Rd _ _ _ _;rw [l1.out];exact Rd.new _ rfl rfl (Nat.le_refl _) (by decide) rfl) l2R (by rw [l1.out];decide)).mono ?_
       rintro e w4 ⟨u4,rfl,hu4,hb4,ho4⟩
       obtain ⟨uo4,un4,uc4,rfl⟩ := Rd.shape hu4
       have bw4 : Below w.heap.size w w4 := Bel.to (Bel.al (Bel.to hbel hb3) _) hb4
       have hbn4 : DV w4 (.slice ab nb cb) n := Rd.below hbD bw4
       go_wp2_with fail
       refine (rcmp _ _ (R + R + 1) n _ hu4 hbn4).mono ?_
       rintro e w5 ⟨rfl,hb5⟩
       by_cases hge : n ≤ R + R + 1
       ·have hcv : ¬ cmpV (R + R + 1) n < 0 := by unfold cmpV;split <;> (try split) <;> omega
        have hcv2 : 0 ≤ cmpV (R + R + 1) n := by omega
        have hS2 := b5.out (by omega)
        rw [show 2 * R + z % 2 - n = R + R + 1 - n by omega] at hS2
        have lV : (digs (R + R + 1)).length ≤ 1000 := by have := hl2.out (R + R + 1) (by omega);omega
        have hu5 : DV w5 _ (R + R + 1) := Rd.below hu4 hb5
        have hbn5 : DV w5 _ n := Rd.below hbn4 hb5
        have hrow5 : Row w5 g 3 (Q.map D64) := (Row.keep hrow (Bel.to (Bel.al hb3 _) hb4)).keep hb5
        have hbel5 := Bel.to bw4 hb5
        obtain ⟨y,hy⟩ : ∃ y,y = Q[i] := ⟨_,rfl⟩
        rw [← hy] at hS2 b3
        replace hS2 := hide hS2
        replace hy := hide hy
        go_wp2_with fail
        refine (rsub _ _ (R + R + 1) n _ hu5 hbn5 hge lV).mono ?_
        rintro e w6 ⟨u6,rfl,hu6,hb6,ho6⟩
        obtain ⟨uo6,un6,uc6,rfl⟩ := Rd.shape hu6
        have hrow6 := hrow5.keep hb6
        have hg5 := hrow5.lt
        have hne6 : (Value.slice uo6 un6 uc6).ownBlock ≠ some g := fun h => by have h1 := ho6 g h;omega
        have c6 := hrow6.cellV hiQ
        rw [← hy.out] at c6
        have f6 := hrow6.frozen i
        have hrow7 := hrow6.setV (V := D64) i (y + bt)
        rw [show D64 (y + bt) = .int .i64 ((y : Int) + (bt : Int)) by rw [← Int.natCast_add]] at hrow7
        have hR7 : DV _ _ (R + R + 1 - n) := Rd.setCell hu6 (p := ⟨g,i,none⟩) hne6 (.int .i64 ((y : Int) + (bt : Int)))
        have hbel7 := Bel.st (Bel.to hbel5 hb6) (p := ⟨g,i,none⟩) hgs (.int .i64 ((y : Int) + (bt : Int)))
        have hQ7 := hide (show (Q.set i (y + bt)).length = a.length by rw [List.length_set];exact hQl.out)
        replace hne6 := hide hne6
        go_wp2
        go_roundw
        case rel => exact ⟨bt / 2,R + R + 1 - n,Q.set i (y + bt),uo6,un6,uc6,rfl,by go_num,by omega,hrow7,hQ7,hS2,hR7,hne6,hbel7⟩
        case measure => simp [intOf];omega
       ·have hcv : cmpV (R + R + 1) n < 0 := by unfold cmpV;rw [if_pos (by omega)];decide
        have hS2 := b4.out (by omega)
        rw [show 2 * R + z % 2 = R + R + 1 by omega] at hS2
        replace hS2 := hide hS2
        have hR5 := Rd.below hu4 hb5
        have hrow5 : Row w5 g 3 (Q.map D64) := (Row.keep hrow (Bel.to (Bel.al hb3 _) hb4)).keep hb5
        have hne5 : Hid ((Value.slice uo4 un4 uc4).ownBlock ≠ some g) := by
         show _ ≠ _
         intro h
         have h1 := ho4 g h
         have h2 := hrow.lt
         have h3 := hb3.size;simp at h1;omega
        have hbel5 := Bel.to bw4 hb5
        go_wp2
        go_roundw
        case rel => exact ⟨bt / 2,R + R + 1,Q,uo4,un4,uc4,rfl,by go_num,by omega,hrow5,hQl,hS2,hR5,hne5,hbel5⟩
        case measure => simp [intOf];omega
      ·have hd : decide (z % 2 = 1) = false := decide_eq_false hbeta
       rw [hd]
       have bw3 : Below w.heap.size w w3 := Bel.to hbel hb3
       have hbn3 : DV w3 (.slice ab nb cb) n := Rd.below hbD bw3
       go_wp2_with fail
       refine (rcmp _ _ (R + R) n _ hu3 hbn3).mono ?_
       rintro e w5 ⟨rfl,hb5⟩
       by_cases hge : n ≤ R + R
       ·have hcv : ¬ cmpV (R + R) n < 0 := by unfold cmpV;split <;> (try split) <;> omega
        have hcv2 : 0 ≤ cmpV (R + R) n := by omega
        have hS2 := b5.out (by omega)
        rw [show 2 * R + z % 2 - n = R + R - n by omega] at hS2
        have lV : (digs (R + R)).length ≤ 1000 := by have := hl2.out (R + R) (by omega);omega
        have hu5 : DV w5 _ (R + R) := Rd.below hu3 hb5
        have hbn5 : DV w5 _ n := Rd.below hbn3 hb5
        have hrow5 : Row w5 g 3 (Q.map D64) := (Row.keep hrow hb3).keep hb5
        have hbel5 := Bel.to bw3 hb5
        obtain ⟨y,hy⟩ : ∃ y,y = Q[i] := ⟨_,rfl⟩
        rw [← hy] at hS2 b3
        replace hS2 := hide hS2
        replace hy := hide hy
        go_wp2_with fail
        refine (rsub _ _ (R + R) n _ hu5 hbn5 hge lV).mono ?_
        rintro e w6 ⟨u6,rfl,hu6,hb6,ho6⟩
        obtain ⟨uo6,un6,uc6,rfl⟩ := Rd.shape hu6
        have hrow6 := hrow5.keep hb6
        have hg5 := hrow5.lt
        have hne6 : (Value.slice uo6 un6 uc6).ownBlock ≠ some g := fun h => by have h1 := ho6 g h;omega
        have c6 := hrow6.cellV hiQ
        rw [← hy.out] at c6
        have f6 := hrow6.frozen i
        have hrow7 := hrow6.setV (V := D64) i (y + bt)
        rw [show D64 (y + bt) = .int .i64 ((y : Int) + (bt : Int)) by rw [← Int.natCast_add]] at hrow7
        have hR7 : DV _ _ (R + R - n) := Rd.setCell hu6 (p := ⟨g,i,none⟩) hne6 (.int .i64 ((y : Int) + (bt : Int)))
        have hbel7 := Bel.st (Bel.to hbel5 hb6) (p := ⟨g,i,none⟩) hgs (.int .i64 ((y : Int) + (bt : Int)))
        have hQ7 := hide (show (Q.set i (y + bt)).length = a.length by rw [List.length_set];exact hQl.out)
        replace hne6 := hide hne6
        go_wp2
        go_roundw
        case rel => exact ⟨bt / 2,R + R - n,Q.set i (y + bt),uo6,un6,uc6,rfl,by go_num,by omega,hrow7,hQ7,hS2,hR7,hne6,hbel7⟩
        case measure => simp [intOf];omega
       ·have hcv : cmpV (R + R) n < 0 := by unfold cmpV;rw [if_pos (by omega)];decide
        have hS2 := b4.out (by omega)
        rw [show 2 * R + z % 2 = R + R by omega] at hS2
        replace hS2 := hide hS2
        have hR5 := Rd.below hu3 hb5
        have hrow5 : Row w5 g 3 (Q.map D64) := (Row.keep hrow hb3).keep hb5
        have hne5 : Hid ((Value.slice uo3 un3 uc3).ownBlock ≠ some g) := by
         show _ ≠ _
         intro h
         have h1 := ho3 g h
         have h2 := hrow.lt
         omega
        have hbel5 := Bel.to bw3 hb5
        go_wp2
        go_roundw
        case rel => exact ⟨bt / 2,R + R,Q,uo3,un3,uc3,rfl,by go_num,by omega,hrow5,hQl,hS2,hR5,hne5,hbel5⟩
        case measure => simp [intOf];omega
set_option maxHeartbeats 4000000 in
set_option maxRecDepth 100000 in
theorem rdivmod (va vb : Value) (m n : Nat) (w : World) (ha : NV w va m) (hb : NV w vb n) (lm : (limbs m).length ≤ 64) (ln : (limbs n).length ≤ 64) (hn : 0 < n) :
  Calls Tryz.prog 112 #[.agg #[va],.agg #[vb]] w (Nat3 (m / n) (m % n) w) := by
 have dm := hide (digs_limbs_len lm)
 have dn := hide (digs_limbs_len ln)
 have dq : (digs (m / n)).length ≤ 128 := by have := digs_len_le (Nat.div_le_self m n);have := dm.out;omega
 have dr : (digs (m % n)).length ≤ 128 := by have := digs_len_le (Nat.le_of_lt (Nat.mod_lt m hn));have := dn.out;omega
 obtain ⟨q,hq⟩ : ∃ q,q = m / n := ⟨_,rfl⟩
 obtain ⟨r,hr⟩ : ∃ r,r = m % n := ⟨_,rfl⟩
 rw [← hq] at dq
 rw [← hr] at dr
 rw [← hq,← hr]
 replace hq := hide hq
 replace hr := hide hr
 obtain ⟨aa,ca,rfl,hla,hca,hra⟩ := Rd.form ha
 obtain ⟨ab,cb,rfl,hlb,hcb,hrb⟩ := Rd.form hb
 have hn0 : 0 < (limbs n).length := by rw [limbs_pos (by omega)];simp
 go_enter Tryz.func112,Tryz.ntmps112
 go_wp2_with fail
 refine (rvalid _ m _ (by exact (((ha.alloc _).alloc _).alloc _).alloc _) lm).mono ?_
 rintro e w1 ⟨rfl,hb1⟩
 have hp : DivPre w w1 aa ab m n ca cb := ⟨Bel.to (Bel.al (Bel.al (Bel.al (Bel.al (Below.refl _ _) _) _) _) _) hb1,by have := hb1.size;simp at this;omega,Bel.cellOf hb1 (by go_simp),Bel.cellOf hb1 (by go_simp),Bel.cellOf hb1 (by go_simp),Bel.cellOf hb1 (by go_simp),Bel.frozenOf hb1 (v := .slice none 0 0) (by go_simp) (by go_simp),Bel.frozenOf hb1 (v := .slice none 0 0) (by go_simp) (by go_simp)⟩
 clear hb1
 have d1 := hp.c1
 go_wp2_with fail
 refine (rvalid _ n _ (by exact hb.below hp.bel) ln).mono ?_
 rintro e w2 ⟨rfl,hb2⟩
 replace hp := hp.keep hb2
 clear hb2 d1
 have d0 := hp.c0
 have d1 := hp.c1
 have na := ha.below hp.bel
 have nb := hb.below hp.bel
 go_upto_region 5 with (fail)
 go_cut [7,8] (fun x y X => DivPre w X aa ab m n ca cb ∧ DV X x q ∧ DV X y r)
 case first =>
  go_region_held3 (fun X => X.cell? ⟨w.heap.size,0,none⟩ = some (.slice aa (limbs m).length ca) ∧ X.cell? ⟨w.heap.size + 1,0,none⟩ = some (.slice ab (limbs n).length cb)) (go_keep) (first
   | (go_at_call 115;refine (halves _ m _ ?_ ?_).mono ?_;(exact Rd.drew na);(omega);rintro e w2 ⟨u2,rfl,hu2,hb2,-⟩;have hp2 := (hp.keep (Below.drew (Below.refl _ _))).keep hb2;have d02 := hp2.c0;have d12 := hp2.c1;have nb2 : NV w2 _ n := Rd.below (Rd.drew nb) hb2)
   | (go_at_call 115;refine (halves _ n _ ?_ ?_).mono ?_;(exact nb2);(omega);rintro e w3 ⟨u3,rfl,hu3,hb3,-⟩;have hp3 := hp2.keep hb3;have d03 := hp3.c0;have d13 := hp3.c1;have hu23 : DV w3 _ m := Rd.below hu2 hb3)
   | (go_at_call 133;refine (rdivide _ _ m n _ ?_ ?_ ?_ ?_ ?_).mono ?_;(exact hu23);(exact hu3);(exact hn);(have := dm.out;omega);(have := dn.out;omega);rintro e w4 ⟨u4,v4,rfl,hu4,hv4,hb4⟩;have hp4 := hp3.keep hb4;have d04 := hp4.c0;have d14 := hp4.c1))
  all_goals go_wp2_with fail
  all_goals
   go_meet
   rw [← hq.out] at hu4
   rw [← hr.out] at hv4
   exact ⟨hp4,hu4,hv4⟩
 case rest =>
  obtain ⟨hp5,hx,hy⟩ := hcut
  clear hp d0 d1 na nb
  go_wp2_with fail
  refine (whole_ok _ q _ (by first | exact hx | exact hx.alloc _) dq).mono ?_
  rintro e w6 ⟨uq,rfl,huq,hb6⟩
  obtain ⟨aq,nq,cq,rfl⟩ := Rd.shape huq
  have hp6 : DivPre w w6 aa ab m n ca cb := (by first | exact hp5.keep hb6 | exact (hp5.keep (Bel.al (Below.refl _ _) _)).keep hb6)
  have hy6 : DV w6 _ r := (by first | exact Rd.below hy hb6 | exact Rd.below (Rd.alloc hy _) hb6)
  have s6 := hb6.size
  go_wp2_with fail
  refine (whole_ok _ r _ (by first | exact hy6.alloc _ | exact (hy6.alloc _).alloc _) dr).mono ?_
  rintro e w7 ⟨ur,rfl,hur,hb7⟩
  obtain ⟨ar,nr,cr,rfl⟩ := Rd.shape hur
  have hp7 : DivPre w w7 aa ab m n ca cb := (hp6.keep (Bel.al (Below.refl _ _) _)).keep hb7
  have huq7 : NV w7 _ q := Rd.below (Rd.alloc huq _) hb7
  have c9 : w7.cell? ⟨w6.heap.size,0,none⟩ = some (.slice aq nq cq) := Bel.cellOf hb7 (new_cell w6 _ _)
  have hp8 : DivPre w (w7.alloc (Obj.cells #[Value.slice ar nr cr] 30)) aa ab m n ca cb := hp7.keep (Bel.al (Below.refl _ _) _)
  have huq8 : NV (w7.alloc (Obj.cells #[Value.slice ar nr cr] 30)) _ q := Rd.alloc huq7 _
  have hur8 : NV (w7.alloc (Obj.cells #[Value.slice ar nr cr] 30)) _ r := Rd.alloc hur _
  have c9' := cell_alloc c9 (Obj.cells #[Value.slice ar nr cr] 30)
  have c11 := new_cell w7 (Value.slice ar nr cr) 30
  have z9 : w.heap.size + 1 + 1 + 1 < w6.heap.size := hp6.size
  have z11 : w6.heap.size < w7.heap.size := by have := hb7.size;simp at this;omega
  go_wp2_with fail
  obtain ⟨wd,hwd⟩ : ∃ wd,wd = (w7.alloc (Obj.cells #[Value.slice ar nr cr] 30)) := ⟨_,rfl⟩
  obtain ⟨g9,hg9⟩ : ∃ g,g = w6.heap.size := ⟨_,rfl⟩
  obtain ⟨g11,hg11⟩ : ∃ g,g = w7.heap.size := ⟨_,rfl⟩
  rw [← hwd] at hp8 huq8 hur8 c9' c11
  rw [← hg9] at c9' z9 z11
  rw [← hg11] at c11 z11
  rw [← hwd,← hg9,← hg11]
  clear hwd hg9 hg11 c9 hp7 hur huq7 hp6 hy6 hb7 hb6 huq hx hy hp5
  have e2 := hp8.c2
  have e3 := hp8.c3
  have g2 := hp8.f2
  have g3 := hp8.f3
  have sz := hp8.size
  have hbel := hp8.bel
  clear hp8
  go_region
  go_wp2
  have e3' := cell_far (p := ⟨w.heap.size + 1 + 1,0,none⟩) e3 (by simp) (Value.slice aq nq cq)
  have hu2 := (huq8.setNe e2 (fun _ h => by cases h) (.slice aq nq cq)).setNe e3' (fun _ h => by cases h) (.slice ar nr cr)
  have hr2 := (hur8.setNe e2 (fun _ h => by cases h) (.slice aq nq cq)).setNe e3' (fun _ h => by cases h) (.slice ar nr cr)
  have hb2 := Bel.st (Bel.st hbel (p := ⟨w.heap.size + 1 + 1,0,none⟩) (by simp only [];omega) (.slice aq nq cq)) (p := ⟨w.heap.size + 1 + 1 + 1,0,none⟩) (by simp only [];omega) (.slice ar nr cr)
  refine bodyPost_ret (v := .tuple #[.agg #[.slice aq nq cq],.agg #[.slice ar nr cr],.int .i64 0]) (by simp [results,Tryz.results112,go_sem,e2,e3]) rfl ⟨_,_,rfl,hu2.drew,hr2.drew,hb2.drew⟩
set_option maxHeartbeats 4000000 in
set_option maxRecDepth 100000 in
theorem rmul_nat (va vb : Value) (m n : Nat) (w : World) (ha : NV w va m) (hb : NV w vb n) (lm : (limbs m).length ≤ 64) (ln : (limbs n).length ≤ 64) (lr : (digs (m * n)).length ≤ 128) :
  Calls Tryz.prog 84 #[.agg #[va],.agg #[vb]] w (NatC (m * n) 0 w) := by
 have dm := hide (digs_limbs_len lm)
 have dn := hide (digs_limbs_len ln)
 obtain ⟨a0,n0,cp0,rfl⟩ := Rd.shape ha
 obtain ⟨a1,n1,cp1,rfl⟩ := Rd.shape hb
 go_enter Tryz.func84,Tryz.ntmps84
 go_wp2_with fail
 refine (rvalid _ m _ (((Rd.alloc ha _).alloc _).alloc _) lm).mono ?_
 rintro e w1 ⟨rfl,hb1⟩
 have ca1 : w1.cell? ⟨w.heap.size,0,none⟩ = some (.slice a0 n0 cp0) := Bel.cellOf hb1 (by go_simp)
 have cb1 : w1.cell? ⟨w.heap.size + 1,0,none⟩ = some (.slice a1 n1 cp1) := Bel.cellOf hb1 (by go_simp)
 have cr1 : w1.cell? ⟨w.heap.size + 2,0,none⟩ = some (.slice none 0 0) := Bel.cellOf hb1 (by go_simp)
 have fr1 : w1.frozen? ⟨w.heap.size + 2,0,none⟩ = false := by rw [hb1.frozen (by simp)];go_simp
 have na1 : NV w1 _ m := Rd.below (((Rd.alloc ha _).alloc _).alloc _) hb1
 have nb1 : NV w1 _ n := Rd.below (((Rd.alloc hb _).alloc _).alloc _) hb1
 have bw1 := Bel.three _ _ _ hb1
 have sz1 : w.heap.size + 2 < w1.heap.size := by have := hb1.size;simp at this;omega
 clear ha hb hb1
 go_wp2_with fail
 refine (rvalid _ n _ nb1 ln).mono ?_
 rintro e W ⟨rfl,hb2⟩
 have ca := Bel.cellOf hb2 ca1
 have cb := Bel.cellOf hb2 cb1
 have cr := Bel.cellOf hb2 cr1
 have fr := Bel.frozenOf hb2 cr1 fr1
 have na : NV W _ m := Rd.below na1 hb2
 have nb : NV W _ n := Rd.below nb1 hb2
 have bw := Bel.to bw1 hb2
 have sz : w.heap.size + 2 < W.heap.size := by have := hb2.size;omega
 clear ca1 cb1 cr1 fr1 na1 nb1 bw1 hb2 sz1
 go_upto_region 3 with (fail)
 go_cut [6,7] (fun p ok X => ∃ (pb : Nat) (ap : Option Addr) (np cpp : Nat),p = .pointer (some ⟨pb,0,none⟩) ∧ ok = .bool true ∧ Below W.heap.size W X ∧ X.cell? ⟨pb,0,none⟩ = some (.slice ap np cpp) ∧ NV X (.slice ap np cpp) (m * n))
 case first =>
  go_region_held3 (fun X => X.cell? ⟨w.heap.size,0,none⟩ = some (.slice a0 n0 cp0) ∧ X.cell? ⟨w.heap.size + 1,0,none⟩ = some (.slice a1 n1 cp1)) (first | go_keep | (refine ⟨cell_far ca5 ?_ _,cell_far cb5 ?_ _⟩ <;> (simp only [];omega))) (first
   | (go_at_call 115;refine (halves _ m _ ?_ ?_).mono ?_;(first | exact Rd.drew na | exact Rd.alloc (Rd.drew na) _);(omega);rintro e w2 ⟨u2,rfl,hu2,hb2,-⟩;have b2 : Below W.heap.size W w2 := (by first | exact Bel.to (Below.drew (Below.refl _ _)) hb2 | exact Bel.to (Bel.al (Below.drew (Below.refl _ _)) _) hb2);have ca2 := Bel.cellOf b2 ca;have cb2 := Bel.cellOf b2 cb;have nb2 : NV w2 _ n := Rd.below nb b2;have s2 := b2.size;(try have k2 : w2.cell? ⟨W.heap.size,0,none⟩ = some (.slice none 0 0) := Bel.cellOf hb2 (new_cell W.drew _ _));(try have f2 : w2.frozen? ⟨W.heap.size,0,none⟩ = false := Bel.frozenOf hb2 (new_cell W.drew _ _) (new_frozen W.drew _ _)))
   | (go_at_call 115;refine (halves _ n _ ?_ ?_).mono ?_;(first | exact nb2 | exact Rd.alloc nb2 _);(omega);rintro e w3 ⟨u3,rfl,hu3,hb3,-⟩;have b3 : Below W.heap.size W w3 := (by first | exact Bel.to b2 hb3 | exact Bel.to (Bel.al b2 _) hb3);have ca3 := Bel.cellOf b3 ca;have cb3 := Bel.cellOf b3 cb;have hu23 : DV w3 _ m := (by first | exact Rd.below hu2 hb3 | exact Rd.below (Rd.alloc hu2 _) hb3);have s3 := b3.size;(try have k3 := Bel.cellOf hb3 k2);(try have f3 := Bel.frozenOf hb3 k2 f2);(try have k3 : w3.cell? ⟨w2.heap.size,0,none⟩ = some (.slice none 0 0) := Bel.cellOf hb3 (new_cell w2 _ _));(try have f3 : w3.frozen? ⟨w2.heap.size,0,none⟩ = false := Bel.frozenOf hb3 (new_cell w2 _ _) (new_frozen w2 _ _)))
   | (go_at_call 116;refine (rmul_d _ _ m n _ ?_ ?_ ?_ ?_).mono ?_;(first | exact hu23 | exact Rd.alloc hu23 _);(first | exact hu3 | exact Rd.alloc hu3 _);(have := dm.out;omega);(have := dn.out;omega);rintro e w4 ⟨u4,rfl,hu4,hb4,-⟩;have b4 : Below W.heap.size W w4 := (by first | exact Bel.to b3 hb4 | exact Bel.to (Bel.al b3 _) hb4);have ca4 := Bel.cellOf b4 ca;have cb4 := Bel.cellOf b4 cb;have s4 := b4.size;(try have k4 := Bel.cellOf hb4 k3);(try have f4 := Bel.frozenOf hb4 k3 f3);(try have k4 : w4.cell? ⟨w3.heap.size,0,none⟩ = some (.slice none 0 0) := Bel.cellOf hb4 (new_cell w3 _ _));(try have f4 : w4.frozen? ⟨w3.heap.size,0,none⟩ = false := Bel.frozenOf hb4 (new_cell w3 _ _) (new_frozen w3 _ _)))
   | (go_at_call 113;refine (whole_ok _ (m * n) _ ?_ ?_).mono ?_;(first | exact hu4 | exact Rd.alloc hu4 _);(omega);rintro e w5 ⟨u5,rfl,hu5,hb5⟩;have b5 : Below W.heap.size W w5 := (by first | exact Bel.to b4 hb5 | exact Bel.to (Bel.al b4 _) hb5);have ca5 := Bel.cellOf b5 ca;have cb5 := Bel.cellOf b5 cb;have s5 := b5.size;(try have k5 := Bel.cellOf hb5 k4);(try have f5 := Bel.frozenOf hb5 k4 f4);(try have k5 : w5.cell? ⟨w4.heap.size,0,none⟩ = some (.slice none 0 0) := Bel.cellOf hb5 (new_cell w4 _ _));(try have f5 : w5.frozen? ⟨w4.heap.size,0,none⟩ = false := Bel.frozenOf hb5 (new_cell w4 _ _) (new_frozen w4 _ _));obtain ⟨a5,n5,cp5,rfl⟩ := Rd.shape hu5))
  all_goals go_wp2_with fail
  all_goals
   go_meet
   first
    | exact ⟨_,_,_,_,rfl,rfl,Bel.al b5 _,new_cell _ _ _,hu5.alloc _⟩
    | exact ⟨_,_,_,_,rfl,rfl,Bel.st b5 (by first | omega | (simp only [];omega) | (simp;done) | (simp;omega)) _,set_cell k5 _,hu5.setNe k5 (fun _ h => by cases h) _⟩
 case rest =>
  obtain ⟨pb,ap,np,cpp,rfl,rfl,hb3,cpb,hp⟩ := hcut
  have cr3 := Bel.cellOf hb3 cr
  have fr3 := Bel.frozenOf hb3 cr fr
  have hfin := hp.setNe cr3 (fun _ h => by cases h) (.slice ap np cpp)
  have hbel := Bel.st (Bel.to bw hb3) (p := ⟨w.heap.size + 2,0,none⟩) (by simp) (.slice ap np cpp)
  go_wp2
  refine bodyPost_ret (v := .tuple #[.agg #[.slice ap np cpp],.int .i64 0]) (by simp [results,Tryz.results84,go_sem,cr3]) rfl ⟨_,rfl,hfin,hbel⟩
def chooseV (n k : Int) : Nat × Int := if 0 ≤ n ∧ n ≤ 80 then (chooseI n k,0) else (0,2)
theorem choose_any (n k : Int) (w : World) : Calls Tryz.prog 123 #[.int .i64 n,.int .i64 k] w (NatC (chooseV n k).1 (chooseV n k).2 w) := by
 unfold chooseV
 by_cases h : 0 ≤ n ∧ n ≤ 80
 ·rw [if_pos h];exact choose_ok n k w h
 ·rw [if_neg h];exact choose_range n k w h
theorem rchoose_range (n k : Int) (w : World) (h : ¬ (0 ≤ n ∧ n ≤ 80)) : Calls Tryz.prog 110 #[.int .i64 n,.int .i64 k] w (NatC 0 2 w) := by
 go_enter Tryz.func110,Tryz.ntmps110
 go_wp2_with fail
 refine (in_no _ _ _ h).mono ?_
 rintro e w' ⟨rfl,rfl⟩
 clear h
 go_wp2
 refine bodyPost_ret (v := .tuple #[.agg #[.slice none 0 0],.int .i64 2]) (by simp [results,Tryz.results110,go_sem]) rfl ⟨_,rfl,NV.zero _,Bel.al (Below.refl _ _) _⟩
theorem rchoose_out (n k : Int) (w : World) (h : 0 ≤ n ∧ n ≤ 80) (hk : k < 0 ∨ n < k) : Calls Tryz.prog 110 #[.int .i64 n,.int .i64 k] w (NatC 0 0 w) := by
 go_enter Tryz.func110,Tryz.ntmps110
 go_wp2_with fail
 refine (in_yes _ _ _ h.1 h.2).mono ?_
 rintro e w' ⟨rfl,rfl⟩
 go_wp2_with fail
 refine (in_no _ _ _ (by omega)).mono ?_
 rintro e w' ⟨rfl,rfl⟩
 clear h hk
 go_wp2
 refine bodyPost_ret (v := .tuple #[.agg #[.slice none 0 0],.int .i64 0]) (by simp [results,Tryz.results110,go_sem]) rfl ⟨_,rfl,NV.zero _,Bel.al (Below.refl _ _) _⟩
set_option maxHeartbeats 4000000 in
set_option maxRecDepth 100000 in
theorem rchoose_in (n k : Nat) (w : World) (hn : n ≤ 80) (hk : k ≤ n) : Calls Tryz.prog 110 #[.int .i64 (n : Int),.int .i64 (k : Int)] w (NatC (choose n k) 0 w) := by
 go_enter Tryz.func110,Tryz.ntmps110
 go_wp2_with fail
 refine (in_yes _ _ _ (by omega) (by omega)).mono ?_
 rintro e w' ⟨rfl,rfl⟩
 go_wp2_with fail
 refine (in_yes _ _ _ (by omega) (by omega)).mono ?_
 rintro e w' ⟨rfl,rfl⟩
 go_wp2_with fail
 refine (ref_of_int _ _ (by omega) (by omega)).mono ?_
 rintro e w1 ⟨u,rfl,hu,hb⟩
 have c1 : w1.cell? ⟨w.heap.size,0,none⟩ = some (.slice none 0 0) := Bel.cellOf hb (by go_simp)
 have f1 : w1.frozen? ⟨w.heap.size,0,none⟩ = false := Bel.frozenOf hb (v := .slice none 0 0) (by go_simp) (by go_simp)
 have hb1 := Bel.one _ hb
 have hz : w.heap.size < w1.heap.size := by have := hb.size;simp at this;omega
 clear hb
 obtain ⟨ao,n0,cp,rfl⟩ := Rd.shape hu
 go_wp2
 obtain ⟨b6,hb6⟩ : ∃ b6,b6 = w1.heap.size := ⟨_,rfl⟩
 have hst : ChSt w (w1.alloc (.cells #[.slice ao n0 cp] 30)) b6 (.slice ao n0 cp) (choose (n - k + 1 - 1) (1 - 1)) := by
  subst hb6
  refine ⟨Bel.al hb1 _,hz,by go_simp,by go_simp,by go_simp,by go_simp,?_⟩
  rw [Nat.sub_self,choose_zero]
  exact hu.alloc _
 rw [← hb6]
 clear hu hb6
 have hk' : (k : Int) ≤ (n : Int) := by omega
 go_loopg [7] k (fun g t wr => ∃ (i : Nat) (ao : Option Addr) (n0 cp : Nat),g = k + 1 - i ∧ 1 ≤ i ∧ i ≤ k + 1 ∧ t = .int .i64 i ∧ ChSt w wr b6 (.slice ao n0 cp) (choose (n - k + i - 1) (i - 1)))
 case atStart => exact ⟨1,_,_,_,by omega,Nat.le_refl _,by omega,rfl,hst⟩
 case round =>
  obtain ⟨i,ao,n0,cp,hgk,hi1,hik,rfl,hst⟩ := hrel
  replace hgk := hide hgk
  have c6 := hst.c6
  have f6 := hst.f6
  have hb6 : b6 < wr.heap.size := World.block_lt_of_cell? wr ⟨b6,0,none⟩ c6
  have hbig : choose (n - k + i - 1) (i - 1) ≤ 1208925819614629174706176 := choose_lt_80 (by omega)
  by_cases hik' : i ≤ k
  ·have hne : n - k + i - 1 + 1 = n - k + i := by omega
   have hprod : choose (n - k + i - 1) (i - 1) * (n - k + i) = choose (n - k + i) i * i := by
    have := choose_mul (n - k + i - 1) (i - 1)
    rw [hne,Nat.sub_add_cancel hi1] at this
    exact this.symm
   have hlim1 : (limbs (choose (n - k + i - 1) (i - 1))).length ≤ 64 := by have := limbs_le_three (n := choose (n - k + i - 1) (i - 1)) (by omega);omega
   have hlim2 : (limbs (n - k + i)).length ≤ 64 := by have := limbs_le_three (n := n - k + i) (by omega);omega
   have hlimi : (limbs i).length ≤ 64 := by have := limbs_le_three (n := i) (by omega);omega
   have hpb : choose (n - k + i - 1) (i - 1) * (n - k + i) ≤ 1208925819614629174706176 * 80 := Nat.mul_le_mul hbig (by omega)
   have hlim3 : (limbs (choose (n - k + i) i * i)).length ≤ 64 := by rw [← hprod];have := limbs_le_three (n := choose (n - k + i - 1) (i - 1) * (n - k + i)) (by omega);omega
   have hlim4 : (digs (choose (n - k + i - 1) (i - 1) * (n - k + i))).length ≤ 128 := digs_limbs_len (k := 64) (by rw [hprod];exact hlim3)
   replace hprod := hide hprod
   replace hne := hide hne
   obtain ⟨c,hc⟩ : ∃ c,c = choose (n - k + i - 1) (i - 1) := ⟨_,rfl⟩
   rw [← hc] at hst hprod hlim1 hbig hpb hlim4
   replace hc := hide hc
   clear hbig hpb
   have hni : ((n : Int) - k + i).toNat = n - k + i := by omega
   replace hni := hide hni
   have a1 : IntKind.i64.wrap ((n : Int) - k) = (n : Int) - k := IntWalk.i64_in _ (by omega)
   have a2 : IntKind.i64.wrap ((n : Int) - k + i) = (n : Int) - k + i := IntWalk.i64_in _ (by omega)
   have a3 : IntKind.u64.wrap ((n : Int) - k + i) = (n : Int) - k + i := IntWalk.u64_in _ (by omega)
   have hii : ((i : Int)).toNat = i := by omega
   replace hii := hide hii
   have hq : choose (n - k + i) i * i / i = choose (n - k + i) i := Nat.mul_div_cancel _ (by omega)
   replace hq := hide hq
   go_upto_region 10 with (fail)
   go_cut [7] (fun t W => t = .int .i64 i ∧ ∃ (ap : Option Addr) (np cpp : Nat),ChSt w W b6 (.slice ap np cpp) (choose (n - k + i) i * i))
   case first =>
    go_region_with (first
     | (go_at_call 25;refine (ref_of_int _ _ ?_ ?_).mono ?_;(omega);(omega);rintro e w2 ⟨uo,rfl,huo,hbo⟩;have st2 := (hst.keep (Below.refl _ _).drew).keep hbo;have c62 := st2.c6)
     | (go_at_call 84;refine (rmul_nat _ _ c (n - k + i) _ ?_ ?_ ?_ ?_ ?_).mono ?_;(exact st2.nv);(rw [← hni.out];exact huo);(exact hlim1);(exact hlim2);(exact hlim4);rintro e w3 ⟨u3,rfl,hu3,hb3⟩;have st3 := st2.keep hb3;have c63 := st3.c6;have f63 := st3.f6;obtain ⟨ao3,n3,cp3,rfl⟩ := Rd.shape hu3))
    all_goals go_wp2_with fail
    all_goals
     go_meet
     rw [hprod.out] at hu3
     exact ⟨rfl,_,_,_,st3.put hu3⟩
   case rest =>
    obtain ⟨rfl,ap,np,cpp,hst2⟩ := hcut
    have a4 : IntKind.u64.wrap (i : Int) = (i : Int) := IntWalk.u64_in _ (by omega)
    clear hst c6 f6
    have e6 := hst2.c6
    have f6 := hst2.f6
    go_wp2_with fail
    go_region_with (first
     | (go_at_call 25;refine (ref_of_int _ _ ?_ ?_).mono ?_;(omega);(omega);rintro e w4 ⟨ui,rfl,hui,hb4⟩;have st4 := (hst2.keep (Below.refl _ _).drew).keep hb4;have e64 := st4.c6)
     | (go_at_call 112;refine (rdivmod _ _ (choose (n - k + i) i * i) i _ ?_ ?_ ?_ ?_ ?_).mono ?_;(exact st4.nv);(rw [← hii.out];exact hui);(exact hlim3);(exact hlimi);(omega);rintro e w5 ⟨uq,ur,rfl,huq,hur,hb5⟩;have st5 := st4.keep hb5;have e65 := st5.c6;have f65 := st5.f6;obtain ⟨aq,nq,cq,rfl⟩ := Rd.shape huq))
    all_goals
     rw [hq.out] at huq
     have st6 := st5.put huq
     go_wp2
     go_roundg (k + 1 - (i + 1))
     case measure => have := hgk.out;omega
     case rel =>
      refine ⟨i + 1,aq,nq,cq,rfl,by omega,by omega,by go_num,?_⟩
      rw [show n - k + (i + 1) - 1 = n - k + i by omega,Nat.add_sub_cancel]
      exact st6
  ·have hik2 : i = k + 1 := by omega
   have hnv := hst.nv
   rw [hik2] at hnv
   rw [show n - k + (k + 1) - 1 = n by omega,Nat.add_sub_cancel] at hnv
   replace hik2 := hide hik2
   have c4 := hst.c4
   have f4 := hst.f4
   have hl := hst.lt
   have hfin := hnv.setNe c4 (fun _ h => by cases h) (.slice ao n0 cp)
   have hbel := Bel.st hst.bel (p := ⟨w.heap.size,0,none⟩) (Nat.le_refl _) (.slice ao n0 cp)
   go_wp2
   refine bodyPost_ret (v := .tuple #[.agg #[.slice ao n0 cp],.int .i64 0]) (by simp [results,Tryz.results110,go_sem,c4]) rfl ⟨_,rfl,hfin,hbel⟩
theorem rchoose_any (n k : Int) (w : World) : Calls Tryz.prog 110 #[.int .i64 n,.int .i64 k] w (NatC (chooseV n k).1 (chooseV n k).2 w) := by
 unfold chooseV
 by_cases hn : 0 ≤ n ∧ n ≤ 80
 ·rw [if_pos hn]
  by_cases hk : 0 ≤ k ∧ k ≤ n
  ·obtain ⟨n,rfl⟩ := Int.eq_ofNat_of_zero_le hn.1
   obtain ⟨k,rfl⟩ := Int.eq_ofNat_of_zero_le hk.1
   rw [chooseI_nat n k n k rfl rfl]
   exact rchoose_in n k w (by omega) (by omega)
  ·have h0 : chooseI n k = 0 := by
    unfold chooseI
    by_cases h : k < 0
    ·rw [if_pos h]
    ·rw [if_neg h];exact choose_gt (by omega)
   rw [h0]
   exact rchoose_out n k w hn (by omega)
 ·rw [if_neg hn];exact rchoose_range n k w hn
end Go.Proofs.YtldikghldcefcaaGreat
end

/- Lemmas, merged out of smaller texts (wip/tools/mergedce.py). No condition. -/
import Derived.Deep.QuietTactic
import Derived.BigQuiet
import Derived.Laws.BitsAllLaws
import Derived.Deep.RegionHeld3
import Derived.Deep.DeepCutAuto
import Derived.Deep.LoopGhost
import Derived.Laws.CopyOwn
import Derived.Test.YtldikghldcefcaaGreatHCore
section
open Go.RowKit
set_option linter.unusedVariables false
set_option linter.unusedSimpArgs false
namespace Go.Proofs.YtldikghldcefcaaGreat
theorem val_set (l : List Nat) (k y : Nat) (h : k < l.length) : val (l.set k y) + 4294967296 ^ k * l[k] = val l + 4294967296 ^ k * y := by
 induction l generalizing k with
 | nil => simp at h
 | cons x t ih =>
  cases k with
  | zero => simp [val];omega
  | succ k =>
   have := ih k (by simpa using h)
   simp only [zsC,val,List.getElem_cons_succ,Nat.pow_succ]
   grind
theorem small_set {l : List Nat} (h : Small l) (k : Nat) {y : Nat} (hy : y < 4294967296) : Small (l.set k y) := fun x hx => by
 rcases List.mem_or_eq_of_mem_set hx with hx | rfl
 ·exact h x hx
 ·exact hy
theorem mul_lt {x y : Nat} (hx : x < 4294967296) (hy : y < 4294967296) : x * y ≤ 18446744065119617025 :=
 Nat.le_trans (Nat.mul_le_mul (Nat.le_pred_of_lt hx) (Nat.le_pred_of_lt hy)) (by decide)
theorem mul_bd {x y : Nat} (hx : x < 4294967296) (hy : y < 4294967296) : (0 : Int) ≤ (x : Int) * (y : Int) ∧ (x : Int) * (y : Int) ≤ 18446744065119617025 := by
 have h := mul_lt hx hy
 rw [← Int.natCast_mul]
 omega
theorem mul_step {P b : List Nat} {A c i j x t : Nat} (hj : j < b.length) (hi : i + j < P.length)
  (h : val P + c * 4294967296 ^ (i + j) = A + 4294967296 ^ i * (x * val (b.take j)))
  (ht : t = c + (x * b[j] + P[i + j])) :
  val (P.set (i + j) (t % 4294967296)) + (t / 4294967296) * 4294967296 ^ (i + (j + 1)) = A + 4294967296 ^ i * (x * val (b.take (j + 1))) := by
 have h1 := val_set P (i + j) (t % 4294967296) hi
 have h2 := val_take_succ b j hj
 have h3 : t = 4294967296 * (t / 4294967296) + t % 4294967296 := by omega
 generalize t / 4294967296 = q at *
 generalize t % 4294967296 = r at *
 generalize P[i + j] = p at *
 generalize b[j] = y at *
 generalize val (b.take (j + 1)) = v1 at *
 generalize val (b.take j) = v0 at *
 generalize val (P.set (i + j) r) = s1 at *
 generalize val P = s0 at *
 rw [← Nat.add_assoc,Nat.pow_succ]
 rw [Nat.pow_add] at *
 generalize 4294967296 ^ i = bi at *
 generalize 4294967296 ^ j = bj at *
 subst h2
 grind
theorem mul_row {P a b : List Nat} {c i : Nat} (hi : i < a.length) (hk : i + b.length < P.length) (hz : P[i + b.length] = 0)
  (h : val P + c * 4294967296 ^ (i + b.length) = val (a.take i) * val b + 4294967296 ^ i * (a[i] * val (b.take b.length))) :
  val (P.set (i + b.length) c) = val (a.take (i + 1)) * val b := by
 have h1 := val_set P (i + b.length) c hk
 rw [hz] at h1
 rw [val_take_succ a i hi]
 rw [List.take_length] at h
 generalize val (P.set (i + b.length) c) = s1 at *
 grind
theorem val_zeros (n : Nat) : val (List.replicate n 0) = 0 := by
 induction n with
 | zero => rfl
 | succ n ih => rw [List.replicate_succ,val,ih]
theorem small_zeros (n : Nat) : Small (List.replicate n 0) := fun x hx => by
 have := (List.mem_replicate.1 hx).2
 omega
theorem u32_mod (t : Nat) : U32 (t % 4294967296) = .int .u32 ((t : Int) % 4294967296) := by simp [U32]
end Go.Proofs.YtldikghldcefcaaGreat
end
section
set_option linter.unusedVariables false
set_option linter.unusedSimpArgs false
namespace Go.Proofs.YtldikghldcefcaaGreat
open Go.RowKit
theorem infoU32 : (Tryz.prog.info? 68).map (fun i => (i.zero,i.size,i.bytes)) = some (some (.int .u32 0),1,4) := by kernel_rfl
set_option maxHeartbeats 1000000 in
set_option maxRecDepth 100000 in
theorem mul_core (va vb : Value) (la lb : List Nat) (m n : Nat) (w : World) (hA : Hid (la = limbs m)) (hB : Hid (lb = limbs n)) (ha : Rd U32 w va la) (hb : Rd U32 w vb lb) (hm : la.length ≤ 64) (hn : lb.length ≤ 64) :
  Calls Tryz.prog 83 #[.agg #[va],.agg #[vb]] w (Nat2 (m * n) w) := by
 obtain ⟨aa,ca,rfl,hla,hca,hra⟩ := Rd.form ha
 obtain ⟨ab,cb,rfl,hlb,hcb,hrb⟩ := Rd.form hb
 have hsa : Small la := by rw [hA.out];exact small_limbs m
 have hsb : Small lb := by rw [hB.out];exact small_limbs n
 have hva := hide (show val la * val lb = m * n by rw [hA.out,hB.out,val_limbs,val_limbs])
 go_enter Tryz.func83,Tryz.ntmps83
 go_wp2_with fail
 refine (valid _ m _ (by show Rd _ _ _ _;rw [← hA.out];exact ((ha.alloc _).alloc _).alloc _) (by rw [← hA.out];exact hm)).mono ?_
 rintro e w1 ⟨rfl,hb1⟩
 have hz1 : w.heap.size + 2 < w1.heap.size := by have := hb1.size;simp at this;omega
 have hbw1 := Bel.three _ _ _ hb1
 have c10 : w1.cell? ⟨w.heap.size,0,none⟩ = some (.slice aa la.length ca) := Bel.cellOf hb1 (by go_simp)
 have c11 : w1.cell? ⟨w.heap.size + 1,0,none⟩ = some (.slice ab lb.length cb) := Bel.cellOf hb1 (by go_simp)
 have c12 : w1.cell? ⟨w.heap.size + 1 + 1,0,none⟩ = some (.slice none 0 0) := Bel.cellOf hb1 (by go_simp)
 have f12 : w1.frozen? ⟨w.heap.size + 1 + 1,0,none⟩ = false := Bel.frozenOf hb1 (v := .slice none 0 0) (by go_simp) (by go_simp)
 clear hb1
 go_wp2_with fail
 refine (valid _ n _ (by show Rd _ _ _ _;rw [← hB.out];exact hb.below hbw1) (by rw [← hB.out];exact hn)).mono ?_
 rintro e w2 ⟨rfl,hb2⟩
 have hz2 : w.heap.size + 2 < w2.heap.size := by have := hb2.size;omega
 have hbw2 := Bel.to hbw1 hb2
 have c20 := Bel.cellOf hb2 c10
 have c21 := Bel.cellOf hb2 c11
 have c22 := Bel.cellOf hb2 c12
 have f22 := Bel.frozenOf hb2 c12 f12
 clear hb2 c10 c11 c12 f12 hbw1 hz1
 go_wp2_with (with_reducible refine wpList_make_row _ rfl _ _ 28 rfl 68 (.int .u32 0) 4 Tryz.underlying28 infoU32 rfl .i64 .i64 _ _ (la.length + lb.length) (la.length + lb.length) rfl rfl (by omega) (by omega) (Nat.le_refl _) (by omega) (by omega) ?_;intro w3 hrow hb3 hz3;have c30 := Bel.cellOf hb3 c20;have c31 := Bel.cellOf hb3 c21)
 have hbw3 := Bel.to hbw2 hb3
 have c32 := Bel.cellOf hb3 c22
 have f32 := Bel.frozenOf hb3 c22 f22
 obtain ⟨g,hg⟩ : ∃ g,g = w2.heap.size := ⟨_,rfl⟩
 rw [← hg] at hrow hz3 ⊢
 have hg2 : w.heap.size + 2 < g := by omega
 clear hb3 c20 c21 c22 f22 hbw2 hz2 ha hb
 clear hg
 go_loopw [33] (fun i wr => ∃ (k : Nat) (P : List Nat),k ≤ la.length ∧ i = .int .i64 k ∧ Row wr g 68 (P.map U32) ∧ Hid (P.length = la.length + lb.length) ∧ Small P ∧ Hid (val P = val (la.take k) * val lb) ∧
   Hid (∀ q (hq : q < P.length),k + lb.length ≤ q → P[q] = 0) ∧ w3.grownBy wr (some g)) (fun i _ => la.length - (intOf i).toNat)
 case atStart =>
  refine ⟨0,List.replicate (la.length + lb.length) 0,Nat.zero_le _,rfl,by rw [List.map_replicate];exact hrow,by show _ = _;simp,small_zeros _,?_,?_,Gb.refl _ _⟩
  ·show _ = _;rw [val_zeros];simp [val]
  ·show ∀ q hq,_;intro q hq _;simp
 case round =>
  obtain ⟨k,P,hk,rfl,hP,hPl,hPs,hPv,hPz,hgb⟩ := hrel
  have d0 := Gb.cellOf hgb c30 (by omega)
  have d1 := Gb.cellOf hgb c31 (by omega)
  by_cases hkl : k < la.length
  ·obtain ⟨ba,offa,rfl,hba,hcella⟩ := hra.at_ hkl
   have e1 := Gb.cellOf hgb (Bel.cellOf hbw3 (hcella k hkl)) (by omega)
   have hx := small_get hsa hkl
   have hbnd : k + lb.length + 1 ≤ la.length + lb.length := by omega
   clear hcella
   go_wp2
   obtain ⟨wo,rfl⟩ : ∃ wo : World,wo = wr := ⟨_,rfl⟩
   go_loopw [10,56] (fun c j wr => ∃ (q cc : Nat) (P' : List Nat),q ≤ lb.length ∧ cc < 4294967296 ∧ c = .int .u64 cc ∧ j = .int .i64 q ∧ Row wr g 68 (P'.map U32) ∧ Hid (P'.length = la.length + lb.length) ∧ Small P' ∧
     Hid (val P' + cc * 4294967296 ^ (k + q) = val (la.take k) * val lb + 4294967296 ^ k * (la[k] * val (lb.take q))) ∧
     Hid (∀ i (hq : i < P'.length),k + lb.length ≤ i → P'[i] = 0) ∧ w3.grownBy wr (some g)) (fun _ j _ => lb.length - (intOf j).toNat)
   case atStart =>
    refine ⟨0,0,P,Nat.zero_le _,by omega,rfl,rfl,hP,hPl,hPs,?_,hPz,hgb⟩
    show _ = _
    rw [hPv.out];simp [val]
   case round =>
    obtain ⟨q,cc,P',hq,hcc,rfl,rfl,hP',hPl',hPs',hPv',hPz',hgb'⟩ := hrel
    have d0 := Gb.cellOf hgb' c30 (by omega)
    have d1 := Gb.cellOf hgb' c31 (by omega)
    have hPlo := hPl'.out
    by_cases hql : q < lb.length
    ·obtain ⟨bb,offb,rfl,hbb,hcellb⟩ := hrb.at_ hql
     have e2 := Gb.cellOf hgb' (Bel.cellOf hbw3 (hcellb q hql)) (by omega)
     have hy := small_get hsb hql
     have hkq : k + q < P'.length := by omega
     have e3 := hP'.cellV hkq
     have e4 := hP'.frozen (k + q)
     have hp := small_get hPs' hkq
     have hxy := mul_bd hx hy
     obtain ⟨hxy0,hxy1⟩ := hxy
     clear hcellb hPlo
     go_wp2
     go_roundw
     case rel =>
      have et : (↑cc + (↑la[k] * ↑lb[q] + ↑P'[k + q]) : Int) = ((cc + (la[k] * lb[q] + P'[k + q]) : Nat) : Int) := by rw [Int.natCast_add,Int.natCast_add,Int.natCast_mul]
      have hst := mul_step hql hkq hPv'.out rfl
      have ht : cc + (la[k] * lb[q] + P'[k + q]) < 18446744073709551616 := by have := mul_lt hx hy;omega
      rw [et]
      clear et hxy0 hxy1
      generalize cc + (la[k] * lb[q] + P'[k + q]) = t at *
      refine ⟨q + 1,t / 4294967296,P'.set (k + q) (t % 4294967296),by omega,by omega,by go_num,by go_num,?_,?_,small_set hPs' _ (by omega),hst,?_,Gb.set hgb' (.inl rfl) _⟩
      ·rw [← u32_mod]
       exact hP'.setV (k + q) (t % 4294967296)
      ·show _ = _;rw [List.length_set];exact hPl'.out
      ·show ∀ i hq,_
       intro i hi hki
       rw [List.getElem_set_ne (by omega)]
       exact hPz'.out i (by simpa using hi) hki
     case measure => simp [intOf];omega
    ·have eq1 : q = lb.length := by omega
     subst eq1
     have hkq : k + lb.length < P'.length := by omega
     have e3 := hP'.cellV hkq
     have e4 := hP'.frozen (k + lb.length)
     clear hPlo
     go_wp2
     go_roundw
     case rel =>
      have hz := hPz'.out (k + lb.length) hkq (Nat.le_refl _)
      refine ⟨k + 1,P'.set (k + lb.length) cc,by omega,by go_num,?_,?_,small_set hPs' _ hcc,mul_row hkl hkq hz hPv'.out,?_,Gb.set hgb' (.inl rfl) _⟩
      ·exact hP'.setV (k + lb.length) cc
      ·show _ = _;rw [List.length_set];exact hPl'.out
      ·show ∀ i hq,_
       intro i hi hki
       rw [List.getElem_set_ne (by omega)]
       exact hPz'.out i (by simpa using hi) (by omega)
     case measure => simp [intOf];omega
  ·have ek : k = la.length := by omega
   subst ek
   have hfin : val P = m * n := by rw [hPv.out,List.take_length];exact hva.out
   have hPlo := hPl.out
   have hrd := hP.rdAll (n := la.length + lb.length) (c := la.length + lb.length) hPlo.symm (Nat.le_refl _) (by omega)
   have c42 := Gb.cellOf hgb c32 (by omega)
   have f42 := (Gb.frozenOf hgb (b := w.heap.size + 1 + 1) (o := 0) (by omega) (by omega)).trans f32
   replace hfin := hide hfin
   clear hPlo
   go_wp2_with fail
   refine (bounded _ P _ (by exact hrd) hPs).mono ?_
   rintro e w5 ⟨u,c,rfl,hc,hu,hb5⟩
   rw [hfin.out] at hc hu
   have c52 := Bel.cellOf hb5 c42
   have f52 := Bel.frozenOf hb5 c42 f42
   have hu' := hu.setNe c52 (fun _ h => by cases h) u
   have hbel := Bel.st (Bel.to (Gb.bel hbw3 hgb (by omega)) hb5) (p := ⟨w.heap.size + 1 + 1,0,none⟩) (by simp only [];omega) u
   obtain ⟨ao,n0,cp,rfl⟩ := Rd.shape hu
   go_wp2
   refine bodyPost_ret (v := .tuple #[.agg #[.slice ao n0 cp],.int .i64 c]) (by simp [results,Tryz.results83,go_sem,c52]) rfl ⟨_,c,rfl,hc,hu',hbel⟩
end Go.Proofs.YtldikghldcefcaaGreat
end
section
set_option linter.unusedVariables false
set_option linter.unusedSimpArgs false
namespace Go.Proofs.YtldikghldcefcaaGreat
theorem val_split (l : List Nat) (i : Nat) (hi : i ≤ l.length) : val l = val (l.take i) + 4294967296 ^ i * val (l.drop i) := by
 have h := val_append (l.take i) (l.drop i)
 rw [List.take_append_drop,List.length_take,Nat.min_eq_left hi] at h
 exact h
theorem drop_cons {α : Type} (l : List α) (i : Nat) (hi : i < l.length) : l.drop i = l[i] :: l.drop (i + 1) := List.drop_eq_getElem_cons hi
theorem val_drop (l : List Nat) (i : Nat) (hi : i < l.length) : val (l.drop i) = l[i] + 4294967296 * val (l.drop (i + 1)) := by
 rw [drop_cons l i hi,val]
theorem cmp_lt {a b : List Nat} (hl : a.length = b.length) (ha : Small a) {i : Nat} (hi : i < a.length) (heq : a.drop (i + 1) = b.drop (i + 1)) (hlt : a[i] < b[i]) : val a < val b := by
 have h1 := val_split a i (by omega)
 have h2 := val_split b i (by omega)
 have h3 := val_drop a i hi
 have h4 := val_drop b i (by omega)
 have h5 := val_lt (small_take ha i)
 rw [List.length_take,Nat.min_eq_left (by omega)] at h5
 rw [heq] at h3
 have h6 : 4294967296 ^ i * (a[i] + 1) ≤ 4294967296 ^ i * b[i] := Nat.mul_le_mul_left _ hlt
 rw [h1,h2,h3,h4,Nat.mul_add,Nat.mul_add]
 rw [Nat.mul_add] at h6
 omega
theorem lt_of_length {m n : Nat} (h : (limbs m).length < (limbs n).length) : m < n := by
 have h1 := length_limbs_lt.2 (Nat.le_refl (limbs m).length)
 have h2 : ¬ n < 4294967296 ^ (limbs m).length := fun h2 => by have := length_limbs_lt.1 h2;omega
 omega
def cmpN (m n : Nat) : Int := if m < n then -1 else if n < m then 1 else 0
theorem div_step {l L : List Nat} {d i r : Nat} (hi : i < l.length) (hL : L.length = l.length) (ht : L.take (i + 1) = l.take (i + 1)) (hd : 0 < d) (hr : r < d)
  (h : val (l.drop (i + 1)) = d * val (L.drop (i + 1)) + r) {x t : Nat} (hx : x = L[i]) (hxs : x < 4294967296) (e : t = r * 4294967296 + x) :
  t / d < 4294967296 ∧ t % d < d ∧ (L.set i (t / d)).take i = l.take i ∧ val (l.drop i) = d * val ((L.set i (t / d)).drop i) + t % d := by
 have hxl : L[i] = l[i] := by
  have h1 : (L.take (i + 1))[i]? = (l.take (i + 1))[i]? := by rw [ht]
  rw [List.getElem?_take,List.getElem?_take,if_pos (by omega),if_pos (by omega),List.getElem?_eq_getElem (by omega),List.getElem?_eq_getElem (by omega)] at h1
  injection h1
 have ht' : L.take i = l.take i := by
  have := congrArg (List.take i) ht
  rwa [List.take_take,List.take_take,Nat.min_eq_left (by omega)] at this
 have hq : t / d < 4294967296 := by
  rw [Nat.div_lt_iff_lt_mul hd]
  have : (r + 1) * 4294967296 ≤ d * 4294967296 := Nat.mul_le_mul_right _ hr
  rw [Nat.mul_comm d] at this
  omega
 have hdm := Nat.div_add_mod t d
 refine ⟨hq,Nat.mod_lt _ hd,?_,?_⟩
 ·rw [List.take_set_of_le (Nat.le_refl _)]
  exact ht'
 ·rw [val_drop l i hi,h,← hxl,← hx,val_drop _ i (by rw [List.length_set];omega),List.getElem_set_self,List.drop_set_of_lt (by omega)]
  generalize t / d = q at *
  generalize t % d = s at *
  generalize val (List.drop (i + 1) L) = Q at *
  grind
end Go.Proofs.YtldikghldcefcaaGreat
end
section
open Go.RowKit
set_option linter.unusedVariables false
set_option linter.unusedSimpArgs false
namespace Go.Proofs.YtldikghldcefcaaGreat
def Drawn (r : Value) (w : World) (e : Ending) (w' : World) : Prop := e = .returned r ∧ ∃ n,w' = w.drewN n
set_option maxHeartbeats 1000000 in
set_option maxRecDepth 100000 in
theorem compare_lists (va vb : Value) (la lb : List Nat) (m n : Nat) (w : World) (hA : Hid (la = limbs m)) (hB : Hid (lb = limbs n)) (ha : Rd U32 w va la) (hb : Rd U32 w vb lb) :
  Calls Tryz.prog 106 #[va,vb] w (Drawn (.int .i64 (cmpN m n)) w) := by
 obtain ⟨aa,ca,rfl,hla,hca,hra⟩ := Rd.form ha
 obtain ⟨ab,cb,rfl,hlb,hcb,hrb⟩ := Rd.form hb
 have hca' : ca ≤ 9223372036854775807 := by unfold maxLen at hca;omega
 have hcb' : cb ≤ 9223372036854775807 := by unfold maxLen at hcb;omega
 have hsa : Small la := by rw [hA.out];exact small_limbs m
 have hsb : Small lb := by rw [hB.out];exact small_limbs n
 by_cases hlt : la.length < lb.length
 ·have hc : cmpN m n = -1 := by unfold cmpN;rw [if_pos (lt_of_length (by rw [← hA.out,← hB.out];exact hlt))]
  rw [hc]
  clear hc
  go_enter Tryz.func106,Tryz.ntmps106
  go_wp2
  go_ret
  exact ⟨rfl,0,rfl⟩
 by_cases hgt : lb.length < la.length
 ·have hc : cmpN m n = 1 := by
   have := lt_of_length (m := n) (n := m) (by rw [← hA.out,← hB.out];exact hgt)
   unfold cmpN;rw [if_neg (by omega),if_pos this]
  rw [hc]
  clear hc
  go_enter Tryz.func106,Tryz.ntmps106
  go_wp2
  go_ret
  exact ⟨rfl,0,rfl⟩
 have hlen : la.length = lb.length := by omega
 have hle := hide hlen
 have hva : val la = m := by rw [hA.out,val_limbs]
 have hvb : val lb = n := by rw [hB.out,val_limbs]
 replace hva := hide hva
 replace hvb := hide hvb
 have l1 : la.length ≤ lb.length := by omega
 have l2 : lb.length ≤ la.length := by omega
 have l3 : ((la.length : Int) != lb.length) = false := by simp;omega
 clear hlt hgt hlen
 go_enter Tryz.func106,Tryz.ntmps106
 go_wp2
 go_loopw [5] (fun i wr => ∃ (k d : Nat),k ≤ la.length ∧ i = .int .i64 ((k : Int) - 1) ∧ wr = w.drewN d ∧ Hid (la.drop k = lb.drop k)) (fun i _ => (intOf i + 1).toNat)
 case atStart =>
  refine ⟨la.length,0,Nat.le_refl _,rfl,rfl,?_⟩
  show _ = _
  rw [List.drop_length,List.drop_of_length_le (by omega)]
 case round =>
  obtain ⟨k,d,hk,rfl,rfl,hdr⟩ := hrel
  by_cases hk0 : k = 0
  ·subst hk0
   have h1 := hdr.out
   simp only [List.drop_zero] at h1
   have hc : cmpN m n = 0 := by
    have : m = n := by rw [← hva.out,← hvb.out,h1]
    unfold cmpN;rw [if_neg (by omega),if_neg (by omega)]
   replace hc := hide hc
   clear h1
   go_wp2
   go_ret
   exact ⟨by rw [hc.out];rfl,d,rfl⟩
  ·have hk1 : k - 1 < la.length := by omega
   have hk2 : k - 1 < lb.length := by omega
   obtain ⟨ba,offa,rfl,hba,hcella⟩ := hra.at_ hk1
   obtain ⟨bb,offb,rfl,hbb,hcellb⟩ := hrb.at_ hk2
   have c1 := hcella _ hk1
   have c2 := hcellb _ hk2
   clear hcella hcellb
   have i1 : (0 : Int) ≤ (k : Int) - 1 := by omega
   have i2 : (k : Int) - 1 < (la.length : Int) := by omega
   have i3 : (k : Int) - 1 < (lb.length : Int) := by omega
   rcases Nat.lt_trichotomy la[k - 1] lb[k - 1] with h | h | h
   ·have hc : cmpN m n = -1 := by
     have := cmp_lt hle.out hsa hk1 (by rw [Nat.sub_add_cancel (by omega)];exact hdr.out) h
     rw [hva.out,hvb.out] at this
     unfold cmpN;rw [if_pos this]
    replace hc := hide hc
    have t1 : ((la[k - 1] : Nat) : Int) < ((lb[k - 1] : Nat) : Int) := by omega
    go_wp2
    go_quiet (fail)
    go_wp2
    go_ret
    exact ⟨by rw [hc.out];rfl,_,World.drewN_drewN _ _ _⟩
   ·have t1 : ¬ ((la[k - 1] : Nat) : Int) < ((lb[k - 1] : Nat) : Int) := by omega
    have t2 : ¬ ((lb[k - 1] : Nat) : Int) < ((la[k - 1] : Nat) : Int) := by omega
    replace h := hide h
    go_wp2
    go_quiet (fail)
    go_wp2
    go_quiet (fail)
    go_wp2
    go_roundw
    case rel =>
     refine ⟨k - 1,_,by omega,by go_num,rfl,?_⟩
     show _ = _
     rw [drop_cons la (k - 1) hk1,drop_cons lb (k - 1) hk2,h.out,Nat.sub_add_cancel (by omega),hdr.out]
    case measure => simp [intOf];omega
   ·have hc : cmpN m n = 1 := by
     have := cmp_lt hle.out.symm hsb hk2 (by rw [Nat.sub_add_cancel (by omega)];exact hdr.out.symm) h
     rw [hva.out,hvb.out] at this
     unfold cmpN;rw [if_neg (by omega),if_pos this]
    replace hc := hide hc
    have t1 : ¬ ((la[k - 1] : Nat) : Int) < ((lb[k - 1] : Nat) : Int) := by omega
    have t2 : ((lb[k - 1] : Nat) : Int) < ((la[k - 1] : Nat) : Int) := by omega
    go_wp2
    go_quiet (fail)
    go_wp2
    go_quiet (fail)
    go_wp2
    go_ret
    exact ⟨by rw [hc.out];rfl,_,by rw [World.drewN_drewN,World.drewN_drewN]⟩
theorem infoU32' : (Tryz.prog.info? 68).map (fun i => (i.zero,i.size,i.bytes)) = some (some (.int .u32 0),1,4) := by kernel_rfl
theorem copied (v : Value) (n : Nat) (w : World) (h : NV w v n) (hn : (limbs n).length ≤ 64) :
  Calls Tryz.prog 105 #[.agg #[v]] w (SomeNat n w) := by
 obtain ⟨aa,ca,rfl,hla,hca,hra⟩ := Rd.form h
 go_enter Tryz.func105,Tryz.ntmps105
 go_wp2_with (with_reducible refine wpList_append_rd _ rfl _ _ 28 rfl (V := U32) (fun _ => rfl) w.heap.size 68 (.int .u32 0) 4 Tryz.underlying28 infoU32' rfl (.slice none 0 0) [] rfl (Own.nil _ _ _) _ (limbs n) rfl ?_ ?_ ?_ ?_ ?_)
 case refine_1 => exact (hra.alloc _).alloc _
 case refine_2 => simp;omega
 case refine_3 => simp;omega
 case refine_4 => simp;omega
 intro v1 w1 hown1 hg1 hv1
 have hb1 : Below w.heap.size w w1 := (Bel.al (Bel.al (Below.refl _ _) _) _).grown hg1 (by simp;omega) (by simp [Value.ownBlock])
 have hbb : Below ((w.alloc (Obj.cells #[Value.slice aa (limbs n).length ca] 30)).alloc (Obj.cells #[Value.slice none 0 0] 30)).heap.size ((w.alloc (Obj.cells #[Value.slice aa (limbs n).length ca] 30)).alloc (Obj.cells #[Value.slice none 0 0] 30)) w1 := (Below.refl _ _).grown hg1 (Nat.le_refl _) (by simp [Value.ownBlock])
 have c1 : w1.cell? ⟨w.heap.size + 1,0,none⟩ = some (.slice none 0 0) := Bel.cellOf hbb (by go_simp)
 have f1 : w1.frozen? ⟨w.heap.size + 1,0,none⟩ = false := Bel.frozenOf hbb (v := .slice none 0 0) (by go_simp) (by go_simp)
 clear hbb
 go_wp2_with fail
 refine (trimmed _ (limbs n) _ (by exact hown1.rd) (small_limbs n)).mono ?_
 rintro e w2 ⟨u,rfl,hu,hb2⟩
 rw [val_limbs] at hu
 have c2 := Bel.cellOf hb2 c1
 have f2 := Bel.frozenOf hb2 c1 f1
 have hu' := hu.setNe c2 (fun _ h => by cases h) u
 have hbel := Bel.st (Bel.to hb1 hb2) (p := ⟨w.heap.size + 1,0,none⟩) (by simp only [];omega) u
 obtain ⟨ao,n0,cp,rfl⟩ := Rd.shape hu
 go_wp2
 refine bodyPost_ret (v := .agg #[.slice ao n0 cp]) (by simp [results,Tryz.results105,go_sem,c2]) rfl ⟨_,rfl,hu',hbel⟩
theorem or_shift {x y : Nat} (hx : x < 4294967296) (hy : y < 4294967296) : bits BinOp.or IntKind.u64 ((x : Int) * 4294967296) (y : Int) = ((x * 4294967296 + y : Nat) : Int) := by
 have h := Nat.two_pow_add_eq_or_of_lt (i := 32) (b := y) (by omega) x
 have e : ((x : Int) * 4294967296) = ((x * 4294967296 : Nat) : Int) := by omega
 rw [e,u64_or_nat _ _ (by omega) (by omega)]
 have e2 : x * 4294967296 = 2 ^ 32 * x := by omega
 rw [e2,← h]
theorem div_bd {t d : Nat} (h : t / d < 4294967296) : (0 : Int) ≤ (t : Int) / (d : Int) ∧ (t : Int) / (d : Int) < 4294967296 := by
 have e : (t : Int) / (d : Int) = ((t / d : Nat) : Int) := (Int.natCast_ediv t d).symm
 generalize t / d = q at *
 omega
theorem u64_mod {q : Nat} (h : q < 4294967296) : IntKind.u64.wrap (q : Int) % 4294967296 = (q : Int) := by
 rw [IntKind.wrap_u64];omega
set_option maxHeartbeats 1000000 in
set_option maxRecDepth 100000 in
theorem divideSmall (g cap base : Nat) (l : List Nat) (d : Nat) (w : World) (h : Own U32 w base 68 (.slice (some ⟨g,0,none⟩) l.length cap) l) (hs : Small l) (hd : 0 < d) (hdB : d < 4294967296) (hl : l.length ≤ 1000) :
  Calls Tryz.prog 107 #[.slice (some ⟨g,0,none⟩) l.length cap,.int .u32 d] w fun e w' => e = .returned (.int .u32 ((val l % d : Nat) : Int)) ∧
   (∃ q,Own U32 w' base 68 (.slice (some ⟨g,0,none⟩) l.length cap) q ∧ q.length = l.length ∧ Small q ∧ val q = val l / d) ∧ w.grownBy w' (some g) := by
 obtain ⟨ao,cap',hv,hlc,hcm,hr⟩ := Rd.form h.rd
 injection hv with e1 e2 e3
 subst e1 e3
 have hcm' : cap ≤ 9223372036854775807 := by unfold maxLen at hcm;omega
 go_enter Tryz.func107,Tryz.ntmps107
 go_wp2
 go_loopw [5,6] (fun r i wr => ∃ (k x : Nat) (L : List Nat),k ≤ l.length ∧ r = .int .u64 x ∧ i = .int .i64 ((k : Int) - 1) ∧ x < d ∧ Hid (L.length = l.length) ∧ Own U32 wr base 68 (.slice (some ⟨g,0,none⟩) l.length cap) L ∧ Small L ∧
   Hid (L.take k = l.take k) ∧ Hid (val (l.drop k) = d * val (L.drop k) + x) ∧ w.grownBy wr (some g)) (fun _ i _ => (intOf i + 1).toNat)
 case atStart =>
  exact ⟨l.length,0,l,Nat.le_refl _,rfl,rfl,hd,rfl,h,hs,rfl,by show _ = _;simp [val],Gb.refl _ _⟩
 case round =>
  obtain ⟨k,x,L,hk,rfl,rfl,hx,hLl,hown,hLs,hLt,hLv,hgb⟩ := hrel
  by_cases hk0 : k = 0
  ·subst hk0
   have h1 := hLv.out
   simp only [List.drop_zero] at h1
   have h2 : val L = val l / d := by rw [h1,Nat.mul_add_div hd,Nat.div_eq_of_lt hx];omega
   have h3 : val l % d = x := by rw [h1,Nat.mul_add_mod,Nat.mod_eq_of_lt hx]
   replace h3 := hide h3
   clear h1
   go_wp2
   go_ret
   rw [h3.out]
   exact ⟨rfl,⟨L,hown,hLl.out,hLs,h2⟩,hgb⟩
  ·have hLo := hLl.out
   have hk1 : k - 1 < L.length := by omega
   have e5 := hown.rd.at_ (k := k - 1) hk1
   obtain ⟨b',off',eb,hb',hcc⟩ := e5
   injection eb with eb
   injection eb with eb1 eb2
   subst eb1 eb2
   have c1 := hcc (k - 1) hk1
   simp only [Nat.zero_add] at c1
   have f1 : wr.frozen? ⟨g,k - 1,none⟩ = false := World.ownsRow.frozenAt (by have := hown;unfold Own at this;rw [hLo] at this;exact this) (k - 1)
   have hsm := small_get hLs hk1
   have hbits := or_shift (x := x) (y := L[k - 1]) (by omega) hsm
   obtain ⟨t,ht⟩ : ∃ t,t = x * 4294967296 + L[k - 1] := ⟨_,rfl⟩
   rw [← ht] at hbits
   have htb : t < 18446744073709551616 := by omega
   have hst := div_step (l := l) (L := L) (d := d) (i := k - 1) (r := x) (x := L[k - 1]) (t := t) (by omega) hLo (by rw [Nat.sub_add_cancel (by omega)];exact hLt.out) hd hx (by rw [Nat.sub_add_cancel (by omega)];exact hLv.out) rfl hsm ht
   obtain ⟨s1,s2,s3,s4⟩ := hst
   have hdb := div_bd s1
   obtain ⟨q0,q1⟩ := hdb
   replace s3 := hide s3
   replace s4 := hide s4
   replace ht := hide ht
   clear hcc hLo q0 q1
   go_wp2
   go_roundw
   case rel =>
    rw [← Int.natCast_ediv,← Int.natCast_emod,u64_mod s1]
    refine ⟨k - 1,t % d,L.set (k - 1) (t / d),by omega,rfl,by go_num,s2,?_,?_,small_set hLs _ s1,s3,s4,Gb.set hgb (.inl rfl) _⟩
    ·show _ = _;rw [List.length_set];exact hLl.out
    ·have := World.ownsRow.stored (by have := hown;unfold Own at this;rw [hLl.out] at this;exact this) (k - 1) (.int .u32 ((t / d : Nat) : Int))
     unfold Own
     rw [List.length_set,hLl.out,List.map_set]
     exact this.1
   case measure => simp [intOf];omega
def Nat3 (q r : Nat) (w : World) (e : Ending) (w' : World) : Prop := ∃ (u v : Value),e = .returned (.tuple #[.agg #[u],.agg #[v],.int .i64 0]) ∧ NV w' u q ∧ NV w' v r ∧ Below w.heap.size w w'
theorem limbs_one {d : Nat} (h : 0 < d) (hd : d < 4294967296) : limbs d = [d] := by
 rw [limbs_pos (by omega),show d / 4294967296 = 0 by omega,limbs_zero,show d % 4294967296 = d by omega]
structure DivPre (W w2 : World) (aa ab : Option Addr) (m n ca cb : Nat) : Prop where
 bel : Below W.heap.size W w2
 size : W.heap.size + 1 + 1 + 1 < w2.heap.size
 c0 : w2.cell? ⟨W.heap.size,0,none⟩ = some (.slice aa (limbs m).length ca)
 c1 : w2.cell? ⟨W.heap.size + 1,0,none⟩ = some (.slice ab (limbs n).length cb)
 c2 : w2.cell? ⟨W.heap.size + 1 + 1,0,none⟩ = some (.slice none 0 0)
 c3 : w2.cell? ⟨W.heap.size + 1 + 1 + 1,0,none⟩ = some (.slice none 0 0)
 f2 : w2.frozen? ⟨W.heap.size + 1 + 1,0,none⟩ = false
 f3 : w2.frozen? ⟨W.heap.size + 1 + 1 + 1,0,none⟩ = false
theorem DivPre.keep {W w2 w3 : World} {aa ab : Option Addr} {m n ca cb : Nat} (h : DivPre W w2 aa ab m n ca cb) (hb : Below w2.heap.size w2 w3) : DivPre W w3 aa ab m n ca cb :=
 ⟨Bel.to h.bel hb,by have := h.size;have := hb.size;omega,Bel.cellOf hb h.c0,Bel.cellOf hb h.c1,Bel.cellOf hb h.c2,Bel.cellOf hb h.c3,Bel.frozenOf hb h.c2 h.f2,Bel.frozenOf hb h.c3 h.f3⟩
set_option maxHeartbeats 1000000 in
set_option maxRecDepth 100000 in
theorem divmod_lt (va vb : Value) (m n : Nat) (w : World) (ha : NV w va m) (hb : NV w vb n) (hm : (limbs m).length ≤ 64) (hn : (limbs n).length ≤ 64) (hlt : m < n) :
  Calls Tryz.prog 77 #[.agg #[va],.agg #[vb]] w (Nat3 0 m w) := by
 have hcmp : cmpN m n = -1 := by unfold cmpN;rw [if_pos hlt]
 obtain ⟨aa,ca,rfl,hla,hca,hra⟩ := Rd.form ha
 obtain ⟨ab,cb,rfl,hlb,hcb,hrb⟩ := Rd.form hb
 have hn0 : 0 < (limbs n).length := by rw [limbs_pos (by omega)];simp
 go_enter Tryz.func77,Tryz.ntmps77
 go_wp2_with fail
 refine (valid _ m _ (by exact (((ha.alloc _).alloc _).alloc _).alloc _) hm).mono ?_
 rintro e w1 ⟨rfl,hb1⟩
 have hp : DivPre w w1 aa ab m n ca cb := ⟨Bel.to (Bel.al (Bel.al (Bel.al (Bel.al (Below.refl _ _) _) _) _) _) hb1,by have := hb1.size;simp at this;omega,Bel.cellOf hb1 (by go_simp),Bel.cellOf hb1 (by go_simp),Bel.cellOf hb1 (by go_simp),Bel.cellOf hb1 (by go_simp),Bel.frozenOf hb1 (v := .slice none 0 0) (by go_simp) (by go_simp),Bel.frozenOf hb1 (v := .slice none 0 0) (by go_simp) (by go_simp)⟩
 clear hb1
 have d1 := hp.c1
 go_wp2_with fail
 refine (valid _ n _ (by exact hb.below hp.bel) hn).mono ?_
 rintro e w2 ⟨rfl,hb2⟩
 replace hp := hp.keep hb2
 clear hb2 d1
 have d0 := hp.c0
 have d1 := hp.c1
 go_wp2_with fail
 refine (compare_lists _ _ _ _ m n _ rfl rfl (by exact hra.below hp.bel) (by exact hrb.below hp.bel)).mono ?_
 rintro e w3 ⟨rfl,k,rfl⟩
 replace hp := hp.keep (Bel.drN (Below.refl _ _) k)
 clear d0 d1
 rw [hcmp]
 have d0 := hp.c0
 have d1 := hp.c1
 go_wp2_with fail
 refine (copied _ m _ (by exact ha.below hp.bel) hm).mono ?_
 rintro e w4 ⟨u,rfl,hu,hb4⟩
 replace hp := hp.keep hb4
 have hu2 := (hu.setNe hp.c2 (fun _ h => by cases h) (.slice none 0 0))
 have c3' : (w4.setCell ⟨w.heap.size + 1 + 1,0,none⟩ (.slice none 0 0)).cell? ⟨w.heap.size + 1 + 1 + 1,0,none⟩ = some (.slice none 0 0) := by
  have := hp.c3;go_simp
 have hu3 := (hu2.setNe c3' (fun _ h => by cases h) u)
 have hbel := Bel.st (Bel.st hp.bel (p := ⟨w.heap.size + 1 + 1,0,none⟩) (by simp only [];omega) (.slice none 0 0)) (p := ⟨w.heap.size + 1 + 1 + 1,0,none⟩) (by simp only [];omega) u
 have e2 := hp.c2
 have e3 := hp.c3
 have g2 := hp.f2
 have g3 := hp.f3
 obtain ⟨ao,n0,cp,rfl⟩ := Rd.shape hu
 go_wp2
 refine bodyPost_ret (v := .tuple #[.agg #[.slice none 0 0],.agg #[.slice ao n0 cp],.int .i64 0]) (by simp [results,Tryz.results77,go_sem,e2,e3]) rfl ⟨_,_,rfl,?_,hu3,hbel⟩
 show Rd U32 _ _ (limbs 0)
 rw [limbs_zero]
 exact Rd.nil
set_option maxHeartbeats 1000000 in
set_option maxRecDepth 100000 in
theorem divmod_small (va vb : Value) (m n : Nat) (w : World) (ha : NV w va m) (hb : NV w vb n) (hm : (limbs m).length ≤ 64) (hn0 : 0 < n) (hn : n < 4294967296) (hge : n ≤ m) :
  Calls Tryz.prog 77 #[.agg #[va],.agg #[vb]] w (Nat3 (m / n) (m % n) w) := by
 obtain ⟨cv,hcmp,hcv⟩ : ∃ cv,cmpN m n = cv ∧ ¬ cv < 0 := by
  refine ⟨_,rfl,?_⟩
  unfold cmpN;rw [if_neg (by omega)];split <;> omega
 have hl1 := limbs_one hn0 hn
 obtain ⟨aa,ca,rfl,hla,hca,hra⟩ := Rd.form ha
 obtain ⟨ab,cb,rfl,hlb,hcb,hrb⟩ := Rd.form hb
 have hrb1 : Rd U32 w (.slice ab 1 cb) [n] := by rw [hl1] at hrb;exact hrb
 obtain ⟨bb,offb,rfl,hbb,hcellb⟩ := hrb1.at_ (k := 0) (by simp)
 have cb0 := hcellb 0 (by simp)
 simp only [Nat.add_zero,List.getElem_cons_zero] at cb0
 clear hcellb hrb1
 have hl1' : (limbs n).length = 1 := by rw [hl1];rfl
 have hn64 : (limbs n).length ≤ 64 := by omega
 rw [hl1'] at hrb hb hlb ⊢
 replace hl1 := hide hl1
 replace hl1' := hide hl1'
 go_enter Tryz.func77,Tryz.ntmps77
 go_wp2_with fail
 refine (valid _ m _ (by exact (((ha.alloc _).alloc _).alloc _).alloc _) hm).mono ?_
 rintro e w1 ⟨rfl,hb1⟩
 have hp : DivPre w w1 aa (some ⟨bb,offb,none⟩) m n ca cb := ⟨Bel.to (Bel.al (Bel.al (Bel.al (Bel.al (Below.refl _ _) _) _) _) _) hb1,by have := hb1.size;simp at this;omega,Bel.cellOf hb1 (by go_simp),Bel.cellOf hb1 (by rw [hl1'.out];go_simp),Bel.cellOf hb1 (by go_simp),Bel.cellOf hb1 (by go_simp),Bel.frozenOf hb1 (v := .slice none 0 0) (by go_simp) (by go_simp),Bel.frozenOf hb1 (v := .slice none 0 0) (by go_simp) (by go_simp)⟩
 clear hb1
 have d1 := hp.c1
 rw [hl1'.out] at d1
 go_wp2_with fail
 refine (valid _ n _ (by exact hb.below hp.bel) hn64).mono ?_
 rintro e w2 ⟨rfl,hb2⟩
 replace hp := hp.keep hb2
 clear hb2 d1
 have d0 := hp.c0
 have d1 := hp.c1
 rw [hl1'.out] at d1
 go_wp2_with fail
 refine (compare_lists _ _ _ _ m n _ rfl rfl (by exact hra.below hp.bel) (by exact hrb.below hp.bel)).mono ?_
 rintro e w3 ⟨rfl,k,rfl⟩
 replace hp := hp.keep (Bel.drN (Below.refl _ _) k)
 clear d0 d1
 rw [hcmp]
 replace hcmp := hide hcmp
 have d0 := hp.c0
 have d1 := hp.c1
 rw [hl1'.out] at d1
 obtain ⟨w4,hw4⟩ : ∃ w4,w4 = w2.drewN k := ⟨_,rfl⟩
 rw [← hw4] at hp d0 d1 ⊢
 clear hw4
 go_wp2_with (with_reducible refine wpList_append_rd _ rfl _ _ 28 rfl (V := U32) (fun _ => rfl) w.heap.size 68 (.int .u32 0) 4 Tryz.underlying28 infoU32' rfl (.slice none 0 0) [] rfl (Own.nil _ _ _) _ (limbs m) rfl ?_ ?_ ?_ ?_ ?_)
 case refine_1 => exact hra.below hp.bel
 case refine_2 => simp;omega
 case refine_3 => simp;omega
 case refine_4 => exact hp.bel.size
 intro v5 w5 hown5 hg5 hv5
 have hmpos : m ≠ 0 := by omega
 have hlm : 0 < (limbs m).length := by rw [limbs_pos hmpos];simp
 obtain ⟨g,cap,rfl,hgb,hgl⟩ := hown5.form hlm
 have hgw : g = w4.heap.size := by
  rcases hv5 with h | h
  ·simp [Value.ownBlock] at h
  ·simpa [Value.ownBlock] using h
 replace hgw := hide hgw
 have hb45 : Below w4.heap.size w4 w5 := (Below.refl _ _).grown hg5 (Nat.le_refl _) (by simp [Value.ownBlock])
 have hp4 := hp
 replace hp := hp.keep hb45
 clear d0 d1 hg5 hv5
 have d1 := hp.c1
 rw [hl1'.out] at d1
 have cb5 := Bel.cellOf hp.bel cb0
 go_wp2_with fail
 refine (divideSmall g cap w.heap.size (limbs m) n _ (by exact hown5) (small_limbs m) hn0 hn (by omega)).mono ?_
 rintro e w6 ⟨rfl,⟨q,hown6,hql,hqs,hqv⟩,hg6⟩
 rw [val_limbs] at hqv ⊢
 replace hqv := hide hqv
 replace hql := hide hql
 have hb46 : Below w4.heap.size w4 w6 := hb45.grown hg6 hb45.size (fun k hk => by injection hk with hk;have := hgw.out;omega)
 replace hp := hp4.keep hb46
 clear d1 cb5
 go_wp2_with fail
 refine (trimmed _ q _ (by exact hown6.rd) hqs).mono ?_
 rintro e w7 ⟨u,rfl,hu,hb7⟩
 rw [hqv.out] at hu
 replace hp := hp.keep hb7
 have hmod : m % n < 4294967296 := by have := Nat.mod_lt m hn0;omega
 go_wp2_with fail
 refine (of_any (m % n) _ (by omega)).mono ?_
 rintro e w8 ⟨v,rfl,hv,hb8⟩
 replace hp := hp.keep hb8
 replace hu := hu.below hb8
 have hu1 := hu.setNe hp.c2 (fun _ h => by cases h) u
 have hv1 := hv.setNe hp.c2 (fun _ h => by cases h) u
 have c3' : (w8.setCell ⟨w.heap.size + 1 + 1,0,none⟩ u).cell? ⟨w.heap.size + 1 + 1 + 1,0,none⟩ = some (.slice none 0 0) := by
  have := hp.c3;go_simp
 have hu2 := hu1.setNe c3' (fun _ h => by cases h) v
 have hv2 := hv1.setNe c3' (fun _ h => by cases h) v
 have hbel := Bel.st (Bel.st hp.bel (p := ⟨w.heap.size + 1 + 1,0,none⟩) (by simp only [];omega) u) (p := ⟨w.heap.size + 1 + 1 + 1,0,none⟩) (by simp only [];omega) v
 have e2 := hp.c2
 have e3 := hp.c3
 have g2 := hp.f2
 have g3 := hp.f3
 obtain ⟨ao,n0,cp,rfl⟩ := Rd.shape hu
 obtain ⟨ao',n0',cp',rfl⟩ := Rd.shape hv
 go_wp2
 refine bodyPost_ret (v := .tuple #[.agg #[.slice ao n0 cp],.agg #[.slice ao' n0' cp'],.int .i64 0]) (by simp [results,Tryz.results77,go_sem,e2,e3]) rfl ⟨_,_,rfl,hu2,hv2,hbel⟩
theorem of_int (x : Int) (w : World) (h0 : 0 ≤ x) (h : x < 18446744073709551616) : Calls Tryz.prog 82 #[.int .u64 x] w (SomeNat x.toNat w) := by
 obtain ⟨n,rfl⟩ := Int.eq_ofNat_of_zero_le h0
 exact of_any n w (by omega)
theorem mul_any (va vb : Value) (m n : Nat) (w : World) (ha : NV w va m) (hb : NV w vb n) (hm : (limbs m).length ≤ 64) (hn : (limbs n).length ≤ 64) :
  Calls Tryz.prog 83 #[.agg #[va],.agg #[vb]] w (Nat2 (m * n) w) := mul_core va vb _ _ m n w rfl rfl ha hb hm hn
theorem known_any (n : Int) (w : World) : Calls Tryz.prog 136 #[.int .i64 n] w fun e w' => e = .returned (.bool (decide (0 ≤ n ∧ n ≤ 80))) ∧ w = w' := by
 by_cases h1 : 0 ≤ n
 ·by_cases h2 : n ≤ 80
  ·have h : decide (0 ≤ n ∧ n ≤ 80) = true := by simp;omega
   rw [h]
   go_enter Tryz.func136,Tryz.ntmps136
   go_wp2
   go_ret
   exact ⟨rfl,rfl⟩
  ·have h : decide (0 ≤ n ∧ n ≤ 80) = false := by simp;omega
   rw [h]
   go_enter Tryz.func136,Tryz.ntmps136
   go_wp2
   go_ret
   exact ⟨rfl,rfl⟩
 ·have h : decide (0 ≤ n ∧ n ≤ 80) = false := by simp;omega
  rw [h]
  go_enter Tryz.func136,Tryz.ntmps136
  go_wp2
  go_ret
  exact ⟨rfl,rfl⟩
def NatC (r : Nat) (c : Int) (w : World) (e : Ending) (w' : World) : Prop := ∃ u,e = .returned (.tuple #[.agg #[u],.int .i64 c]) ∧ NV w' u r ∧ Below w.heap.size w w'
theorem NV.zero (w : World) : NV w (.slice none 0 0) 0 := by
 show Rd U32 _ _ (limbs 0)
 rw [limbs_zero]
 exact Rd.nil
theorem choose_range (n k : Int) (w : World) (h : ¬ (0 ≤ n ∧ n ≤ 80)) : Calls Tryz.prog 123 #[.int .i64 n,.int .i64 k] w (NatC 0 2 w) := by
 have hd : decide (0 ≤ n ∧ n ≤ 80) = false := decide_eq_false h
 go_enter Tryz.func123,Tryz.ntmps123
 go_wp2_with fail
 refine (known_any _ _).mono ?_
 rintro e w' ⟨rfl,rfl⟩
 rw [hd]
 clear hd h
 go_wp2
 refine bodyPost_ret (v := .tuple #[.agg #[.slice none 0 0],.int .i64 2]) (by simp [results,Tryz.results123,go_sem]) rfl ⟨_,rfl,NV.zero _,Bel.al (Below.refl _ _) _⟩
theorem choose_out (n k : Int) (w : World) (h : 0 ≤ n ∧ n ≤ 80) (hk : k < 0 ∨ n < k) : Calls Tryz.prog 123 #[.int .i64 n,.int .i64 k] w (NatC 0 0 w) := by
 have hd : decide (0 ≤ n ∧ n ≤ 80) = true := decide_eq_true h
 have fin : ∀ (w1 : World) (u : Value),NV w1 u 0 → Below (w.alloc (Obj.cells #[.slice none 0 0] 30)).heap.size (w.alloc (Obj.cells #[.slice none 0 0] 30)) w1 →
   NV (w1.setCell ⟨w.heap.size,0,none⟩ u) u 0 ∧ Below w.heap.size w (w1.setCell ⟨w.heap.size,0,none⟩ u) ∧ w1.cell? ⟨w.heap.size,0,none⟩ = some (.slice none 0 0) ∧ w1.frozen? ⟨w.heap.size,0,none⟩ = false := by
  intro w1 u hu hb
  have c1 : w1.cell? ⟨w.heap.size,0,none⟩ = some (.slice none 0 0) := Bel.cellOf hb (by go_simp)
  exact ⟨hu.setNe c1 (fun _ h => by cases h) u,Bel.st (Bel.one _ hb) (Nat.le_refl _) u,c1,Bel.frozenOf hb (v := .slice none 0 0) (by go_simp) (by go_simp)⟩
 replace fin := hide fin
 by_cases hk0 : k < 0
 all_goals
  clear h
  first | (have hk1 : n < k := by omega) | skip
  clear hk
  go_enter Tryz.func123,Tryz.ntmps123
  go_wp2_with fail
  refine (known_any _ _).mono ?_
  rintro e w' ⟨rfl,rfl⟩
  rw [hd]
  go_wp2_with fail
  refine (of_int _ _ (by omega) (by omega)).mono ?_
  rintro e w1 ⟨u,rfl,hu,hb⟩
  obtain ⟨r1,r2,r3,r4⟩ := fin.out w1 u hu hb
  obtain ⟨ao,n0,cp,rfl⟩ := Rd.shape hu
  go_wp2
  refine bodyPost_ret (v := .tuple #[.agg #[.slice ao n0 cp],.int .i64 0]) (by simp [results,Tryz.results123,go_sem,r3]) rfl ⟨_,rfl,r1,r2⟩
structure ChSt (W w : World) (b6 : Nat) (vc : Value) (c : Nat) : Prop where
 bel : Below W.heap.size W w
 lt : W.heap.size < b6
 c4 : w.cell? ⟨W.heap.size,0,none⟩ = some (.slice none 0 0)
 f4 : w.frozen? ⟨W.heap.size,0,none⟩ = false
 c6 : w.cell? ⟨b6,0,none⟩ = some vc
 f6 : w.frozen? ⟨b6,0,none⟩ = false
 nv : NV w vc c
theorem ChSt.keep {W w w' : World} {b6 : Nat} {vc : Value} {c : Nat} (h : ChSt W w b6 vc c) (hb : Below w.heap.size w w') : ChSt W w' b6 vc c :=
 ⟨Bel.to h.bel hb,h.lt,Bel.cellOf hb h.c4,Bel.frozenOf hb h.c4 h.f4,Bel.cellOf hb h.c6,Bel.frozenOf hb h.c6 h.f6,h.nv.below hb⟩
theorem ChSt.set {W w : World} {b6 pb : Nat} {vc : Value} {c : Nat} (h : ChSt W w b6 vc c) (hb : b6 < pb) (hc : w.cell? ⟨pb,0,none⟩ = some (.slice none 0 0)) (u : Value) : ChSt W (w.setCell ⟨pb,0,none⟩ u) b6 vc c := by
 have hl := h.lt
 refine ⟨Bel.st h.bel (by simp only [];omega) u,h.lt,cell_far h.c4 (by simp only [];omega) u,?_,cell_far h.c6 (by simp only [];omega) u,?_,h.nv.setNe hc (fun _ h => by cases h) u⟩
 ·rw [World.frozen?_of_block (w := w) (Below.heap_setCell _ _ _ _ (by simp only [];omega))];exact h.f4
 ·rw [World.frozen?_of_block (w := w) (Below.heap_setCell _ _ _ _ (by simp only [];omega))];exact h.f6
theorem ChSt.put {W w : World} {b6 : Nat} {ao : Option Addr} {n cap : Nat} {c c' : Nat} (h : ChSt W w b6 (.slice ao n cap) c) {u : Value} (hu : NV w u c') : ChSt W (w.setCell ⟨b6,0,none⟩ u) b6 u c' := by
 have hl := h.lt
 refine ⟨Bel.st h.bel (by simp only [];omega) u,h.lt,cell_far h.c4 (by simp only [];omega) u,?_,set_cell h.c6 u,?_,hu.setNe h.c6 (fun _ h => by cases h) u⟩
 ·rw [World.frozen?_of_block (w := w) (Below.heap_setCell _ _ _ _ (by simp only [];omega))];exact h.f4
 ·rw [World.frozen?_setCell];exact h.f6
set_option maxHeartbeats 1000000 in
set_option maxRecDepth 100000 in
theorem choose_in (n k : Nat) (w : World) (hn : n ≤ 80) (hk : k ≤ n) : Calls Tryz.prog 123 #[.int .i64 (n : Int),.int .i64 (k : Int)] w (NatC (choose n k) 0 w) := by
 have hd : decide ((0 : Int) ≤ (n : Int) ∧ (n : Int) ≤ 80) = true := decide_eq_true (by omega)
 go_enter Tryz.func123,Tryz.ntmps123
 go_wp2_with fail
 refine (known_any _ _).mono ?_
 rintro e w' ⟨rfl,rfl⟩
 rw [hd]
 clear hd
 go_wp2_with fail
 refine (of_int _ _ (by omega) (by omega)).mono ?_
 rintro e w1 ⟨u,rfl,hu,hb⟩
 have c1 : w1.cell? ⟨w.heap.size,0,none⟩ = some (.slice none 0 0) := Bel.cellOf hb (by go_simp)
 have f1 : w1.frozen? ⟨w.heap.size,0,none⟩ = false := Bel.frozenOf hb (v := .slice none 0 0) (by go_simp) (by go_simp)
 have hb1 := Bel.one _ hb
 have hz : w.heap.size < w1.heap.size := by have := hb.size;simp at this;omega
 clear hb
 obtain ⟨ao,n0,cp,rfl⟩ := Rd.shape hu
 go_wp2
 obtain ⟨b6,hb6⟩ : ∃ b6,b6 = w1.heap.size := ⟨_,rfl⟩
 have hst : ChSt w (w1.alloc (.cells #[.slice ao n0 cp] 30)) b6 (.slice ao n0 cp) (choose (n - k + 1 - 1) (1 - 1)) := by
  subst hb6
  refine ⟨Bel.al hb1 _,hz,by go_simp,by go_simp,by go_simp,by go_simp,?_⟩
  rw [Nat.sub_self,choose_zero]
  exact hu.alloc _
 rw [← hb6]
 clear hu hb6
 have hk' : (k : Int) ≤ (n : Int) := by omega
 go_loopg [7] k (fun g t wr => ∃ (i : Nat) (ao : Option Addr) (n0 cp : Nat),g = k + 1 - i ∧ 1 ≤ i ∧ i ≤ k + 1 ∧ t = .int .i64 i ∧ ChSt w wr b6 (.slice ao n0 cp) (choose (n - k + i - 1) (i - 1)))
 case atStart => exact ⟨1,_,_,_,by omega,Nat.le_refl _,by omega,rfl,hst⟩
 case round =>
  obtain ⟨i,ao,n0,cp,hgk,hi1,hik,rfl,hst⟩ := hrel
  replace hgk := hide hgk
  have c6 := hst.c6
  have hb6 : b6 < wr.heap.size := World.block_lt_of_cell? wr ⟨b6,0,none⟩ c6
  have hbig : choose (n - k + i - 1) (i - 1) ≤ 1208925819614629174706176 := choose_lt_80 (by omega)
  by_cases hik' : i ≤ k
  ·have hne : n - k + i - 1 + 1 = n - k + i := by omega
   have hprod : choose (n - k + i - 1) (i - 1) * (n - k + i) = choose (n - k + i) i * i := by
    have := choose_mul (n - k + i - 1) (i - 1)
    rw [hne,Nat.sub_add_cancel hi1] at this
    exact this.symm
   have hlim1 : (limbs (choose (n - k + i - 1) (i - 1))).length ≤ 64 := by have := limbs_le_three (n := choose (n - k + i - 1) (i - 1)) (by omega);omega
   have hlim2 : (limbs (n - k + i)).length ≤ 64 := by have := limbs_le_three (n := n - k + i) (by omega);omega
   have hpb : choose (n - k + i - 1) (i - 1) * (n - k + i) ≤ 1208925819614629174706176 * 80 := Nat.mul_le_mul hbig (by omega)
   have hlim3 : (limbs (choose (n - k + i) i * i)).length ≤ 64 := by rw [← hprod];have := limbs_le_three (n := choose (n - k + i - 1) (i - 1) * (n - k + i)) (by omega);omega
   replace hprod := hide hprod
   replace hne := hide hne
   obtain ⟨c,hc⟩ : ∃ c,c = choose (n - k + i - 1) (i - 1) := ⟨_,rfl⟩
   rw [← hc] at hst hprod hlim1 hbig hpb
   replace hc := hide hc
   have hcz := choose_pos (n := n - k + i) (k := i) (by omega)
   clear hbig hpb
   have hni : ((n : Int) - k + i).toNat = n - k + i := by omega
   replace hni := hide hni
   have a1 : IntKind.i64.wrap ((n : Int) - k) = (n : Int) - k := IntWalk.i64_in _ (by omega)
   have a2 : IntKind.i64.wrap ((n : Int) - k + i) = (n : Int) - k + i := IntWalk.i64_in _ (by omega)
   have a3 : IntKind.u64.wrap ((n : Int) - k + i) = (n : Int) - k + i := IntWalk.u64_in _ (by omega)
   go_upto_region 9 with (fail)
   go_cut [8,9] (fun p cd W => ∃ (pb : Nat) (ap : Option Addr) (np cpp : Nat),p = .pointer (some ⟨pb,0,none⟩) ∧ cd = .int .i64 0 ∧ ChSt w W b6 (.slice ao n0 cp) c ∧ W.cell? ⟨pb,0,none⟩ = some (.slice ap np cpp) ∧ NV W (.slice ap np cpp) (choose (n - k + i) i * i) ∧ b6 < pb)
   case first =>
    go_region_held3 (fun W => W.cell? ⟨b6,0,none⟩ = some (.slice ao n0 cp)) (first | go_keep | (refine cell_far c63 ?_ _;simp only [];omega)) (first
     | (go_at_call 82;refine (of_int _ _ ?_ ?_).mono ?_;(omega);(omega);rintro e w2 ⟨uo,rfl,huo,hbo⟩;obtain ⟨hc2,hf2⟩ := bcell hbo;have hz2 := hbo.size;(try simp at hz2);have hn2 : NV w2 (.slice ao n0 cp) c := (by first | exact Rd.below (Rd.drew hst.nv) hbo | exact Rd.below (Rd.alloc (Rd.drew hst.nv) _) hbo);have c62 : w2.cell? ⟨b6,0,none⟩ = some (.slice ao n0 cp) := (by first | exact Bel.cellOf hbo c6 | exact Bel.cellOf hbo (cell_alloc c6 _));(try have c8o : w2.cell? ⟨wr.heap.size,0,none⟩ = some (.slice none 0 0) := Bel.cellOf hbo (new_cell wr _ _));(try have f8o : w2.frozen? ⟨wr.heap.size,0,none⟩ = false := Bel.frozenOf hbo (new_cell wr _ _) (new_frozen wr _ _)))
     | (go_at_call 83;refine (mul_any _ _ c (n - k + i) _ ?_ ?_ ?_ ?_).mono ?_;(first | exact hn2 | exact hn2.alloc _);(rw [← hni.out];first | exact huo | exact huo.alloc _);(exact hlim1);(exact hlim2);rintro e w3 ⟨u3,cd3,rfl,hcd3,hu3,hb3⟩;obtain ⟨hc3,hf3⟩ := bcell hb3;have hz3 := hb3.size;(try simp at hz3);have c63 : w3.cell? ⟨b6,0,none⟩ = some (.slice ao n0 cp) := (by first | exact Bel.cellOf hb3 c62 | exact Bel.cellOf hb3 (cell_alloc c62 _));(try have f8m := Bel.frozenOf hb3 c8o f8o);(try have c8m := Bel.cellOf hb3 c8o);(try have c8m : w3.cell? ⟨w2.heap.size,0,none⟩ = some (.slice none 0 0) := Bel.cellOf hb3 (new_cell w2 _ _));(try have f8m : w3.frozen? ⟨w2.heap.size,0,none⟩ = false := Bel.frozenOf hb3 (new_cell w2 _ _) (new_frozen w2 _ _));obtain ⟨ao3,n3,cp3,rfl⟩ := Rd.shape hu3))
    all_goals go_wp2_with fail
    all_goals
     go_meet
     have e0 : cd3 = 0 := by rw [hcd3.out,hprod.out,if_pos hlim3]
     rw [hprod.out,if_pos hlim3] at hu3
     rw [e0]
     have hst1 : ChSt w wr.drew b6 (.slice ao n0 cp) c := hst.keep (Below.refl _ _).drew
     first
      | exact ⟨w3.heap.size,_,_,_,rfl,rfl,((hst1.keep hbo).keep hb3).keep (Bel.al (Below.refl _ _) _),new_cell _ _ _,hu3.alloc _,by omega⟩
      | exact ⟨w2.heap.size,_,_,_,rfl,rfl,((((hst1.keep hbo)).keep (Bel.al (Below.refl _ _) _)).keep hb3).set (by omega) c8m _,set_cell c8m _,hu3.setNe c8m (fun _ h => by cases h) _,by omega⟩
      | exact ⟨wr.heap.size,_,_,_,rfl,rfl,(((hst1.keep (Bel.al (Below.refl _ _) _)).keep hbo).keep hb3).set (by omega) c8m _,set_cell c8m _,hu3.setNe c8m (fun _ h => by cases h) _,by omega⟩
   case rest =>
    obtain ⟨pb,ap,np,cpp,rfl,rfl,hst2,cpb,hp,hpb6⟩ := hcut
    have a4 : IntKind.u64.wrap (i : Int) = (i : Int) := IntWalk.u64_in _ (by omega)
    have hii : ((i : Int)).toNat = i := by omega
    replace hii := hide hii
    have e6 := hst2.c6
    have f6 := hst2.f6
    have hge : i ≤ choose (n - k + i) i * i := Nat.le_mul_of_pos_left i hcz
    have hq : choose (n - k + i) i * i / i = choose (n - k + i) i := Nat.mul_div_cancel _ (by omega)
    replace hge := hide hge
    replace hq := hide hq
    clear hst c6
    go_wp2_with fail
    go_region_held3 (fun W => W.cell? ⟨pb,0,none⟩ = some (.slice ap np cpp)) (first | go_keep | (refine cell_far cp5 ?_ _;simp only [];omega)) (first
     | (go_at_call 82;refine (of_int _ _ ?_ ?_).mono ?_;(omega);(omega);rintro e w4 ⟨ui,rfl,hui,hb4⟩;have st4 := (hst2.keep (Below.refl _ _).drew).keep hb4;have hp4 : NV w4 (.slice ap np cpp) _ := Rd.below (Rd.drew hp) hb4;have cp4 := Bel.cellOf hb4 cpb)
     | (go_at_call 77;refine (divmod_small _ _ (choose (n - k + i) i * i) i _ ?_ ?_ ?_ ?_ ?_ ?_).mono ?_;(exact hp4);(rw [← hii.out];exact hui);(exact hlim3);(omega);(omega);(exact hge.out);rintro e w5 ⟨uq,ur,rfl,huq,hur,hb5⟩;have st5 := st4.keep hb5;have e65 := st5.c6;have f65 := st5.f6;have cp5 := Bel.cellOf hb5 cp4;obtain ⟨aq,nq,cq,rfl⟩ := Rd.shape huq))
    rw [hq.out] at huq
    have st6 := st5.put huq
    go_wp2
    go_roundg (k + 1 - (i + 1))
    case measure => have := hgk.out;omega
    case rel =>
     refine ⟨i + 1,aq,nq,cq,rfl,by omega,by omega,by go_num,?_⟩
     rw [show n - k + (i + 1) - 1 = n - k + i by omega,Nat.add_sub_cancel]
     exact st6
  ·have hik2 : i = k + 1 := by omega
   have hnv := hst.nv
   rw [hik2] at hnv
   rw [show n - k + (k + 1) - 1 = n by omega,Nat.add_sub_cancel] at hnv
   replace hik2 := hide hik2
   have c4 := hst.c4
   have f4 := hst.f4
   have hl := hst.lt
   have hfin := hnv.setNe c4 (fun _ h => by cases h) (.slice ao n0 cp)
   have hbel := Bel.st hst.bel (p := ⟨w.heap.size,0,none⟩) (Nat.le_refl _) (.slice ao n0 cp)
   go_wp2
   refine bodyPost_ret (v := .tuple #[.agg #[.slice ao n0 cp],.int .i64 0]) (by simp [results,Tryz.results123,go_sem,c4]) rfl ⟨_,rfl,hfin,hbel⟩
def UintR (x : Nat) (b : Bool) (w : World) (e : Ending) (w' : World) : Prop := e = .returned (.tuple #[.int .u64 x,.bool b]) ∧ Below w.heap.size w w'
theorem choose_ok (n k : Int) (w : World) (h : 0 ≤ n ∧ n ≤ 80) : Calls Tryz.prog 123 #[.int .i64 n,.int .i64 k] w (NatC (chooseI n k) 0 w) := by
 unfold chooseI
 obtain ⟨h1,h2⟩ := h
 obtain ⟨n,rfl⟩ := Int.eq_ofNat_of_zero_le h1
 by_cases hk : k < 0
 ·rw [if_pos hk]
  exact choose_out _ _ w ⟨h1,h2⟩ (.inl hk)
 ·rw [if_neg hk]
  obtain ⟨k,rfl⟩ := Int.eq_ofNat_of_zero_le (show 0 ≤ k by omega)
  rw [Int.toNat_natCast,Int.toNat_natCast]
  by_cases hkn : k ≤ n
  ·exact choose_in n k w (by omega) hkn
  ·rw [choose_gt (by omega)]
   exact choose_out _ _ w ⟨h1,h2⟩ (.inr (by omega))
theorem chooseI_lt (n k : Int) (h : n ≤ 80) : chooseI n k ≤ 1208925819614629174706176 := by
 unfold chooseI
 split
 ·omega
 ·exact choose_lt_80 (by omega)
def countV (n k : Int) : Int × Int := if 0 ≤ n ∧ n ≤ 80 then (if chooseI n k ≤ 9223372036854775807 then (chooseI n k,0) else (0,9)) else (0,2)
theorem chooseI_nat (a b : Nat) (x y : Int) (hx : x = a) (hy : y = b) : chooseI x y = choose a b := by
 subst hx hy
 unfold chooseI
 rw [if_neg (by omega),Int.toNat_natCast,Int.toNat_natCast]
theorem infoInt : (Tryz.prog.info? 3).map (fun i => (i.zero,i.size,i.bytes)) = some (some (.int .i64 0),1,8) := by kernel_rfl
theorem choose_mono_step (m j : Nat) : choose m j ≤ choose (m + 1) (j + 1) ∧ choose m (j + 1) ≤ choose (m + 1) (j + 1) := by
 rw [choose_succ];omega
end Go.Proofs.YtldikghldcefcaaGreat
end
section
set_option linter.unusedVariables false
set_option linter.unusedSimpArgs false
namespace Go.Proofs.YtldikghldcefcaaGreat
def bump (x : Int) (d : Nat) : List Int := (List.range d).map fun (t : Nat) => x + (t : Int)
end Go.Proofs.YtldikghldcefcaaGreat
end
section
open Go.RowKit
set_option linter.unusedVariables false
set_option linter.unusedSimpArgs false
namespace Go.Proofs.YtldikghldcefcaaGreat
set_option maxHeartbeats 1000000 in
set_option maxRecDepth 100000 in
theorem same_lists (va vb : Value) (la lb : List Nat) (w : World) (ha : Rd U32 w va la) (hb : Rd U32 w vb lb) :
  Calls Tryz.prog 12 #[.agg #[va],.agg #[vb]] w (BoolB (decide (la = lb)) w) := by
 obtain ⟨aa,ca,rfl,hla,hca,hra⟩ := Rd.form ha
 obtain ⟨ab,cb,rfl,hlb,hcb,hrb⟩ := Rd.form hb
 have hca' : ca ≤ 9223372036854775807 := by unfold maxLen at hca;omega
 have hcb' : cb ≤ 9223372036854775807 := by unfold maxLen at hcb;omega
 by_cases hl : la.length = lb.length
 ·have l3 : ((la.length : Int) != lb.length) = false := by simp;omega
  have l1 : la.length ≤ lb.length := by omega
  have l2 : lb.length ≤ la.length := by omega
  replace hl := hide hl
  go_enter Tryz.func12,Tryz.ntmps12
  go_wp2
  obtain ⟨W,hW⟩ : ∃ W,W = (w.alloc (Obj.cells #[Value.slice aa la.length ca] 30)).alloc (Obj.cells #[Value.slice ab lb.length cb] 30) := ⟨_,rfl⟩
  have b1 : W.cell? ⟨w.heap.size,0,none⟩ = some (.slice aa la.length ca) := by rw [hW];go_simp
  have b2 : W.cell? ⟨w.heap.size + 1,0,none⟩ = some (.slice ab lb.length cb) := by rw [hW];go_simp
  have hbW : Below w.heap.size w W := by rw [hW];exact Bel.al (Bel.al (Below.refl _ _) _) _
  rw [← hW]
  clear hW
  go_loopw [5] (fun i wr => ∃ (k d : Nat),k ≤ la.length ∧ i = .int .i64 k ∧ wr = W.drewN d ∧ Hid (la.take k = lb.take k)) (fun i _ => la.length - (intOf i).toNat)
  case atStart => exact ⟨0,0,Nat.zero_le _,rfl,rfl,rfl⟩
  case round =>
   obtain ⟨k,d,hk,rfl,rfl,htk⟩ := hrel
   by_cases hkl : k < la.length
   ·have hk2 : k < lb.length := by omega
    obtain ⟨ba,offa,rfl,hba,hcella⟩ := hra.at_ hkl
    obtain ⟨bb,offb,rfl,hbb,hcellb⟩ := hrb.at_ hk2
    have c1 := Bel.cellOf hbW (hcella _ hkl)
    have c2 := Bel.cellOf hbW (hcellb _ hk2)
    clear hcella hcellb
    have i1 : (0 : Int) ≤ (k : Int) := by omega
    have i2 : (k : Int) < (la.length : Int) := by omega
    have i3 : (k : Int) < (lb.length : Int) := by omega
    by_cases he : la[k] = lb[k]
    ·have hb1 : (((la[k] : Nat) : Int) != ((lb[k] : Nat) : Int)) = false := by rw [he];simp
     replace he := hide he
     go_wp2
     go_quiet (fail)
     go_wp2
     go_roundw
     case rel =>
      refine ⟨k + 1,_,by omega,by go_num,rfl,?_⟩
      show _ = _
      rw [take_snoc la k hkl,take_snoc lb k hk2,he.out,htk.out]
     case measure => simp [intOf];omega
    ·have hb1 : (((la[k] : Nat) : Int) != ((lb[k] : Nat) : Int)) = true := by simp;omega
     have hne : decide (la = lb) = false := by
      apply decide_eq_false
      intro h
      subst h
      exact he rfl
     replace hne := hide hne
     go_wp2
     go_quiet (fail)
     go_wp2
     go_ret
     exact ⟨by rw [hne.out];rfl,Bel.drN (Bel.drN hbW _) _⟩
   ·have hkk : k = la.length := by omega
    have heq : decide (la = lb) = true := by
     apply decide_eq_true
     have := htk.out
     rw [List.take_of_length_le (by omega),List.take_of_length_le (by omega)] at this
     exact this
    replace heq := hide heq
    replace hkk := hide hkk
    go_wp2
    go_ret
    exact ⟨by rw [heq.out];rfl,Bel.drN hbW _⟩
 ·have l3 : ((la.length : Int) != lb.length) = true := by simp;omega
  have hne : decide (la = lb) = false := by
   apply decide_eq_false
   intro h
   exact hl (by rw [h])
  rw [hne]
  clear hl hne
  go_enter Tryz.func12,Tryz.ntmps12
  go_wp2
  go_ret
  exact ⟨rfl,Bel.al (Bel.al (Below.refl _ _) _) _⟩
theorem same_nats (va vb : Value) (m n : Nat) (w : World) (ha : NV w va m) (hb : NV w vb n) :
  Calls Tryz.prog 12 #[.agg #[va],.agg #[vb]] w (BoolB (decide (m = n)) w) := by
 have h : decide (m = n) = decide (limbs m = limbs n) := by
  rw [decide_eq_decide]
  exact ⟨fun h => by rw [h],limbs_inj⟩
 rw [h]
 exact same_lists va vb _ _ w ha hb
set_option maxHeartbeats 1000000 in
set_option maxRecDepth 100000 in
theorem ref_of (n : Nat) (w : World) (h : n < 18446744073709551616) :
    Calls Tryz.prog 25 #[.int .u64 (n : Int)] w (SomeNat n w) := by
  go_enter Tryz.func25, Tryz.ntmps25
  go_wp2
  obtain ⟨W, hW⟩ : ∃ W, W = (w.alloc (Obj.cells #[.slice none 0 0] 30)).alloc (Obj.cells #[.slice none 0 0] 30) := ⟨_, rfl⟩
  have b0 : W.cell? ⟨w.heap.size, 0, none⟩ = some (.slice none 0 0) := by rw [hW]; go_simp
  have b1 : Row W (w.heap.size + 1) 30 [.slice none 0 0] := by
    rw [hW]
    have := Row.newOf (w := w.alloc (Obj.cells #[.slice none 0 0] 30)) (c := #[.slice none 0 0]) (cs := [.slice none 0 0]) 30 rfl
    simpa using this
  have g0 : W.frozen? ⟨w.heap.size, 0, none⟩ = false := by rw [hW]; go_simp
  have hbW : Below w.heap.size w W := by rw [hW]; exact Bel.al (Bel.al (Below.refl _ _) _) _
  rw [← hW]
  clear hW
  have hstart := hide (show ([] : List Nat) ++ limbs n = limbs n from rfl)
  go_loopw [0] (fun t wr => ∃ (m : Nat) (A : List Nat) (ao : Option Addr) (cap : Nat), t = .int .u64 m ∧ m < 18446744073709551616 ∧ Hid (A ++ limbs m = limbs n) ∧ A.length ≤ 100 - (limbs m).length ∧ (limbs m).length ≤ 2 ∧ wr.cell? ⟨w.heap.size, 0, none⟩ = some (.slice none 0 0) ∧ wr.frozen? ⟨w.heap.size, 0, none⟩ = false ∧
      Row wr (w.heap.size + 1) 30 [.slice ao A.length cap] ∧ Own U32 wr (w.heap.size + 1 + 1) 68 (.slice ao A.length cap) A ∧ Below w.heap.size w wr ∧ w.heap.size + 1 < wr.heap.size) (fun t _ => (intOf t).toNat)
  case atStart =>
    refine ⟨n, [], none, 0, rfl, h, hstart, ?_, ?_, b0, g0, b1, Own.nil _ _ _, hbW, b1.lt⟩
    · have : (limbs n).length ≤ 2 := length_limbs_lt.1 (by have : (4294967296 : Nat) ^ 2 = 18446744073709551616 := by decide
                                                           omega)
      simp
    · exact length_limbs_lt.1 (by have : (4294967296 : Nat) ^ 2 = 18446744073709551616 := by decide
                                  omega)
  case round =>
    obtain ⟨m, A, ao, cap, rfl, hm, hE, hA, hl2, c0, f0, hrow, hown, hbel, hsz⟩ := hrel
    have d1 := hrow.cell (i := 0) (by simp)
    have e1 := hrow.frozen 0
    simp only [List.getElem_cons_zero] at d1
    by_cases hm0 : m = 0
    · subst hm0
      have hE2 := hE.out
      rw [limbs_zero, List.append_nil] at hE2
      have hnv : NV wr (.slice ao A.length cap) n := by show Rd _ _ _ _; rw [← hE2]; exact hown.rd
      have hfin := hnv.setNe c0 (fun _ h => by cases h) (.slice ao A.length cap)
      have hbel2 := Bel.st hbel (p := ⟨w.heap.size, 0, none⟩) (Nat.le_refl _) (.slice ao A.length cap)
      clear hE2 hE hA
      go_wp2
      refine bodyPost_ret (v := .agg #[.slice ao A.length cap]) (by simp [results, Tryz.results25, go_sem, c0]) rfl ⟨_, rfl, hfin, hbel2⟩
    · have hlp := limbs_pos hm0
      have hmpos : (0 : Int) < (m : Int) := by omega
      have hE2 := hE.out
      rw [hlp] at hE2 hA hl2
      simp only [List.length_cons] at hA hl2
      have hE3 := hide (show (A ++ [m % 4294967296]) ++ limbs (m / 4294967296) = limbs n by rw [List.append_assoc]; exact hE2)
      replace hlp := hide hlp
      clear hE2 hE hstart
      go_wp2_with (with_reducible refine wpList_append_rd _ rfl _ _ 28 rfl (V := U32) (fun _ => rfl) (w.heap.size + 1 + 1) 68 (.int .u32 0) 4 Tryz.underlying28 infoU32 rfl _ A rfl (hown.alloc _) _ [m % 4294967296] rfl ?_ ?_ ?_ ?_ ?_)
      case refine_1 => exact Rd.new _ rfl rfl (Nat.le_refl _) (by decide) (by simp)
      case refine_2 => simp; omega
      case refine_3 => simp; omega
      case refine_4 => simp; omega
      intro v4 w4 hown4 hg4 hv4
      have hne1 : some (w.heap.size + 1) ≠ (Value.slice ao A.length cap).ownBlock := fun he => by
        have := (hown.lt _ he.symm).1; omega
      have hne0 : some (w.heap.size) ≠ (Value.slice ao A.length cap).ownBlock := fun he => by
        have := (hown.lt _ he.symm).1; omega
      have hrow4 := (hrow.alloc (Obj.cells #[Value.int IntKind.u32 ((m : Int) % 4294967296)] 68)).grown hg4 hne1
      have c4 : w4.cell? ⟨w.heap.size, 0, none⟩ = some (.slice none 0 0) := hg4.cell (cell_alloc c0 _) hne0
      have f4 : w4.frozen? ⟨w.heap.size, 0, none⟩ = false := by
        rw [World.frozen?_of_block (hg4.block w.heap.size (by simp; omega) hne0)]
        exact frozen_alloc c0 f0 _
      have hb4 : Below w.heap.size w w4 := (Bel.al hbel _).grown hg4 (by simp; omega) (fun g hg => by have := (hown.lt g hg).1; omega)
      have hsz4 : w.heap.size + 1 < w4.heap.size := by have := hg4.size; simp at this; omega
      obtain ⟨ao4, cap4, rfl⟩ := hown4.shape
      have hl1 : (A ++ [m % 4294967296]).length = A.length + 1 := by simp
      rw [hl1] at hown4
      have d4 := hrow4.cell (i := 0) (by simp)
      have e4 := hrow4.frozen 0
      simp only [List.getElem_cons_zero] at d4
      have hown5 := hown4.farRow hrow4 (by decide) 0 (.slice ao4 (A.length + 1) cap4)
      have hrow5 := hrow4.set 0 (.slice ao4 (A.length + 1) cap4)
      have c5 := cell_far (p := ⟨w.heap.size + 1, 0, none⟩) c4 (by simp) (.slice ao4 (A.length + 1) cap4)
      replace hl1 := hide hl1
      have hb5 := Bel.st hb4 (p := ⟨w.heap.size + 1, 0, none⟩) (by simp) (.slice ao4 (A.length + 1) cap4)
      go_wp2
      go_roundw
      case rel =>
        refine ⟨m / 4294967296, A ++ [m % 4294967296], ao4, cap4, by go_num, by omega, hE3, ?_, ?_, c5, ?_, by rw [hl1.out]; exact hrow5, by rw [hl1.out]; exact hown5, hb5, ?_⟩
        · rw [List.length_append, List.length_singleton]; omega
        · omega
        · rw [World.frozen?_of_block (w := w4) (Below.heap_setCell _ _ _ _ (by simp))]; exact f4
        · simpa [World.setCell] using hsz4
      case measure => simp [intOf]; omega
end Go.Proofs.YtldikghldcefcaaGreat
end
section
set_option linter.unusedVariables false
namespace Go.Proofs.YtldikghldcefcaaGreat
def chooseF : Nat → Nat → Nat
 | _,0 => 1
 | 0,_ + 1 => 0
 | n + 1,k + 1 => chooseF n k * (n + 1) / (k + 1)
theorem choose_fast (n k : Nat) : choose n k = chooseF n k := by
 induction n generalizing k with
 | zero => cases k <;> rfl
 | succ n ih => cases k with
  | zero => rw [choose_zero];rfl
  | succ k =>
   have := choose_mul n k
   rw [chooseF,← ih,← this,Nat.mul_div_cancel _ (by omega)]
end Go.Proofs.YtldikghldcefcaaGreat
end
section
open Go.RowKit
set_option linter.unusedVariables false
set_option linter.unusedSimpArgs false
namespace Go.Proofs.YtldikghldcefcaaGreat
theorem ref_of_int (x : Int) (w : World) (h0 : 0 ≤ x) (h : x < 18446744073709551616) : Calls Tryz.prog 25 #[.int .u64 x] w (SomeNat x.toNat w) := by
 obtain ⟨n,rfl⟩ := Int.eq_ofNat_of_zero_le h0
 exact ref_of n w (by omega)
end Go.Proofs.YtldikghldcefcaaGreat
end

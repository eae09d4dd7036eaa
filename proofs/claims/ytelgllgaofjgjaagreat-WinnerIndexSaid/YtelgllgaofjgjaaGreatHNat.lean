/- Lemmas, merged out of smaller texts (wip/tools/mergedce.py). No condition. -/
import Derived.Test.YtelgllgaofjgjaaGreatProg
import Derived.Outline
import Derived.Laws.BitsAllLaws
import Derived.Deep.QuietTactic
import Derived.BigQuiet
import Derived.Deep.RegionHeld3
import Derived.Deep.DeepCutAuto
import Derived.Deep.LoopGhost
import Derived.Test.YtelgllgaofjgjaaGreatHCore
section
set_option linter.unusedVariables false
set_option linter.unusedSimpArgs false
namespace Go.Proofs.YtelgllgaofjgjaaGreat
def limbs (n : Nat) : List Nat := if h : n = 0 then [] else n % 4294967296 :: limbs (n / 4294967296)
termination_by n
decreasing_by exact Nat.div_lt_self (by omega) (by omega)
def val : List Nat → Nat
 | [] => 0
 | x :: t => x + 4294967296 * val t
def Small (l : List Nat) : Prop := ∀ x ∈ l,x < 4294967296
theorem limbs_zero : limbs 0 = [] := by rw [limbs];simp
theorem limbs_pos {n : Nat} (h : n ≠ 0) : limbs n = n % 4294967296 :: limbs (n / 4294967296) := by rw [limbs,dif_neg h]
theorem val_limbs (n : Nat) : val (limbs n) = n := by
 induction n using Nat.strongRecOn with
 | _ n ih =>
  by_cases h : n = 0
  ·subst h;rw [limbs_zero];rfl
  ·rw [limbs_pos h,val,ih _ (Nat.div_lt_self (by omega) (by omega))];omega
theorem small_limbs (n : Nat) : Small (limbs n) := by
 induction n using Nat.strongRecOn with
 | _ n ih =>
  by_cases h : n = 0
  ·subst h;rw [limbs_zero];intro x hx;cases hx
  ·rw [limbs_pos h]
   intro x hx
   rcases List.mem_cons.1 hx with rfl | hx
   ·omega
   ·exact ih _ (Nat.div_lt_self (by omega) (by omega)) x hx
theorem small_cons {x : Nat} {t : List Nat} (h : Small (x :: t)) : x < 4294967296 ∧ Small t := ⟨h x (List.mem_cons_self ..),fun y hy => h y (List.mem_cons_of_mem _ hy)⟩
theorem small_get {l : List Nat} (h : Small l) {i : Nat} (hi : i < l.length) : l[i] < 4294967296 := h _ (List.getElem_mem hi)
theorem small_take {l : List Nat} (h : Small l) (k : Nat) : Small (l.take k) := fun x hx => h x (List.mem_of_mem_take hx)
theorem limbs_val_cons {x : Nat} {t : List Nat} (hx : x < 4294967296) (h : x ≠ 0 ∨ val t ≠ 0) : limbs (x + 4294967296 * val t) = x :: limbs (val t) := by
 rw [limbs_pos (by omega)]
 have h1 : (x + 4294967296 * val t) % 4294967296 = x := by omega
 have h2 : (x + 4294967296 * val t) / 4294967296 = val t := by omega
 rw [h1,h2]
theorem limbs_val {l : List Nat} (hs : Small l) (hl : ∀ (h : 0 < l.length),l[l.length - 1] ≠ 0) : limbs (val l) = l ∧ (0 < l.length → val l ≠ 0) := by
 induction l with
 | nil => exact ⟨limbs_zero,fun h => absurd h (by simp)⟩
 | cons x t ih =>
  obtain ⟨hx,ht⟩ := small_cons hs
  by_cases h0 : t.length = 0
  ·have : t = [] := List.eq_nil_of_length_eq_zero h0
   subst this
   have := hl (by simp)
   simp only [List.length_cons,List.length_nil,Nat.zero_add,Nat.sub_self,List.getElem_cons_zero] at this
   refine ⟨?_,fun _ => by simp only [val];omega⟩
   simp only [val]
   rw [limbs_pos (by omega),show (x + 4294967296 * 0) % 4294967296 = x by omega,show (x + 4294967296 * 0) / 4294967296 = 0 by omega,limbs_zero]
  ·have hl' : ∀ (h : 0 < t.length),t[t.length - 1] ≠ 0 := by
    intro h
    have := hl (by simp)
    simp only [List.length_cons,Nat.add_sub_cancel] at this
    rw [List.getElem_cons,dif_neg (by omega)] at this
    exact this
   obtain ⟨i1,i2⟩ := ih ht hl'
   have i3 := i2 (by omega)
   exact ⟨by rw [val,limbs_val_cons hx (Or.inr i3),i1],fun _ => by rw [val];omega⟩
theorem val_append (a b : List Nat) : val (a ++ b) = val a + 4294967296 ^ a.length * val b := by
 induction a with
 | nil => simp [val]
 | cons x t ih => rw [List.cons_append,val,val,ih,List.length_cons,Nat.pow_succ,Nat.mul_add,← Nat.mul_assoc,Nat.mul_comm (4294967296 ^ t.length) 4294967296];omega
theorem take_snoc {α : Type} (l : List α) (k : Nat) (h : k < l.length) : l.take (k + 1) = l.take k ++ [l[k]] := List.take_succ_eq_append_getElem h
theorem val_take_succ (l : List Nat) (k : Nat) (h : k < l.length) : val (l.take (k + 1)) = val (l.take k) + 4294967296 ^ k * l[k] := by
 rw [take_snoc l k h,val_append,List.length_take,Nat.min_eq_left (by omega),val,val];simp
theorem val_lt {l : List Nat} (hs : Small l) : val l < 4294967296 ^ l.length := by
 induction l with
 | nil => simp [val]
 | cons x t ih =>
  obtain ⟨hx,ht⟩ := small_cons hs
  have := ih ht
  rw [val,List.length_cons,Nat.pow_succ]
  omega
theorem limbs_take {l : List Nat} (hs : Small l) {n : Nat} (hn : 0 < n) (hl : n ≤ l.length) (h0 : l[n - 1] ≠ 0) : limbs (val (l.take n)) = l.take n := by
 refine (limbs_val (small_take hs n) fun h => ?_).1
 have : (l.take n).length = n := by rw [List.length_take];omega
 simp only [this,List.getElem_take]
 exact h0
theorem length_limbs_lt {n k : Nat} : n < 4294967296 ^ k ↔ (limbs n).length ≤ k := by
 induction k generalizing n with
 | zero =>
  rw [Nat.pow_zero]
  by_cases h : n = 0
  ·subst h;rw [limbs_zero];simp
  ·rw [limbs_pos h];simp;omega
 | succ k ih =>
  by_cases h : n = 0
  ·subst h;rw [limbs_zero];simp;exact Nat.pow_pos (by omega)
  ·rw [limbs_pos h,List.length_cons,Nat.add_le_add_iff_right,← ih,Nat.pow_succ,Nat.div_lt_iff_lt_mul (by omega)]
theorem limbs_last {n : Nat} (h : 0 < (limbs n).length) : (limbs n)[(limbs n).length - 1] ≠ 0 := by
 induction n using Nat.strongRecOn with
 | _ n ih =>
  by_cases h0 : n = 0
  ·subst h0;simp [limbs_zero] at h
  ·by_cases h1 : n / 4294967296 = 0
   ·have e : limbs n = [n % 4294967296] := by rw [limbs_pos h0,h1,limbs_zero]
    simp only [e,List.length_cons,List.length_nil,Nat.zero_add,Nat.sub_self,List.getElem_cons_zero]
    omega
   ·have := ih (n / 4294967296) (Nat.div_lt_self (by omega) (by omega)) (by rw [limbs_pos h1];simp)
    have e := limbs_pos h0
    simp only [e,List.length_cons,Nat.add_sub_cancel]
    rw [List.getElem_cons,dif_neg (by rw [limbs_pos h1];simp)]
    exact this
def choose : Nat → Nat → Nat
 | _,0 => 1
 | 0,_ + 1 => 0
 | n + 1,k + 1 => choose n k + choose n (k + 1)
theorem choose_zero (n : Nat) : choose n 0 = 1 := by cases n <;> rfl
theorem choose_succ (n k : Nat) : choose (n + 1) (k + 1) = choose n k + choose n (k + 1) := rfl
theorem choose_gt {n k : Nat} (h : n < k) : choose n k = 0 := by
 induction n generalizing k with
 | zero => cases k with
  | zero => omega
  | succ k => rfl
 | succ n ih => cases k with
  | zero => omega
  | succ k => rw [choose_succ,ih (by omega),ih (by omega)]
theorem choose_self (n : Nat) : choose n n = 1 := by
 induction n with
 | zero => rfl
 | succ n ih => rw [choose_succ,ih,choose_gt (by omega)]
theorem choose_pos {n k : Nat} (h : k ≤ n) : 0 < choose n k := by
  induction n generalizing k with
  | zero => obtain rfl : k = 0 := by omega
            rw [choose_zero]; omega
  | succ n ih => cases k with
    | zero => rw [choose_zero]; omega
    | succ k => rw [choose_succ]; have := ih (k := k) (by omega); omega
theorem choose_le (n k : Nat) : choose n k ≤ 2 ^ n := by
 induction n generalizing k with
 | zero => cases k <;> simp [choose]
 | succ n ih => cases k with
  | zero => rw [choose_zero];exact Nat.pow_pos (by omega)
  | succ k => rw [choose_succ,Nat.pow_succ];have := ih k;have := ih (k + 1);omega
theorem choose_mul (n k : Nat) : choose (n + 1) (k + 1) * (k + 1) = choose n k * (n + 1) := by
 induction n generalizing k with
 | zero => cases k with
  | zero => rfl
  | succ k => rw [choose_gt (by omega),choose_gt (by omega)];simp
 | succ n ih => cases k with
  | zero =>
   have := ih 0
   rw [choose_zero] at *
   rw [choose_succ,choose_zero]
   omega
  | succ k =>
   have h1 := ih k
   have h2 := ih (k + 1)
   rw [choose_succ (n + 1) (k + 1)]
   have h3 := choose_succ n k
   grind
theorem choose_lt_80 {n k : Nat} (h : n ≤ 80) : choose n k ≤ 1208925819614629174706176 := by
 have := choose_le n k
 have h2 : 2 ^ n ≤ 2 ^ 80 := Nat.pow_le_pow_right (by omega) h
 have : (2 : Nat) ^ 80 = 1208925819614629174706176 := by decide
 omega
theorem limbs_le_three {n : Nat} (h : n < 79228162514264337593543950336) : (limbs n).length ≤ 3 := length_limbs_lt.1 (by
 have : (4294967296 : Nat) ^ 3 = 79228162514264337593543950336 := by decide
 omega)
def chooseI (n k : Int) : Nat := if k < 0 then 0 else choose n.toNat k.toNat
def checkL (n : Int) : Int → List Int → Int
 | _,[] => 0
 | last,v :: t => if v < 1 ∨ n < v then 2 else if v ≤ last then 1 else checkL n v t
def sumC (n j a : Nat) : Nat → Nat
 | 0 => 0
 | d + 1 => sumC n j a d + choose (n - (a + d + 1)) j
def rankL (n : Nat) : Nat → List Int → Nat
 | _,[] => 0
 | last,v :: t => sumC n t.length last (v.toNat - 1 - last) + rankL n v.toNat t
theorem sumC_tele {n j a d : Nat} (h : a + d ≤ n) : sumC n j a d + choose (n - (a + d)) (j + 1) = choose (n - a) (j + 1) := by
 induction d with
 | zero => simp [sumC]
 | succ d ih =>
  have h1 := ih (by omega)
  rw [sumC]
  obtain ⟨m,hm⟩ : ∃ m,n - (a + d) = m + 1 := ⟨n - (a + d) - 1,by omega⟩
  rw [hm,choose_succ] at h1
  rw [show n - (a + d + 1) = m by omega,show n - (a + (d + 1)) = m by omega]
  omega
theorem checkL_cons {n last v : Int} {t : List Int} (h : checkL n last (v :: t) = 0) : 1 ≤ v ∧ v ≤ n ∧ last < v ∧ checkL n v t = 0 := by
 rw [checkL] at h
 by_cases h1 : v < 1 ∨ n < v
 ·rw [if_pos h1] at h;omega
 ·rw [if_neg h1] at h
  by_cases h2 : v ≤ last
  ·rw [if_pos h2] at h;omega
  ·rw [if_neg h2] at h
   exact ⟨by omega,by omega,by omega,h⟩
theorem rankL_lt {n : Nat} {l : List Int} {last : Nat} (hl : last ≤ n) (h : checkL n last l = 0) : rankL n last l < choose (n - last) l.length := by
 induction l generalizing last with
 | nil => rw [rankL,List.length_nil,choose_zero];omega
 | cons v t ih =>
  obtain ⟨h1,h2,h3,h4⟩ := checkL_cons h
  obtain ⟨v,rfl⟩ := Int.eq_ofNat_of_zero_le (show 0 ≤ v by omega)
  have i1 := ih (last := v) (by omega) h4
  have i2 := sumC_tele (n := n) (j := t.length) (a := last) (d := v - 1 - last) (by omega)
  rw [show last + (v - 1 - last) = v - 1 by omega] at i2
  obtain ⟨m,hm⟩ : ∃ m,n - (v - 1) = m + 1 := ⟨n - v,by omega⟩
  rw [hm,choose_succ] at i2
  rw [show n - v = m by omega] at i1
  rw [rankL,List.length_cons,Int.toNat_natCast]
  omega
def unrankL : Nat → Nat → Nat → Nat → List Int
 | 0,_,_,_ => []
 | m + 1,w,r,j => if j = 0 then [] else if r < choose m (j - 1) then (w : Int) :: unrankL m (w + 1) r (j - 1) else unrankL m (w + 1) (r - choose m (j - 1)) j
theorem unrankL_zero (m w r : Nat) : unrankL m w r 0 = [] := by cases m <;> simp [unrankL]
theorem unrankL_len {m w r j : Nat} (h : r < choose m j) : (unrankL m w r j).length = j := by
 induction m generalizing w r j with
 | zero => cases j with
  | zero => rfl
  | succ j => rw [choose_gt (by omega)] at h;omega
 | succ m ih => cases j with
  | zero => rw [unrankL_zero];rfl
  | succ j =>
   rw [choose_succ] at h
   rw [unrankL,if_neg (by omega),Nat.add_sub_cancel]
   split
   ·rw [List.length_cons,ih (by assumption)]
   ·exact ih (by omega)
theorem check_unrankL {n m w r j : Nat} (hm : m + w = n + 1) (hw : 1 ≤ w) (h : r < choose m j) (last : Int) (hl : last < w) : checkL n last (unrankL m w r j) = 0 := by
 induction m generalizing w r j last with
 | zero => rfl
 | succ m ih => cases j with
  | zero => rw [unrankL_zero];rfl
  | succ j =>
   rw [choose_succ] at h
   rw [unrankL,if_neg (by omega),Nat.add_sub_cancel]
   split
   ·rw [checkL,if_neg (by omega),if_neg (by omega)]
    exact ih (by omega) (by omega) (by assumption) _ (by omega)
   ·exact ih (by omega) (by omega) (by omega) _ (by omega)
theorem sumC_front {n j a d : Nat} : sumC n j a (d + 1) = choose (n - (a + 1)) j + sumC n j (a + 1) d := by
 induction d with
 | zero => simp [sumC]
 | succ d ih =>
  rw [sumC,ih,sumC,show a + (d + 1) + 1 = a + 1 + d + 1 by omega]
  omega
theorem rank_skip {n last : Nat} {v : Int} {t : List Int} (h : (last : Int) + 1 < v) : rankL n last (v :: t) = choose (n - (last + 1)) t.length + rankL n (last + 1) (v :: t) := by
 obtain ⟨v,rfl⟩ := Int.eq_ofNat_of_zero_le (show 0 ≤ v by omega)
 rw [rankL,rankL,Int.toNat_natCast]
 obtain ⟨d,hd⟩ : ∃ d,v - 1 - last = d + 1 := ⟨v - 1 - last - 1,by omega⟩
 rw [hd,sumC_front,show v - 1 - (last + 1) = d by omega]
 omega
theorem unrankL_head {n m w r j : Nat} (hm : m + w = n + 1) (h : r < choose m (j + 1)) : ∃ v t,unrankL m w r (j + 1) = v :: t ∧ t.length = j ∧ (w : Int) ≤ v := by
 induction m generalizing w r with
 | zero => rw [choose_gt (by omega)] at h;omega
 | succ m ih =>
  rw [choose_succ] at h
  rw [unrankL,if_neg (by omega),Nat.add_sub_cancel]
  split
  ·exact ⟨_,_,rfl,unrankL_len (by assumption),by omega⟩
  ·obtain ⟨v,t,e,e2,e3⟩ := ih (w := w + 1) (r := r - choose m j) (by omega) (by omega)
   exact ⟨v,t,e,e2,by omega⟩
theorem rank_unrankL {n m w r j : Nat} (hm : m + w = n + 1) (h : r < choose m j) (hw : 1 ≤ w) : rankL n (w - 1) (unrankL m w r j) = r := by
 induction m generalizing w r j with
 | zero => cases j with
  | zero => simp [choose] at h;subst h;rfl
  | succ j => rw [choose_gt (by omega)] at h;omega
 | succ m ih => cases j with
  | zero => rw [choose_zero] at h;rw [unrankL_zero];simp [rankL];omega
  | succ j =>
   rw [choose_succ] at h
   by_cases hr : r < choose m j
   ·rw [unrankL,if_neg (by omega),Nat.add_sub_cancel,if_pos hr,rankL,Int.toNat_natCast,show w - 1 - (w - 1) = 0 by omega,sumC,Nat.zero_add]
    have := ih (w := w + 1) (r := r) (j := j) (by omega) hr (by omega)
    rwa [Nat.add_sub_cancel] at this
   ·have h2 : r - choose m j < choose m (j + 1) := by omega
    obtain ⟨v,t,e,e2,e3⟩ := unrankL_head (n := n) (w := w + 1) (by omega) h2
    rw [unrankL,if_neg (by omega),Nat.add_sub_cancel,if_neg hr]
    have h3 := ih (w := w + 1) (r := r - choose m j) (j := j + 1) (by omega) h2 (by omega)
    rw [e] at h3 ⊢
    rw [Nat.add_sub_cancel] at h3
    rw [rank_skip (by omega),show w - 1 + 1 = w by omega,h3,e2,show n - w = m by omega]
    omega
theorem checkL_len {n last : Int} {l : List Int} (h : checkL n last l = 0) (hl : last ≤ n) : (l.length : Int) ≤ n - last := by
 induction l generalizing last with
 | nil => simp;omega
 | cons v t ih =>
  obtain ⟨h1,h2,h3,h4⟩ := checkL_cons h
  have := ih h4 (by omega)
  rw [List.length_cons]
  omega
theorem checkL_get {n last : Int} {l : List Int} (h : checkL n last l = 0) (i : Nat) (hi : i < l.length) : 1 ≤ l[i] ∧ l[i] ≤ n ∧ last < l[i] := by
 induction l generalizing last i with
 | nil => simp at hi
 | cons v t ih =>
  obtain ⟨h1,h2,h3,h4⟩ := checkL_cons h
  cases i with
  | zero => exact ⟨h1,h2,h3⟩
  | succ i =>
   have := ih h4 i (by simpa using hi)
   rw [List.getElem_cons_succ]
   exact ⟨this.1,this.2.1,by omega⟩
def nextI (l : List Int) (n k : Int) : Nat → Option Nat
 | 0 => none
 | i + 1 => if l.getD i 0 = n - k + 1 + i then nextI l n k i else some i
def bump (x : Int) (d : Nat) : List Int := (List.range d).map fun (t : Nat) => x + (t : Int)
theorem length_bump (x : Int) (d : Nat) : (bump x d).length = d := by simp [bump]
theorem getElem_bump (x : Int) (d t : Nat) (h : t < (bump x d).length) : (bump x d)[t] = x + (t : Int) := by simp [bump]
def nextOf (l : List Int) : Option Nat → List Int × Bool
 | none => ([],false)
 | some i => (l.take i ++ bump (l.getD i 0 + 1) (l.length - i),true)
def nextV (l : List Int) (n : Int) : List Int × Bool :=
 if 0 ≤ n ∧ n ≤ 80 ∧ checkL n 0 l = 0 then nextOf l (nextI l n l.length l.length) else ([],false)
theorem nextI_lt {l : List Int} {n k : Int} {m i : Nat} (h : nextI l n k m = some i) : i < m := by
 induction m with
 | zero => cases h
 | succ m ih =>
  rw [nextI] at h
  split at h
  ·have := ih h;omega
  ·injection h with h;omega
def midP (l : List Int) (i j : Nat) (P : List Int) : Prop := P.length = l.length ∧ ∀ t (h : t < P.length) (h' : t < l.length),P[t] = if i ≤ t ∧ t < j then l.getD i 0 + 1 + ((t : Int) - i) else l[t]
theorem midP_set {l P : List Int} {i j : Nat} (h : midP l i j P) (hij : i ≤ j) (hj : j < l.length) : midP l i (j + 1) (P.set j (l.getD i 0 + 1 + ((j : Int) - i))) := by
 refine ⟨by rw [List.length_set];exact h.1,fun t ht ht' => ?_⟩
 rw [List.getElem_set]
 by_cases e : j = t
 ·subst e;rw [if_pos rfl,if_pos (by omega)]
 ·rw [if_neg e,h.2 t (by simpa using ht) ht']
  by_cases c : i ≤ t ∧ t < j
  ·rw [if_pos c,if_pos (by omega)]
  ·rw [if_neg c,if_neg (by omega)]
theorem midP_end {l P : List Int} {i : Nat} (h : midP l i l.length P) (hi : i < l.length) : P = l.take i ++ bump (l.getD i 0 + 1) (l.length - i) := by
 apply List.ext_getElem
 ·rw [h.1,List.length_append,List.length_take,length_bump];omega
 ·intro t h1 h2
  have hl := h.1
  rw [h.2 t h1 (by omega),List.getElem_append]
  by_cases c : t < i
  ·rw [if_neg (by omega),dif_pos (by rw [List.length_take];omega),List.getElem_take]
  ·rw [if_pos (by omega),dif_neg (by rw [List.length_take];omega),getElem_bump]
   rw [List.length_take];omega
theorem bump_cons (x : Int) (d : Nat) : bump x (d + 1) = x :: bump (x + 1) d := by
 unfold bump
 rw [List.range_succ_eq_map,List.map_cons,List.map_map]
 congr 1
 ·simp
 ·apply List.map_congr_left
  intro t _
  simp only [Function.comp]
  omega
theorem rank_bump (n x j : Nat) : rankL n x (bump ((x : Int) + 1) j) = 0 := by
 induction j generalizing x with
 | zero => rfl
 | succ j ih =>
  have e : ((x : Int) + 1) = ((x + 1 : Nat) : Int) := by omega
  rw [bump_cons,rankL,e,Int.toNat_natCast,show x + 1 - 1 - x = 0 by omega,sumC,ih,Nat.zero_add]
theorem check_bump {n x : Int} {j : Nat} (h0 : 0 ≤ x) (h : x + j ≤ n) (last : Int) (hl : last ≤ x) : checkL n last (bump (x + 1) j) = 0 := by
 induction j generalizing x last with
 | zero => rfl
 | succ j ih =>
  rw [bump_cons,checkL,if_neg (by omega),if_neg (by omega)]
  exact ih (by omega) (by omega) _ (by omega)
theorem nextI_cons (v : Int) (t : List Int) (n : Int) (m : Nat) :
  nextI (v :: t) n ((t.length : Int) + 1) (m + 1) = match nextI t n t.length m with
   | some i => some (i + 1)
   | none => if v = n - (t.length + 1) + 1 then none else some 0 := by
 induction m with
 | zero =>
  rw [nextI,nextI,nextI]
  simp
 | succ m ih =>
  rw [nextI,ih]
  rw [nextI]
  have e : (v :: t).getD (m + 1) 0 = t.getD m 0 := by simp
  rw [e]
  by_cases h : t.getD m 0 = n - t.length + 1 + m
  ·rw [if_pos h,if_pos (by omega)]
  ·rw [if_neg h,if_neg (by omega)]
theorem next_law {n : Nat} {l : List Int} {last : Nat} (hl : last ≤ n) (h : checkL n last l = 0) :
  match nextI l n l.length l.length with
  | none => rankL n last l + 1 = choose (n - last) l.length
  | some i => checkL n last (l.take i ++ bump (l.getD i 0 + 1) (l.length - i)) = 0 ∧ rankL n last (l.take i ++ bump (l.getD i 0 + 1) (l.length - i)) = rankL n last l + 1 := by
 induction l generalizing last with
 | nil => simp [nextI,rankL,choose_zero]
 | cons v t ih =>
  obtain ⟨h1,h2,h3,h4⟩ := checkL_cons h
  obtain ⟨v,rfl⟩ := Int.eq_ofNat_of_zero_le (show 0 ≤ v by omega)
  have hi := ih (last := v) (by omega) h4
  have hlen := checkL_len h4 (by omega)
  have e := nextI_cons (v : Int) t n t.length
  rw [List.length_cons]
  have e2 : ((t.length + 1 : Nat) : Int) = (t.length : Int) + 1 := by omega
  rw [e2,e]
  have tele := sumC_tele (n := n) (j := t.length) (a := last) (d := v - 1 - last) (by omega)
  rw [show last + (v - 1 - last) = v - 1 by omega] at tele
  cases hn : nextI t n t.length t.length with
  | some i =>
   rw [hn] at hi
   simp only
   have hd : ((v : Int) :: t).getD (i + 1) 0 = t.getD i 0 := by simp
   rw [hd,List.take_succ_cons,List.cons_append,show t.length + 1 - (i + 1) = t.length - i by omega]
   have hlt := nextI_lt hn
   refine ⟨?_,?_⟩
   ·rw [checkL,if_neg (by omega),if_neg (by omega)]
    exact hi.1
   ·rw [rankL,rankL,Int.toNat_natCast,hi.2,List.length_append,List.length_take,length_bump,show min i t.length + (t.length - i) = t.length by omega]
    omega
  | none =>
   rw [hn] at hi
   simp only at hi ⊢
   by_cases hv : (v : Int) = (n : Int) - (t.length + 1) + 1
   ·rw [if_pos hv]
    simp only
    rw [show n - (v - 1) = t.length + 1 by omega,choose_self] at tele
    rw [show n - v = t.length by omega,choose_self] at hi
    rw [rankL,Int.toNat_natCast]
    omega
   ·rw [if_neg hv]
    simp only
    rw [List.take_zero,List.nil_append,List.getD_cons_zero,Nat.sub_zero]
    refine ⟨check_bump (by omega) (by omega) _ (by omega),?_⟩
    have ev : ((v : Int) + 1) = ((v + 1 : Nat) : Int) := by omega
    rw [bump_cons,rankL,length_bump,ev,Int.toNat_natCast,rank_bump,rankL,Int.toNat_natCast]
    obtain ⟨d,hd⟩ : ∃ d,v - 1 - last = d := ⟨_,rfl⟩
    rw [show v + 1 - 1 - last = d + 1 by omega,hd,sumC,show last + d + 1 = v by omega]
    omega
theorem next_unrank {n k r : Nat} (hk : k ≤ n) (hr : r < choose n k) (hn : n ≤ 80) :
  (nextV (unrankL n 1 r k) n).2 = decide (r + 1 < choose n k) ∧
  (r + 1 < choose n k → checkL n 0 (nextV (unrankL n 1 r k) n).1 = 0 ∧ rankL n 0 (nextV (unrankL n 1 r k) n).1 = r + 1 ∧ (nextV (unrankL n 1 r k) n).1.length = k) := by
 have hc := check_unrankL (n := n) (m := n) (w := 1) (r := r) (j := k) (by omega) (by omega) hr 0 (by omega)
 have hl := unrankL_len (w := 1) hr
 have hrk := rank_unrankL (n := n) (m := n) (w := 1) (by omega) hr (by omega)
 rw [Nat.sub_self] at hrk
 have hlaw := next_law (n := n) (last := 0) (by omega) hc
 unfold nextV
 rw [if_pos ⟨by omega,by omega,hc⟩]
 cases hI : nextI (unrankL n 1 r k) n (unrankL n 1 r k).length (unrankL n 1 r k).length with
 | none =>
  rw [hI] at hlaw
  simp only at hlaw
  rw [hrk,hl,Nat.sub_zero] at hlaw
  refine ⟨?_,fun h => by omega⟩
  simp only [nextOf]
  rw [eq_comm,decide_eq_false_iff_not];omega
 | some i =>
  rw [hI] at hlaw
  simp only at hlaw
  have hi := nextI_lt hI
  obtain ⟨a,b⟩ := hlaw
  have hlt := rankL_lt (n := n) (last := 0) (by omega) a
  have hlen : ((unrankL n 1 r k).take i ++ bump ((unrankL n 1 r k).getD i 0 + 1) ((unrankL n 1 r k).length - i)).length = k := by
   rw [List.length_append,List.length_take,length_bump];omega
  rw [hlen,b,hrk,Nat.sub_zero] at hlt
  rw [hrk] at b
  refine ⟨?_,fun _ => ⟨a,b,hlen⟩⟩
  simp only [nextOf]
  rw [eq_comm,decide_eq_true_iff];exact hlt
end Go.Proofs.YtelgllgaofjgjaaGreat
end
section
set_option linter.unusedVariables false
set_option linter.unusedSimpArgs false
namespace Go.Proofs.YtelgllgaofjgjaaGreat
open Go.RowKit
def NV (w : World) (v : Value) (n : Nat) : Prop := Rd U32 w v (limbs n)
def SomeNat (n : Nat) (w : World) (e : Ending) (w' : World) : Prop := ∃ v,e = .returned (.agg #[v]) ∧ NV w' v n ∧ Below w.heap.size w w'
def Nat2 (r : Nat) (w : World) (e : Ending) (w' : World) : Prop := ∃ (u : Value) (c : Int),e = .returned (.tuple #[.agg #[u],.int .i64 c]) ∧ Hid (c = if (limbs r).length ≤ 64 then 0 else 9) ∧ NV w' u (if (limbs r).length ≤ 64 then r else 0) ∧ Below w.heap.size w w'
theorem trimmed (v : Value) (l : List Nat) (w : World) (h : Rd U32 w v l) (hs : Small l) :
  Calls Tryz.prog 129 #[v] w (SomeNat (val l) w) := by
 obtain ⟨ao,cap,rfl,hlc,hcm,hr⟩ := h.form
 have hcm : cap ≤ 9223372036854775807 := by unfold maxLen at hcm;omega
 go_enter Tryz.func129,Tryz.ntmps129
 go_wp2
 go_loop [3] (fun t => ∃ n : Nat,n ≤ l.length ∧ t = .int .i64 n ∧ Hid (val (l.take n) = val l)) (fun t => (intOf t).toNat)
 case atStart => exact ⟨l.length,Nat.le_refl _,rfl,by show val (l.take l.length) = val l;rw [List.take_length]⟩
 case round =>
  obtain ⟨n,hn,rfl,hv⟩ := hrel
  by_cases h0 : n = 0
  ·subst h0
   have HZ := hide (show val l = 0 by rw [← hv.out];simp [val])
   clear hv
   go_wp2
   refine bodyPost_ret (v := .agg #[.slice none 0 0]) (by simp [results,Tryz.results129,go_sem]) rfl ⟨_,rfl,?_,(Below.refl _ _).alloc (Nat.le_refl _) _⟩
   show Rd U32 _ _ (limbs (val l))
   rw [HZ.out,limbs_zero]
   exact Rd.nil
  ·have hk : n - 1 < l.length := by omega
   obtain ⟨b,off,rfl,hb,hc⟩ := hr.at_ hk
   have hc1 := hc (n - 1) hk
   clear hc
   by_cases h1 : l[n - 1] = 0
   ·have hn1 : Hid (val (l.take (n - 1)) = val l) := by
     show _ = _
     rw [← hv.out]
     have := val_take_succ l (n - 1) hk
     rw [h1,Nat.sub_add_cancel (by omega)] at this
     rw [this];simp
    have h1' : ((l[n - 1] : Nat) : Int) = 0 := by omega
    go_wp2
    go_round
    case rel => exact ⟨n - 1,by omega,by go_num,hn1⟩
    case measure => simp [intOf];omega
   ·have h1' : (((l[n - 1] : Nat) : Int) == 0) = false := by simpa using h1
    have hl := limbs_take hs (by omega : 0 < n) hn h1
    rw [hv.out] at hl
    have HL := hide hl
    have hcut := hr.take (n := n) (c := n) rfl hn (Nat.le_refl _) (by unfold maxLen;omega)
    clear h1 hl hv
    go_wp2
    refine bodyPost_ret (v := .agg #[.slice (some ⟨b,off,none⟩) n n]) (by simp [results,Tryz.results129,go_sem]) rfl ⟨_,rfl,?_,(Below.refl _ _).alloc (Nat.le_refl _) _⟩
    show Rd U32 _ _ (limbs (val l))
    rw [HL.out]
    exact hcut.alloc _
theorem valid (v : Value) (n : Nat) (w : World) (h : NV w v n) (hn : (limbs n).length ≤ 64) :
  Calls Tryz.prog 130 #[.agg #[v]] w fun e w' => e = .returned (.bool true) ∧ Below w.heap.size w w' := by
 obtain ⟨ao,cap,rfl,hlc,hcm,hr⟩ := Rd.form h
 have hcm : cap ≤ 9223372036854775807 := by unfold maxLen at hcm;omega
 by_cases h0 : (limbs n).length = 0
 ·go_enter Tryz.func130,Tryz.ntmps130
  go_wp2
  go_ret
  exact ⟨rfl,(Below.refl _ _).alloc (Nat.le_refl _) _⟩
 ·have hl := limbs_last (n := n) (by omega)
  have hk : (limbs n).length - 1 < (limbs n).length := by omega
  obtain ⟨b,off,rfl,hb,hc⟩ := hr.at_ hk
  have hc1 := hc _ hk
  clear hc
  have hx : ((((limbs n)[(limbs n).length - 1] : Nat) : Int) != 0) = true := by simpa using hl
  clear hl
  go_enter Tryz.func130,Tryz.ntmps130
  go_wp2
  go_ret
  exact ⟨rfl,(Below.refl _ _).alloc (Nat.le_refl _) _⟩
theorem bounded (v : Value) (l : List Nat) (w : World) (h : Rd U32 w v l) (hs : Small l) :
  Calls Tryz.prog 131 #[v] w (Nat2 (val l) w) := by
 go_enter Tryz.func131,Tryz.ntmps131
 go_wp2_with fail
 refine (trimmed _ l _ (h.alloc _) hs).mono ?_
 rintro e w1 ⟨u,rfl,hu,hb⟩
 obtain ⟨hc,hf⟩ := bcell hb
 have hz : w.heap.size < w1.heap.size := by have := hb.size;simp at this;omega
 obtain ⟨ao,cap,rfl,hlc,hcm,hr⟩ := Rd.form hu
 have hc0 : w1.cell? ⟨w.heap.size,0,none⟩ = some (.slice none 0 0) := by rw [hc _ _ (by simp)];simp
 have hb0 := Bel.one _ hb
 by_cases h64 : (limbs (val l)).length ≤ 64
 ·have hu' := (hu.setNe hc0 (fun _ h => by cases h) (Value.slice ao (limbs (val l)).length cap)).alloc (Obj.cells #[Value.slice ao (limbs (val l)).length cap] 146)
  go_wp2
  refine bodyPost_ret (v := .tuple #[.agg #[.slice ao (limbs (val l)).length cap],.int .i64 0]) (by simp [results,Tryz.results131,go_sem,hc0,hz]) rfl ⟨_,_,rfl,by show _ = _;rw [if_pos h64],by rw [if_pos h64];exact hu',Bel.al (Bel.st hb0 (Nat.le_refl _) _) _⟩
 ·go_wp2
  refine bodyPost_ret (v := .tuple #[.agg #[.slice none 0 0],.int .i64 9]) (by simp [results,Tryz.results131,go_sem,hc0,hz]) rfl ⟨_,_,rfl,by show _ = _;rw [if_neg h64],?_,Bel.al (Bel.st hb0 (Nat.le_refl _) _) _⟩
  rw [if_neg h64]
  show Rd U32 _ _ (limbs 0)
  rw [limbs_zero]
  exact Rd.nil
theorem of_any (n : Nat) (w : World) (h : n < 18446744073709551616) :
  Calls Tryz.prog 103 #[.int .u64 (n : Int)] w (SomeNat n w) := by
 go_enter Tryz.func103,Tryz.ntmps103
 go_wp2_with fail
 refine (trimmed _ [n % 4294967296,n / 4294967296] _ (Rd.new _ (by simp) rfl (by simp) (by decide) (by simp)) (by intro x hx;simp at hx;omega)).mono ?_
 rintro e w1 ⟨u,rfl,hu,hb⟩
 have e1 : val [n % 4294967296,n / 4294967296] = n := by simp only [val];omega
 rw [e1] at hu
 clear e1
 obtain ⟨hc,hf⟩ := bcell hb
 have hc0 : w1.cell? ⟨w.heap.size,0,none⟩ = some (.slice none 0 0) := by rw [hc _ _ (by simp;omega)];simp
 have hu' := hu.setNe hc0 (fun _ h => by cases h) u
 obtain ⟨ao,cap,rfl,hlc,hcm,hr⟩ := Rd.form hu
 go_wp2
 refine bodyPost_ret (v := .agg #[.slice ao (limbs n).length cap]) (by simp [results,Tryz.results103,go_sem,hc0]) rfl ⟨_,rfl,hu',Bel.st (Bel.two _ _ hb) (Nat.le_refl _) _⟩
end Go.Proofs.YtelgllgaofjgjaaGreat
end
section
open Go.RowKit
set_option linter.unusedVariables false
set_option linter.unusedSimpArgs false
namespace Go.Proofs.YtelgllgaofjgjaaGreat
theorem val_set (l : List Nat) (k y : Nat) (h : k < l.length) : val (l.set k y) + 4294967296 ^ k * l[k] = val l + 4294967296 ^ k * y := by
 induction l generalizing k with
 | nil => simp at h
 | cons x t ih =>
  cases k with
  | zero => simp [val];omega
  | succ k =>
   have := ih k (by simpa using h)
   simp only [zsC,val,List.getElem_cons_succ,Nat.pow_succ]
   grind
theorem small_set {l : List Nat} (h : Small l) (k : Nat) {y : Nat} (hy : y < 4294967296) : Small (l.set k y) := fun x hx => by
 rcases List.mem_or_eq_of_mem_set hx with hx | rfl
 ·exact h x hx
 ·exact hy
theorem mul_lt {x y : Nat} (hx : x < 4294967296) (hy : y < 4294967296) : x * y ≤ 18446744065119617025 :=
 Nat.le_trans (Nat.mul_le_mul (Nat.le_pred_of_lt hx) (Nat.le_pred_of_lt hy)) (by decide)
theorem mul_bd {x y : Nat} (hx : x < 4294967296) (hy : y < 4294967296) : (0 : Int) ≤ (x : Int) * (y : Int) ∧ (x : Int) * (y : Int) ≤ 18446744065119617025 := by
 have h := mul_lt hx hy
 rw [← Int.natCast_mul]
 omega
theorem mul_step {P b : List Nat} {A c i j x t : Nat} (hj : j < b.length) (hi : i + j < P.length)
  (h : val P + c * 4294967296 ^ (i + j) = A + 4294967296 ^ i * (x * val (b.take j)))
  (ht : t = c + (x * b[j] + P[i + j])) :
  val (P.set (i + j) (t % 4294967296)) + (t / 4294967296) * 4294967296 ^ (i + (j + 1)) = A + 4294967296 ^ i * (x * val (b.take (j + 1))) := by
 have h1 := val_set P (i + j) (t % 4294967296) hi
 have h2 := val_take_succ b j hj
 have h3 : t = 4294967296 * (t / 4294967296) + t % 4294967296 := by omega
 generalize t / 4294967296 = q at *
 generalize t % 4294967296 = r at *
 generalize P[i + j] = p at *
 generalize b[j] = y at *
 generalize val (b.take (j + 1)) = v1 at *
 generalize val (b.take j) = v0 at *
 generalize val (P.set (i + j) r) = s1 at *
 generalize val P = s0 at *
 rw [← Nat.add_assoc,Nat.pow_succ]
 rw [Nat.pow_add] at *
 generalize 4294967296 ^ i = bi at *
 generalize 4294967296 ^ j = bj at *
 subst h2
 grind
theorem mul_row {P a b : List Nat} {c i : Nat} (hi : i < a.length) (hk : i + b.length < P.length) (hz : P[i + b.length] = 0)
  (h : val P + c * 4294967296 ^ (i + b.length) = val (a.take i) * val b + 4294967296 ^ i * (a[i] * val (b.take b.length))) :
  val (P.set (i + b.length) c) = val (a.take (i + 1)) * val b := by
 have h1 := val_set P (i + b.length) c hk
 rw [hz] at h1
 rw [val_take_succ a i hi]
 rw [List.take_length] at h
 generalize val (P.set (i + b.length) c) = s1 at *
 grind
theorem val_zeros (n : Nat) : val (List.replicate n 0) = 0 := by
 induction n with
 | zero => rfl
 | succ n ih => rw [List.replicate_succ,val,ih]
theorem small_zeros (n : Nat) : Small (List.replicate n 0) := fun x hx => by
 have := (List.mem_replicate.1 hx).2
 omega
theorem u32_mod (t : Nat) : U32 (t % 4294967296) = .int .u32 ((t : Int) % 4294967296) := by simp [U32]
end Go.Proofs.YtelgllgaofjgjaaGreat
end
section
set_option linter.unusedVariables false
set_option linter.unusedSimpArgs false
namespace Go.Proofs.YtelgllgaofjgjaaGreat
open Go.RowKit
theorem infoU32 : (Tryz.prog.info? 166).map (fun i => (i.zero,i.size,i.bytes)) = some (some (.int .u32 0),1,4) := by kernel_rfl
set_option maxHeartbeats 1000000 in
set_option maxRecDepth 100000 in
theorem mul_core (va vb : Value) (la lb : List Nat) (m n : Nat) (w : World) (hA : Hid (la = limbs m)) (hB : Hid (lb = limbs n)) (ha : Rd U32 w va la) (hb : Rd U32 w vb lb) (hm : la.length ≤ 64) (hn : lb.length ≤ 64) :
  Calls Tryz.prog 104 #[.agg #[va],.agg #[vb]] w (Nat2 (m * n) w) := by
 obtain ⟨aa,ca,rfl,hla,hca,hra⟩ := Rd.form ha
 obtain ⟨ab,cb,rfl,hlb,hcb,hrb⟩ := Rd.form hb
 have hsa : Small la := by rw [hA.out];exact small_limbs m
 have hsb : Small lb := by rw [hB.out];exact small_limbs n
 have hva := hide (show val la * val lb = m * n by rw [hA.out,hB.out,val_limbs,val_limbs])
 go_enter Tryz.func104,Tryz.ntmps104
 go_wp2_with fail
 refine (valid _ m _ (by show Rd _ _ _ _;rw [← hA.out];exact ((ha.alloc _).alloc _).alloc _) (by rw [← hA.out];exact hm)).mono ?_
 rintro e w1 ⟨rfl,hb1⟩
 have hz1 : w.heap.size + 2 < w1.heap.size := by have := hb1.size;simp at this;omega
 have hbw1 := Bel.three _ _ _ hb1
 have c10 : w1.cell? ⟨w.heap.size,0,none⟩ = some (.slice aa la.length ca) := Bel.cellOf hb1 (by go_simp)
 have c11 : w1.cell? ⟨w.heap.size + 1,0,none⟩ = some (.slice ab lb.length cb) := Bel.cellOf hb1 (by go_simp)
 have c12 : w1.cell? ⟨w.heap.size + 1 + 1,0,none⟩ = some (.slice none 0 0) := Bel.cellOf hb1 (by go_simp)
 have f12 : w1.frozen? ⟨w.heap.size + 1 + 1,0,none⟩ = false := Bel.frozenOf hb1 (v := .slice none 0 0) (by go_simp) (by go_simp)
 clear hb1
 go_wp2_with fail
 refine (valid _ n _ (by show Rd _ _ _ _;rw [← hB.out];exact hb.below hbw1) (by rw [← hB.out];exact hn)).mono ?_
 rintro e w2 ⟨rfl,hb2⟩
 have hz2 : w.heap.size + 2 < w2.heap.size := by have := hb2.size;omega
 have hbw2 := Bel.to hbw1 hb2
 have c20 := Bel.cellOf hb2 c10
 have c21 := Bel.cellOf hb2 c11
 have c22 := Bel.cellOf hb2 c12
 have f22 := Bel.frozenOf hb2 c12 f12
 clear hb2 c10 c11 c12 f12 hbw1 hz1
 go_wp2_with (with_reducible refine wpList_make_row _ rfl _ _ 144 rfl 166 (.int .u32 0) 4 Tryz.underlying144 infoU32 rfl .i64 .i64 _ _ (la.length + lb.length) (la.length + lb.length) rfl rfl (by omega) (by omega) (Nat.le_refl _) (by omega) (by omega) ?_;intro w3 hrow hb3 hz3;have c30 := Bel.cellOf hb3 c20;have c31 := Bel.cellOf hb3 c21)
 have hbw3 := Bel.to hbw2 hb3
 have c32 := Bel.cellOf hb3 c22
 have f32 := Bel.frozenOf hb3 c22 f22
 obtain ⟨g,hg⟩ : ∃ g,g = w2.heap.size := ⟨_,rfl⟩
 rw [← hg] at hrow hz3 ⊢
 have hg2 : w.heap.size + 2 < g := by omega
 clear hb3 c20 c21 c22 f22 hbw2 hz2 ha hb
 clear hg
 go_loopw [33] (fun i wr => ∃ (k : Nat) (P : List Nat),k ≤ la.length ∧ i = .int .i64 k ∧ Row wr g 166 (P.map U32) ∧ Hid (P.length = la.length + lb.length) ∧ Small P ∧ Hid (val P = val (la.take k) * val lb) ∧
   Hid (∀ q (hq : q < P.length),k + lb.length ≤ q → P[q] = 0) ∧ w3.grownBy wr (some g)) (fun i _ => la.length - (intOf i).toNat)
 case atStart =>
  refine ⟨0,List.replicate (la.length + lb.length) 0,Nat.zero_le _,rfl,by rw [List.map_replicate];exact hrow,by show _ = _;simp,small_zeros _,?_,?_,Gb.refl _ _⟩
  ·show _ = _;rw [val_zeros];simp [val]
  ·show ∀ q hq,_;intro q hq _;simp
 case round =>
  obtain ⟨k,P,hk,rfl,hP,hPl,hPs,hPv,hPz,hgb⟩ := hrel
  have d0 := Gb.cellOf hgb c30 (by omega)
  have d1 := Gb.cellOf hgb c31 (by omega)
  by_cases hkl : k < la.length
  ·obtain ⟨ba,offa,rfl,hba,hcella⟩ := hra.at_ hkl
   have e1 := Gb.cellOf hgb (Bel.cellOf hbw3 (hcella k hkl)) (by omega)
   have hx := small_get hsa hkl
   have hbnd : k + lb.length + 1 ≤ la.length + lb.length := by omega
   clear hcella
   go_wp2
   obtain ⟨wo,rfl⟩ : ∃ wo : World,wo = wr := ⟨_,rfl⟩
   go_loopw [10,56] (fun c j wr => ∃ (q cc : Nat) (P' : List Nat),q ≤ lb.length ∧ cc < 4294967296 ∧ c = .int .u64 cc ∧ j = .int .i64 q ∧ Row wr g 166 (P'.map U32) ∧ Hid (P'.length = la.length + lb.length) ∧ Small P' ∧
     Hid (val P' + cc * 4294967296 ^ (k + q) = val (la.take k) * val lb + 4294967296 ^ k * (la[k] * val (lb.take q))) ∧
     Hid (∀ i (hq : i < P'.length),k + lb.length ≤ i → P'[i] = 0) ∧ w3.grownBy wr (some g)) (fun _ j _ => lb.length - (intOf j).toNat)
   case atStart =>
    refine ⟨0,0,P,Nat.zero_le _,by omega,rfl,rfl,hP,hPl,hPs,?_,hPz,hgb⟩
    show _ = _
    rw [hPv.out];simp [val]
   case round =>
    obtain ⟨q,cc,P',hq,hcc,rfl,rfl,hP',hPl',hPs',hPv',hPz',hgb'⟩ := hrel
    have d0 := Gb.cellOf hgb' c30 (by omega)
    have d1 := Gb.cellOf hgb' c31 (by omega)
    have hPlo := hPl'.out
    by_cases hql : q < lb.length
    ·obtain ⟨bb,offb,rfl,hbb,hcellb⟩ := hrb.at_ hql
     have e2 := Gb.cellOf hgb' (Bel.cellOf hbw3 (hcellb q hql)) (by omega)
     have hy := small_get hsb hql
     have hkq : k + q < P'.length := by omega
     have e3 := hP'.cellV hkq
     have e4 := hP'.frozen (k + q)
     have hp := small_get hPs' hkq
     have hxy := mul_bd hx hy
     obtain ⟨hxy0,hxy1⟩ := hxy
     clear hcellb hPlo
     go_wp2
     go_roundw
     case rel =>
      have et : (↑cc + (↑la[k] * ↑lb[q] + ↑P'[k + q]) : Int) = ((cc + (la[k] * lb[q] + P'[k + q]) : Nat) : Int) := by rw [Int.natCast_add,Int.natCast_add,Int.natCast_mul]
      have hst := mul_step hql hkq hPv'.out rfl
      have ht : cc + (la[k] * lb[q] + P'[k + q]) < 18446744073709551616 := by have := mul_lt hx hy;omega
      rw [et]
      clear et hxy0 hxy1
      generalize cc + (la[k] * lb[q] + P'[k + q]) = t at *
      refine ⟨q + 1,t / 4294967296,P'.set (k + q) (t % 4294967296),by omega,by omega,by go_num,by go_num,?_,?_,small_set hPs' _ (by omega),hst,?_,Gb.set hgb' (.inl rfl) _⟩
      ·rw [← u32_mod]
       exact hP'.setV (k + q) (t % 4294967296)
      ·show _ = _;rw [List.length_set];exact hPl'.out
      ·show ∀ i hq,_
       intro i hi hki
       rw [List.getElem_set_ne (by omega)]
       exact hPz'.out i (by simpa using hi) hki
     case measure => simp [intOf];omega
    ·have eq1 : q = lb.length := by omega
     subst eq1
     have hkq : k + lb.length < P'.length := by omega
     have e3 := hP'.cellV hkq
     have e4 := hP'.frozen (k + lb.length)
     clear hPlo
     go_wp2
     go_roundw
     case rel =>
      have hz := hPz'.out (k + lb.length) hkq (Nat.le_refl _)
      refine ⟨k + 1,P'.set (k + lb.length) cc,by omega,by go_num,?_,?_,small_set hPs' _ hcc,mul_row hkl hkq hz hPv'.out,?_,Gb.set hgb' (.inl rfl) _⟩
      ·exact hP'.setV (k + lb.length) cc
      ·show _ = _;rw [List.length_set];exact hPl'.out
      ·show ∀ i hq,_
       intro i hi hki
       rw [List.getElem_set_ne (by omega)]
       exact hPz'.out i (by simpa using hi) (by omega)
     case measure => simp [intOf];omega
  ·have ek : k = la.length := by omega
   subst ek
   have hfin : val P = m * n := by rw [hPv.out,List.take_length];exact hva.out
   have hPlo := hPl.out
   have hrd := hP.rdAll (n := la.length + lb.length) (c := la.length + lb.length) hPlo.symm (Nat.le_refl _) (by omega)
   have c42 := Gb.cellOf hgb c32 (by omega)
   have f42 := (Gb.frozenOf hgb (b := w.heap.size + 1 + 1) (o := 0) (by omega) (by omega)).trans f32
   replace hfin := hide hfin
   clear hPlo
   go_wp2_with fail
   refine (bounded _ P _ (by exact hrd) hPs).mono ?_
   rintro e w5 ⟨u,c,rfl,hc,hu,hb5⟩
   rw [hfin.out] at hc hu
   have c52 := Bel.cellOf hb5 c42
   have f52 := Bel.frozenOf hb5 c42 f42
   have hu' := hu.setNe c52 (fun _ h => by cases h) u
   have hbel := Bel.st (Bel.to (Gb.bel hbw3 hgb (by omega)) hb5) (p := ⟨w.heap.size + 1 + 1,0,none⟩) (by simp only [];omega) u
   obtain ⟨ao,n0,cp,rfl⟩ := Rd.shape hu
   go_wp2
   refine bodyPost_ret (v := .tuple #[.agg #[.slice ao n0 cp],.int .i64 c]) (by simp [results,Tryz.results104,go_sem,c52]) rfl ⟨_,c,rfl,hc,hu',hbel⟩
end Go.Proofs.YtelgllgaofjgjaaGreat
end
section
open Go.RowKit
set_option linter.unusedVariables false
set_option linter.unusedSimpArgs false
namespace Go.Proofs.YtelgllgaofjgjaaGreat
theorem or_shift {x y : Nat} (hx : x < 4294967296) (hy : y < 4294967296) : bits BinOp.or IntKind.u64 ((x : Int) * 4294967296) (y : Int) = ((x * 4294967296 + y : Nat) : Int) := by
 have h := Nat.two_pow_add_eq_or_of_lt (i := 32) (b := y) (by omega) x
 have e : ((x : Int) * 4294967296) = ((x * 4294967296 : Nat) : Int) := by omega
 rw [e,u64_or_nat _ _ (by omega) (by omega)]
 have e2 : x * 4294967296 = 2 ^ 32 * x := by omega
 rw [e2,← h]
theorem or_high {x y : Nat} (hx : x < 4294967296) (hy : y < 4294967296) : bits BinOp.or IntKind.u64 (x : Int) ((y : Int) * 4294967296) = ((x + 4294967296 * y : Nat) : Int) := by
 have h := Nat.two_pow_add_eq_or_of_lt (i := 32) (b := x) (by omega) y
 have e : ((y : Int) * 4294967296) = ((y * 4294967296 : Nat) : Int) := by omega
 rw [e,u64_or_nat _ _ (by omega) (by omega)]
 have e2 : y * 4294967296 = 2 ^ 32 * y := by omega
 rw [e2,Nat.or_comm,← h]
 congr 1
 omega
theorem or_zero {y : Nat} (hy : y < 4294967296) : bits BinOp.or IntKind.u64 (0 : Int) (y : Int) = (y : Int) := by
 have := u64_or_nat 0 y (by omega) (by omega)
 rw [Nat.zero_or] at this
 exact this
theorem div_bd {t d : Nat} (h : t / d < 4294967296) : (0 : Int) ≤ (t : Int) / (d : Int) ∧ (t : Int) / (d : Int) < 4294967296 := by
 have e : (t : Int) / (d : Int) = ((t / d : Nat) : Int) := (Int.natCast_ediv t d).symm
 generalize t / d = q at *
 omega
theorem u64_mod {q : Nat} (h : q < 4294967296) : IntKind.u64.wrap (q : Int) % 4294967296 = (q : Int) := by
 rw [IntKind.wrap_u64];omega
theorem wide_law (a0 a1 b0 b1 : Nat) (h0 : a0 < 4294967296) (h2 : b0 < 4294967296) (q : Nat) (hq : q = (a0 + 4294967296 * a1) * (b0 + 4294967296 * b1)) :
  q / 18446744073709551616 = a1 * b1 + (a1 * b0 + a0 * b0 / 4294967296) / 4294967296 + (a0 * b1 + (a1 * b0 + a0 * b0 / 4294967296) % 4294967296) / 4294967296 ∧
  q % 18446744073709551616 = (a0 * b1 + (a1 * b0 + a0 * b0 / 4294967296) % 4294967296) % 4294967296 * 4294967296 + a0 * b0 % 4294967296 := by
 have e : q = a0 * b0 + 4294967296 * (a1 * b0) + 4294967296 * (a0 * b1) + 18446744073709551616 * (a1 * b1) := by grind
 generalize a0 * b0 = p00 at *
 generalize a1 * b0 = p10 at *
 generalize a0 * b1 = p01 at *
 generalize a1 * b1 = p11 at *
 omega
theorem and_mask (x : Int) (h0 : 0 ≤ x) (h : x < 18446744073709551616) : bits BinOp.and IntKind.u64 x 4294967295 = x % 4294967296 := by
 obtain ⟨n,rfl⟩ := Int.eq_ofNat_of_zero_le h0
 have := u64_and_nat n 4294967295 (by omega) (by omega)
 rw [show ((4294967295 : Nat) : Int) = (4294967295 : Int) from rfl] at this
 rw [this]
 have e := Nat.and_two_pow_sub_one_eq_mod n 32
 rw [show (2 : Nat) ^ 32 - 1 = 4294967295 by decide,show (2 : Nat) ^ 32 = 4294967296 by decide] at e
 rw [e]
 omega
set_option maxHeartbeats 1000000 in
theorem mul64_any (a b : Nat) (w : World) (ha : a < 18446744073709551616) (hb : b < 18446744073709551616) :
  Calls Tryz.prog 80 #[.int .u64 (a : Int),.int .u64 (b : Int)] w
   (Pure (.tuple #[.int .u64 ((a * b / 18446744073709551616 : Nat) : Int),.int .u64 ((a * b % 18446744073709551616 : Nat) : Int)]) w) := by
 obtain ⟨a0,ea0⟩ : ∃ a0,a0 = a % 4294967296 := ⟨_,rfl⟩
 obtain ⟨a1,ea1⟩ : ∃ a1,a1 = a / 4294967296 := ⟨_,rfl⟩
 obtain ⟨b0,eb0⟩ : ∃ b0,b0 = b % 4294967296 := ⟨_,rfl⟩
 obtain ⟨b1,eb1⟩ : ∃ b1,b1 = b / 4294967296 := ⟨_,rfl⟩
 have l0 : a0 < 4294967296 := by omega
 have l1 : a1 < 4294967296 := by omega
 have m0 : b0 < 4294967296 := by omega
 have m1 : b1 < 4294967296 := by omega
 have ja0 : (a : Int) % 4294967296 = (a0 : Int) := by omega
 have ja1 : (a : Int) / 4294967296 = (a1 : Int) := by omega
 have jb0 : (b : Int) % 4294967296 = (b0 : Int) := by omega
 have jb1 : (b : Int) / 4294967296 = (b1 : Int) := by omega
 obtain ⟨w1,w2⟩ := wide_law a0 a1 b0 b1 l0 m0 (a * b) (by rw [show a0 + 4294967296 * a1 = a by omega,show b0 + 4294967296 * b1 = b by omega])
 rw [w1]
 have hlo : ((a * b % 18446744073709551616 : Nat) : Int) = IntKind.u64.wrap ((a : Int) * (b : Int)) := by rw [IntKind.wrap_u64];simp
 rw [hlo]
 clear hlo
 clear w1 w2 ea0 ea1 eb0 eb1
 have p00 := mul_bd l0 m0
 have p10 := mul_bd l1 m0
 have p01 := mul_bd l0 m1
 have p11 := mul_bd l1 m1
 obtain ⟨p00a,p00b⟩ := p00
 obtain ⟨p10a,p10b⟩ := p10
 obtain ⟨p01a,p01b⟩ := p01
 obtain ⟨p11a,p11b⟩ := p11
 have ka : bits BinOp.and IntKind.u64 (a : Int) 4294967295 = (a0 : Int) := by rw [and_mask _ (by omega) (by omega),ja0]
 have kb : bits BinOp.and IntKind.u64 (b : Int) 4294967295 = (b0 : Int) := by rw [and_mask _ (by omega) (by omega),jb0]
 have kt : bits BinOp.and IntKind.u64 ((a1 : Int) * b0 + (a0 : Int) * b0 / 4294967296) 4294967295 = ((a1 : Int) * b0 + (a0 : Int) * b0 / 4294967296) % 4294967296 := and_mask _ (by omega) (by omega)
 have hfit : (a1 : Int) * b1 + ((a1 : Int) * b0 + (a0 : Int) * b0 / 4294967296) / 4294967296 + ((a0 : Int) * b1 + ((a1 : Int) * b0 + (a0 : Int) * b0 / 4294967296) % 4294967296) / 4294967296 < 18446744073709551616 := by omega
 go_enter Tryz.func80,Tryz.ntmps80
 go_wp2
 go_ret2
 exact ⟨by simp;omega,rfl⟩
set_option maxRecDepth 100000 in
theorem magn_any (x : Nat) (w : World) (h : x ≤ 9223372036854775807) : Calls Tryz.prog 81 #[.int .i64 (x : Int)] w (Pure (.int .u64 (x : Int)) w) := by
 have h0 : (0 : Int) ≤ (x : Int) := by omega
 have hw : IntKind.u64.wrap (x : Int) = (x : Int) := IntWalk.u64_in _ (by omega)
 have hf : decide ((x : Int) < 0) = false := decide_eq_false (by omega)
 clear h
 go_enter Tryz.func81,Tryz.ntmps81
 go_wp2
 go_ret
 exact ⟨rfl,rfl⟩
set_option maxRecDepth 100000 in
set_option maxHeartbeats 1000000 in
theorem nmul_ok (a b : Nat) (w : World) (ha : a ≤ 9223372036854775807) (hb : b ≤ 9223372036854775807) (hp : a * b ≤ 9223372036854775807) :
  Calls Tryz.prog 50 #[.int .i64 (a : Int),.int .i64 (b : Int)] w (IntP ((a * b : Nat) : Int) 0 w) := by
 have hm := hide (mul64_any a b w (by omega) (by omega))
 have h1 : a * b / 18446744073709551616 = 0 := Nat.div_eq_of_lt (by omega)
 have h2 : a * b % 18446744073709551616 = a * b := Nat.mod_eq_of_lt (by omega)
 rw [h1,h2] at hm
 obtain ⟨p,hpe⟩ : ∃ p,p = a * b := ⟨_,rfl⟩
 rw [← hpe] at hm hp ⊢
 clear h1 h2 hpe
 have c1 := hide (magn_any a w ha)
 have c2 := hide (magn_any b w hb)
 have f1 : decide ((a : Int) < 0) = false := decide_eq_false (by omega)
 have f2 : decide ((b : Int) < 0) = false := decide_eq_false (by omega)
 have f3 : decide ((9223372036854775807 : Int) < (p : Int)) = false := decide_eq_false (by omega)
 have f4 : wrap64 (p : Int) = (p : Int) := IntWalk.wrap64_in _ (by omega)
 have f5 : (p : Int) ≤ 9223372036854775807 := by omega
 have f6 : (0 : Int) ≤ (a : Int) := by omega
 have f7 : (0 : Int) ≤ (b : Int) := by omega
 clear ha hb hp
 go_enter Tryz.func50,Tryz.ntmps50
 go_wp2_with fail
 refine c1.out.mono ?_
 rintro e w' ⟨rfl,rfl⟩
 go_wp2_with fail
 refine c2.out.mono ?_
 rintro e w' ⟨rfl,rfl⟩
 go_wp2_with fail
 refine hm.out.mono ?_
 rintro e w' ⟨rfl,rfl⟩
 go_wp2
 go_ret2
 exact ⟨rfl,rfl⟩
end Go.Proofs.YtelgllgaofjgjaaGreat
end
section
set_option linter.unusedVariables false
set_option linter.unusedSimpArgs false
namespace Go.Proofs.YtelgllgaofjgjaaGreat
theorem val_split (l : List Nat) (i : Nat) (hi : i ≤ l.length) : val l = val (l.take i) + 4294967296 ^ i * val (l.drop i) := by
 have h := val_append (l.take i) (l.drop i)
 rw [List.take_append_drop,List.length_take,Nat.min_eq_left hi] at h
 exact h
theorem drop_cons {α : Type} (l : List α) (i : Nat) (hi : i < l.length) : l.drop i = l[i] :: l.drop (i + 1) := List.drop_eq_getElem_cons hi
theorem val_drop (l : List Nat) (i : Nat) (hi : i < l.length) : val (l.drop i) = l[i] + 4294967296 * val (l.drop (i + 1)) := by
 rw [drop_cons l i hi,val]
theorem cmp_lt {a b : List Nat} (hl : a.length = b.length) (ha : Small a) {i : Nat} (hi : i < a.length) (heq : a.drop (i + 1) = b.drop (i + 1)) (hlt : a[i] < b[i]) : val a < val b := by
 have h1 := val_split a i (by omega)
 have h2 := val_split b i (by omega)
 have h3 := val_drop a i hi
 have h4 := val_drop b i (by omega)
 have h5 := val_lt (small_take ha i)
 rw [List.length_take,Nat.min_eq_left (by omega)] at h5
 rw [heq] at h3
 have h6 : 4294967296 ^ i * (a[i] + 1) ≤ 4294967296 ^ i * b[i] := Nat.mul_le_mul_left _ hlt
 rw [h1,h2,h3,h4,Nat.mul_add,Nat.mul_add]
 rw [Nat.mul_add] at h6
 omega
theorem lt_of_length {m n : Nat} (h : (limbs m).length < (limbs n).length) : m < n := by
 have h1 := length_limbs_lt.2 (Nat.le_refl (limbs m).length)
 have h2 : ¬ n < 4294967296 ^ (limbs m).length := fun h2 => by have := length_limbs_lt.1 h2;omega
 omega
def cmpN (m n : Nat) : Int := if m < n then -1 else if n < m then 1 else 0
theorem div_step {l L : List Nat} {d i r : Nat} (hi : i < l.length) (hL : L.length = l.length) (ht : L.take (i + 1) = l.take (i + 1)) (hd : 0 < d) (hr : r < d)
  (h : val (l.drop (i + 1)) = d * val (L.drop (i + 1)) + r) {x t : Nat} (hx : x = L[i]) (hxs : x < 4294967296) (e : t = r * 4294967296 + x) :
  t / d < 4294967296 ∧ t % d < d ∧ (L.set i (t / d)).take i = l.take i ∧ val (l.drop i) = d * val ((L.set i (t / d)).drop i) + t % d := by
 have hxl : L[i] = l[i] := by
  have h1 : (L.take (i + 1))[i]? = (l.take (i + 1))[i]? := by rw [ht]
  rw [List.getElem?_take,List.getElem?_take,if_pos (by omega),if_pos (by omega),List.getElem?_eq_getElem (by omega),List.getElem?_eq_getElem (by omega)] at h1
  injection h1
 have ht' : L.take i = l.take i := by
  have := congrArg (List.take i) ht
  rwa [List.take_take,List.take_take,Nat.min_eq_left (by omega)] at this
 have hq : t / d < 4294967296 := by
  rw [Nat.div_lt_iff_lt_mul hd]
  have : (r + 1) * 4294967296 ≤ d * 4294967296 := Nat.mul_le_mul_right _ hr
  rw [Nat.mul_comm d] at this
  omega
 have hdm := Nat.div_add_mod t d
 refine ⟨hq,Nat.mod_lt _ hd,?_,?_⟩
 ·rw [List.take_set_of_le (Nat.le_refl _)]
  exact ht'
 ·rw [val_drop l i hi,h,← hxl,← hx,val_drop _ i (by rw [List.length_set];omega),List.getElem_set_self,List.drop_set_of_lt (by omega)]
  generalize t / d = q at *
  generalize t % d = s at *
  generalize val (List.drop (i + 1) L) = Q at *
  grind
end Go.Proofs.YtelgllgaofjgjaaGreat
end
section
open Go.RowKit
set_option linter.unusedVariables false
set_option linter.unusedSimpArgs false
namespace Go.Proofs.YtelgllgaofjgjaaGreat
def Drawn (r : Value) (w : World) (e : Ending) (w' : World) : Prop := e = .returned r ∧ ∃ n,w' = w.drewN n
set_option maxHeartbeats 1000000 in
set_option maxRecDepth 100000 in
theorem compare_lists (va vb : Value) (la lb : List Nat) (m n : Nat) (w : World) (hA : Hid (la = limbs m)) (hB : Hid (lb = limbs n)) (ha : Rd U32 w va la) (hb : Rd U32 w vb lb) :
  Calls Tryz.prog 132 #[va,vb] w (Drawn (.int .i64 (cmpN m n)) w) := by
 obtain ⟨aa,ca,rfl,hla,hca,hra⟩ := Rd.form ha
 obtain ⟨ab,cb,rfl,hlb,hcb,hrb⟩ := Rd.form hb
 have hca' : ca ≤ 9223372036854775807 := by unfold maxLen at hca;omega
 have hcb' : cb ≤ 9223372036854775807 := by unfold maxLen at hcb;omega
 have hsa : Small la := by rw [hA.out];exact small_limbs m
 have hsb : Small lb := by rw [hB.out];exact small_limbs n
 by_cases hlt : la.length < lb.length
 ·have hc : cmpN m n = -1 := by unfold cmpN;rw [if_pos (lt_of_length (by rw [← hA.out,← hB.out];exact hlt))]
  rw [hc]
  clear hc
  go_enter Tryz.func132,Tryz.ntmps132
  go_wp2
  go_ret
  exact ⟨rfl,0,rfl⟩
 by_cases hgt : lb.length < la.length
 ·have hc : cmpN m n = 1 := by
   have := lt_of_length (m := n) (n := m) (by rw [← hA.out,← hB.out];exact hgt)
   unfold cmpN;rw [if_neg (by omega),if_pos this]
  rw [hc]
  clear hc
  go_enter Tryz.func132,Tryz.ntmps132
  go_wp2
  go_ret
  exact ⟨rfl,0,rfl⟩
 have hlen : la.length = lb.length := by omega
 have hle := hide hlen
 have hva : val la = m := by rw [hA.out,val_limbs]
 have hvb : val lb = n := by rw [hB.out,val_limbs]
 replace hva := hide hva
 replace hvb := hide hvb
 have l1 : la.length ≤ lb.length := by omega
 have l2 : lb.length ≤ la.length := by omega
 have l3 : ((la.length : Int) != lb.length) = false := by simp;omega
 clear hlt hgt hlen
 go_enter Tryz.func132,Tryz.ntmps132
 go_wp2
 go_loopw [5] (fun i wr => ∃ (k d : Nat),k ≤ la.length ∧ i = .int .i64 ((k : Int) - 1) ∧ wr = w.drewN d ∧ Hid (la.drop k = lb.drop k)) (fun i _ => (intOf i + 1).toNat)
 case atStart =>
  refine ⟨la.length,0,Nat.le_refl _,rfl,rfl,?_⟩
  show _ = _
  rw [List.drop_length,List.drop_of_length_le (by omega)]
 case round =>
  obtain ⟨k,d,hk,rfl,rfl,hdr⟩ := hrel
  by_cases hk0 : k = 0
  ·subst hk0
   have h1 := hdr.out
   simp only [List.drop_zero] at h1
   have hc : cmpN m n = 0 := by
    have : m = n := by rw [← hva.out,← hvb.out,h1]
    unfold cmpN;rw [if_neg (by omega),if_neg (by omega)]
   replace hc := hide hc
   clear h1
   go_wp2
   go_ret
   exact ⟨by rw [hc.out];rfl,d,rfl⟩
  ·have hk1 : k - 1 < la.length := by omega
   have hk2 : k - 1 < lb.length := by omega
   obtain ⟨ba,offa,rfl,hba,hcella⟩ := hra.at_ hk1
   obtain ⟨bb,offb,rfl,hbb,hcellb⟩ := hrb.at_ hk2
   have c1 := hcella _ hk1
   have c2 := hcellb _ hk2
   clear hcella hcellb
   have i1 : (0 : Int) ≤ (k : Int) - 1 := by omega
   have i2 : (k : Int) - 1 < (la.length : Int) := by omega
   have i3 : (k : Int) - 1 < (lb.length : Int) := by omega
   rcases Nat.lt_trichotomy la[k - 1] lb[k - 1] with h | h | h
   ·have hc : cmpN m n = -1 := by
     have := cmp_lt hle.out hsa hk1 (by rw [Nat.sub_add_cancel (by omega)];exact hdr.out) h
     rw [hva.out,hvb.out] at this
     unfold cmpN;rw [if_pos this]
    replace hc := hide hc
    have t1 : ((la[k - 1] : Nat) : Int) < ((lb[k - 1] : Nat) : Int) := by omega
    go_wp2
    go_quiet (fail)
    go_wp2
    go_ret
    exact ⟨by rw [hc.out];rfl,_,World.drewN_drewN _ _ _⟩
   ·have t1 : ¬ ((la[k - 1] : Nat) : Int) < ((lb[k - 1] : Nat) : Int) := by omega
    have t2 : ¬ ((lb[k - 1] : Nat) : Int) < ((la[k - 1] : Nat) : Int) := by omega
    replace h := hide h
    go_wp2
    go_quiet (fail)
    go_wp2
    go_quiet (fail)
    go_wp2
    go_roundw
    case rel =>
     refine ⟨k - 1,_,by omega,by go_num,rfl,?_⟩
     show _ = _
     rw [drop_cons la (k - 1) hk1,drop_cons lb (k - 1) hk2,h.out,Nat.sub_add_cancel (by omega),hdr.out]
    case measure => simp [intOf];omega
   ·have hc : cmpN m n = 1 := by
     have := cmp_lt hle.out.symm hsb hk2 (by rw [Nat.sub_add_cancel (by omega)];exact hdr.out.symm) h
     rw [hva.out,hvb.out] at this
     unfold cmpN;rw [if_neg (by omega),if_pos this]
    replace hc := hide hc
    have t1 : ¬ ((la[k - 1] : Nat) : Int) < ((lb[k - 1] : Nat) : Int) := by omega
    have t2 : ((lb[k - 1] : Nat) : Int) < ((la[k - 1] : Nat) : Int) := by omega
    go_wp2
    go_quiet (fail)
    go_wp2
    go_quiet (fail)
    go_wp2
    go_ret
    exact ⟨by rw [hc.out];rfl,_,by rw [World.drewN_drewN,World.drewN_drewN]⟩
theorem infoU32' : (Tryz.prog.info? 166).map (fun i => (i.zero,i.size,i.bytes)) = some (some (.int .u32 0),1,4) := by kernel_rfl
set_option maxHeartbeats 1000000 in
set_option maxRecDepth 100000 in
theorem divideSmall (g cap base : Nat) (l : List Nat) (d : Nat) (w : World) (h : Own U32 w base 166 (.slice (some ⟨g,0,none⟩) l.length cap) l) (hs : Small l) (hd : 0 < d) (hdB : d < 4294967296) (hl : l.length ≤ 1000) :
  Calls Tryz.prog 134 #[.slice (some ⟨g,0,none⟩) l.length cap,.int .u32 d] w fun e w' => e = .returned (.int .u32 ((val l % d : Nat) : Int)) ∧
   (∃ q,Own U32 w' base 166 (.slice (some ⟨g,0,none⟩) l.length cap) q ∧ q.length = l.length ∧ Small q ∧ val q = val l / d) ∧ w.grownBy w' (some g) := by
 obtain ⟨ao,cap',hv,hlc,hcm,hr⟩ := Rd.form h.rd
 injection hv with e1 e2 e3
 subst e1 e3
 have hcm' : cap ≤ 9223372036854775807 := by unfold maxLen at hcm;omega
 go_enter Tryz.func134,Tryz.ntmps134
 go_wp2
 go_loopw [5,6] (fun r i wr => ∃ (k x : Nat) (L : List Nat),k ≤ l.length ∧ r = .int .u64 x ∧ i = .int .i64 ((k : Int) - 1) ∧ x < d ∧ Hid (L.length = l.length) ∧ Own U32 wr base 166 (.slice (some ⟨g,0,none⟩) l.length cap) L ∧ Small L ∧
   Hid (L.take k = l.take k) ∧ Hid (val (l.drop k) = d * val (L.drop k) + x) ∧ w.grownBy wr (some g)) (fun _ i _ => (intOf i + 1).toNat)
 case atStart =>
  exact ⟨l.length,0,l,Nat.le_refl _,rfl,rfl,hd,rfl,h,hs,rfl,by show _ = _;simp [val],Gb.refl _ _⟩
 case round =>
  obtain ⟨k,x,L,hk,rfl,rfl,hx,hLl,hown,hLs,hLt,hLv,hgb⟩ := hrel
  by_cases hk0 : k = 0
  ·subst hk0
   have h1 := hLv.out
   simp only [List.drop_zero] at h1
   have h2 : val L = val l / d := by rw [h1,Nat.mul_add_div hd,Nat.div_eq_of_lt hx];omega
   have h3 : val l % d = x := by rw [h1,Nat.mul_add_mod,Nat.mod_eq_of_lt hx]
   replace h3 := hide h3
   clear h1
   go_wp2
   go_ret
   rw [h3.out]
   exact ⟨rfl,⟨L,hown,hLl.out,hLs,h2⟩,hgb⟩
  ·have hLo := hLl.out
   have hk1 : k - 1 < L.length := by omega
   have e5 := hown.rd.at_ (k := k - 1) hk1
   obtain ⟨b',off',eb,hb',hcc⟩ := e5
   injection eb with eb
   injection eb with eb1 eb2
   subst eb1 eb2
   have c1 := hcc (k - 1) hk1
   simp only [Nat.zero_add] at c1
   have f1 : wr.frozen? ⟨g,k - 1,none⟩ = false := World.ownsRow.frozenAt (by have := hown;unfold Own at this;rw [hLo] at this;exact this) (k - 1)
   have hsm := small_get hLs hk1
   have hbits := or_shift (x := x) (y := L[k - 1]) (by omega) hsm
   obtain ⟨t,ht⟩ : ∃ t,t = x * 4294967296 + L[k - 1] := ⟨_,rfl⟩
   rw [← ht] at hbits
   have htb : t < 18446744073709551616 := by omega
   have hst := div_step (l := l) (L := L) (d := d) (i := k - 1) (r := x) (x := L[k - 1]) (t := t) (by omega) hLo (by rw [Nat.sub_add_cancel (by omega)];exact hLt.out) hd hx (by rw [Nat.sub_add_cancel (by omega)];exact hLv.out) rfl hsm ht
   obtain ⟨s1,s2,s3,s4⟩ := hst
   have hdb := div_bd s1
   obtain ⟨q0,q1⟩ := hdb
   replace s3 := hide s3
   replace s4 := hide s4
   replace ht := hide ht
   clear hcc hLo q0 q1
   go_wp2
   go_roundw
   case rel =>
    rw [← Int.natCast_ediv,← Int.natCast_emod,u64_mod s1]
    refine ⟨k - 1,t % d,L.set (k - 1) (t / d),by omega,rfl,by go_num,s2,?_,?_,small_set hLs _ s1,s3,s4,Gb.set hgb (.inl rfl) _⟩
    ·show _ = _;rw [List.length_set];exact hLl.out
    ·have := World.ownsRow.stored (by have := hown;unfold Own at this;rw [hLl.out] at this;exact this) (k - 1) (.int .u32 ((t / d : Nat) : Int))
     unfold Own
     rw [List.length_set,hLl.out,List.map_set]
     exact this.1
   case measure => simp [intOf];omega
def Nat3 (q r : Nat) (w : World) (e : Ending) (w' : World) : Prop := ∃ (u v : Value),e = .returned (.tuple #[.agg #[u],.agg #[v],.int .i64 0]) ∧ NV w' u q ∧ NV w' v r ∧ Below w.heap.size w w'
theorem limbs_one {d : Nat} (h : 0 < d) (hd : d < 4294967296) : limbs d = [d] := by
 rw [limbs_pos (by omega),show d / 4294967296 = 0 by omega,limbs_zero,show d % 4294967296 = d by omega]
structure DivPre (W w2 : World) (aa ab : Option Addr) (m n ca cb : Nat) : Prop where
 bel : Below W.heap.size W w2
 size : W.heap.size + 1 + 1 + 1 < w2.heap.size
 c0 : w2.cell? ⟨W.heap.size,0,none⟩ = some (.slice aa (limbs m).length ca)
 c1 : w2.cell? ⟨W.heap.size + 1,0,none⟩ = some (.slice ab (limbs n).length cb)
 c2 : w2.cell? ⟨W.heap.size + 1 + 1,0,none⟩ = some (.slice none 0 0)
 c3 : w2.cell? ⟨W.heap.size + 1 + 1 + 1,0,none⟩ = some (.slice none 0 0)
 f2 : w2.frozen? ⟨W.heap.size + 1 + 1,0,none⟩ = false
 f3 : w2.frozen? ⟨W.heap.size + 1 + 1 + 1,0,none⟩ = false
theorem DivPre.keep {W w2 w3 : World} {aa ab : Option Addr} {m n ca cb : Nat} (h : DivPre W w2 aa ab m n ca cb) (hb : Below w2.heap.size w2 w3) : DivPre W w3 aa ab m n ca cb :=
 ⟨Bel.to h.bel hb,by have := h.size;have := hb.size;omega,Bel.cellOf hb h.c0,Bel.cellOf hb h.c1,Bel.cellOf hb h.c2,Bel.cellOf hb h.c3,Bel.frozenOf hb h.c2 h.f2,Bel.frozenOf hb h.c3 h.f3⟩
set_option maxHeartbeats 1000000 in
set_option maxRecDepth 100000 in
theorem divmod_small (va vb : Value) (m n : Nat) (w : World) (ha : NV w va m) (hb : NV w vb n) (hm : (limbs m).length ≤ 64) (hn0 : 0 < n) (hn : n < 4294967296) (hge : n ≤ m) :
  Calls Tryz.prog 105 #[.agg #[va],.agg #[vb]] w (Nat3 (m / n) (m % n) w) := by
 obtain ⟨cv,hcmp,hcv⟩ : ∃ cv,cmpN m n = cv ∧ ¬ cv < 0 := by
  refine ⟨_,rfl,?_⟩
  unfold cmpN;rw [if_neg (by omega)];split <;> omega
 have hl1 := limbs_one hn0 hn
 obtain ⟨aa,ca,rfl,hla,hca,hra⟩ := Rd.form ha
 obtain ⟨ab,cb,rfl,hlb,hcb,hrb⟩ := Rd.form hb
 have hrb1 : Rd U32 w (.slice ab 1 cb) [n] := by rw [hl1] at hrb;exact hrb
 obtain ⟨bb,offb,rfl,hbb,hcellb⟩ := hrb1.at_ (k := 0) (by simp)
 have cb0 := hcellb 0 (by simp)
 simp only [Nat.add_zero,List.getElem_cons_zero] at cb0
 clear hcellb hrb1
 have hl1' : (limbs n).length = 1 := by rw [hl1];rfl
 have hn64 : (limbs n).length ≤ 64 := by omega
 rw [hl1'] at hrb hb hlb ⊢
 replace hl1 := hide hl1
 replace hl1' := hide hl1'
 go_enter Tryz.func105,Tryz.ntmps105
 go_wp2_with fail
 refine (valid _ m _ (by exact (((ha.alloc _).alloc _).alloc _).alloc _) hm).mono ?_
 rintro e w1 ⟨rfl,hb1⟩
 have hp : DivPre w w1 aa (some ⟨bb,offb,none⟩) m n ca cb := ⟨Bel.to (Bel.al (Bel.al (Bel.al (Bel.al (Below.refl _ _) _) _) _) _) hb1,by have := hb1.size;simp at this;omega,Bel.cellOf hb1 (by go_simp),Bel.cellOf hb1 (by rw [hl1'.out];go_simp),Bel.cellOf hb1 (by go_simp),Bel.cellOf hb1 (by go_simp),Bel.frozenOf hb1 (v := .slice none 0 0) (by go_simp) (by go_simp),Bel.frozenOf hb1 (v := .slice none 0 0) (by go_simp) (by go_simp)⟩
 clear hb1
 have d1 := hp.c1
 rw [hl1'.out] at d1
 go_wp2_with fail
 refine (valid _ n _ (by exact hb.below hp.bel) hn64).mono ?_
 rintro e w2 ⟨rfl,hb2⟩
 replace hp := hp.keep hb2
 clear hb2 d1
 have d0 := hp.c0
 have d1 := hp.c1
 rw [hl1'.out] at d1
 go_wp2_with fail
 refine (compare_lists _ _ _ _ m n _ rfl rfl (by exact hra.below hp.bel) (by exact hrb.below hp.bel)).mono ?_
 rintro e w3 ⟨rfl,k,rfl⟩
 replace hp := hp.keep (Bel.drN (Below.refl _ _) k)
 clear d0 d1
 rw [hcmp]
 replace hcmp := hide hcmp
 have d0 := hp.c0
 have d1 := hp.c1
 rw [hl1'.out] at d1
 obtain ⟨w4,hw4⟩ : ∃ w4,w4 = w2.drewN k := ⟨_,rfl⟩
 rw [← hw4] at hp d0 d1 ⊢
 clear hw4
 go_wp2_with (with_reducible refine wpList_append_rd _ rfl _ _ 144 rfl (V := U32) (fun _ => rfl) w.heap.size 166 (.int .u32 0) 4 Tryz.underlying144 infoU32' rfl (.slice none 0 0) [] rfl (Own.nil _ _ _) _ (limbs m) rfl ?_ ?_ ?_ ?_ ?_)
 case refine_1 => exact hra.below hp.bel
 case refine_2 => simp;omega
 case refine_3 => simp;omega
 case refine_4 => exact hp.bel.size
 intro v5 w5 hown5 hg5 hv5
 have hmpos : m ≠ 0 := by omega
 have hlm : 0 < (limbs m).length := by rw [limbs_pos hmpos];simp
 obtain ⟨g,cap,rfl,hgb,hgl⟩ := hown5.form hlm
 have hgw : g = w4.heap.size := by
  rcases hv5 with h | h
  ·simp [Value.ownBlock] at h
  ·simpa [Value.ownBlock] using h
 replace hgw := hide hgw
 have hb45 : Below w4.heap.size w4 w5 := (Below.refl _ _).grown hg5 (Nat.le_refl _) (by simp [Value.ownBlock])
 have hp4 := hp
 replace hp := hp.keep hb45
 clear d0 d1 hg5 hv5
 have d1 := hp.c1
 rw [hl1'.out] at d1
 have cb5 := Bel.cellOf hp.bel cb0
 go_wp2_with fail
 refine (divideSmall g cap w.heap.size (limbs m) n _ (by exact hown5) (small_limbs m) hn0 hn (by omega)).mono ?_
 rintro e w6 ⟨rfl,⟨q,hown6,hql,hqs,hqv⟩,hg6⟩
 rw [val_limbs] at hqv ⊢
 replace hqv := hide hqv
 replace hql := hide hql
 have hb46 : Below w4.heap.size w4 w6 := hb45.grown hg6 hb45.size (fun k hk => by injection hk with hk;have := hgw.out;omega)
 replace hp := hp4.keep hb46
 clear d1 cb5
 go_wp2_with fail
 refine (trimmed _ q _ (by exact hown6.rd) hqs).mono ?_
 rintro e w7 ⟨u,rfl,hu,hb7⟩
 rw [hqv.out] at hu
 replace hp := hp.keep hb7
 have hmod : m % n < 4294967296 := by have := Nat.mod_lt m hn0;omega
 go_wp2_with fail
 refine (of_any (m % n) _ (by omega)).mono ?_
 rintro e w8 ⟨v,rfl,hv,hb8⟩
 replace hp := hp.keep hb8
 replace hu := hu.below hb8
 have hu1 := hu.setNe hp.c2 (fun _ h => by cases h) u
 have hv1 := hv.setNe hp.c2 (fun _ h => by cases h) u
 have c3' : (w8.setCell ⟨w.heap.size + 1 + 1,0,none⟩ u).cell? ⟨w.heap.size + 1 + 1 + 1,0,none⟩ = some (.slice none 0 0) := by
  have := hp.c3;go_simp
 have hu2 := hu1.setNe c3' (fun _ h => by cases h) v
 have hv2 := hv1.setNe c3' (fun _ h => by cases h) v
 have hbel := Bel.st (Bel.st hp.bel (p := ⟨w.heap.size + 1 + 1,0,none⟩) (by simp only [];omega) u) (p := ⟨w.heap.size + 1 + 1 + 1,0,none⟩) (by simp only [];omega) v
 have e2 := hp.c2
 have e3 := hp.c3
 have g2 := hp.f2
 have g3 := hp.f3
 obtain ⟨ao,n0,cp,rfl⟩ := Rd.shape hu
 obtain ⟨ao',n0',cp',rfl⟩ := Rd.shape hv
 go_wp2
 refine bodyPost_ret (v := .tuple #[.agg #[.slice ao n0 cp],.agg #[.slice ao' n0' cp'],.int .i64 0]) (by simp [results,Tryz.results105,go_sem,e2,e3]) rfl ⟨_,_,rfl,hu2,hv2,hbel⟩
theorem of_int (x : Int) (w : World) (h0 : 0 ≤ x) (h : x < 18446744073709551616) : Calls Tryz.prog 103 #[.int .u64 x] w (SomeNat x.toNat w) := by
 obtain ⟨n,rfl⟩ := Int.eq_ofNat_of_zero_le h0
 exact of_any n w (by omega)
theorem mul_any (va vb : Value) (m n : Nat) (w : World) (ha : NV w va m) (hb : NV w vb n) (hm : (limbs m).length ≤ 64) (hn : (limbs n).length ≤ 64) :
  Calls Tryz.prog 104 #[.agg #[va],.agg #[vb]] w (Nat2 (m * n) w) := mul_core va vb _ _ m n w rfl rfl ha hb hm hn
theorem known_any (n : Int) (w : World) : Calls Tryz.prog 87 #[.int .i64 n] w fun e w' => e = .returned (.bool (decide (0 ≤ n ∧ n ≤ 80))) ∧ w = w' := by
 by_cases h1 : 0 ≤ n
 ·by_cases h2 : n ≤ 80
  ·have h : decide (0 ≤ n ∧ n ≤ 80) = true := by simp;omega
   rw [h]
   go_enter Tryz.func87,Tryz.ntmps87
   go_wp2
   go_ret
   exact ⟨rfl,rfl⟩
  ·have h : decide (0 ≤ n ∧ n ≤ 80) = false := by simp;omega
   rw [h]
   go_enter Tryz.func87,Tryz.ntmps87
   go_wp2
   go_ret
   exact ⟨rfl,rfl⟩
 ·have h : decide (0 ≤ n ∧ n ≤ 80) = false := by simp;omega
  rw [h]
  go_enter Tryz.func87,Tryz.ntmps87
  go_wp2
  go_ret
  exact ⟨rfl,rfl⟩
def NatC (r : Nat) (c : Int) (w : World) (e : Ending) (w' : World) : Prop := ∃ u,e = .returned (.tuple #[.agg #[u],.int .i64 c]) ∧ NV w' u r ∧ Below w.heap.size w w'
theorem NV.zero (w : World) : NV w (.slice none 0 0) 0 := by
 show Rd U32 _ _ (limbs 0)
 rw [limbs_zero]
 exact Rd.nil
theorem choose_range (n k : Int) (w : World) (h : ¬ (0 ≤ n ∧ n ≤ 80)) : Calls Tryz.prog 78 #[.int .i64 n,.int .i64 k] w (NatC 0 2 w) := by
 have hd : decide (0 ≤ n ∧ n ≤ 80) = false := decide_eq_false h
 go_enter Tryz.func78,Tryz.ntmps78
 go_wp2_with fail
 refine (known_any _ _).mono ?_
 rintro e w' ⟨rfl,rfl⟩
 rw [hd]
 clear hd h
 go_wp2
 refine bodyPost_ret (v := .tuple #[.agg #[.slice none 0 0],.int .i64 2]) (by simp [results,Tryz.results78,go_sem]) rfl ⟨_,rfl,NV.zero _,Bel.al (Below.refl _ _) _⟩
theorem choose_out (n k : Int) (w : World) (h : 0 ≤ n ∧ n ≤ 80) (hk : k < 0 ∨ n < k) : Calls Tryz.prog 78 #[.int .i64 n,.int .i64 k] w (NatC 0 0 w) := by
 have hd : decide (0 ≤ n ∧ n ≤ 80) = true := decide_eq_true h
 have fin : ∀ (w1 : World) (u : Value),NV w1 u 0 → Below (w.alloc (Obj.cells #[.slice none 0 0] 146)).heap.size (w.alloc (Obj.cells #[.slice none 0 0] 146)) w1 →
   NV (w1.setCell ⟨w.heap.size,0,none⟩ u) u 0 ∧ Below w.heap.size w (w1.setCell ⟨w.heap.size,0,none⟩ u) ∧ w1.cell? ⟨w.heap.size,0,none⟩ = some (.slice none 0 0) ∧ w1.frozen? ⟨w.heap.size,0,none⟩ = false := by
  intro w1 u hu hb
  have c1 : w1.cell? ⟨w.heap.size,0,none⟩ = some (.slice none 0 0) := Bel.cellOf hb (by go_simp)
  exact ⟨hu.setNe c1 (fun _ h => by cases h) u,Bel.st (Bel.one _ hb) (Nat.le_refl _) u,c1,Bel.frozenOf hb (v := .slice none 0 0) (by go_simp) (by go_simp)⟩
 replace fin := hide fin
 by_cases hk0 : k < 0
 all_goals
  clear h
  first | (have hk1 : n < k := by omega) | skip
  clear hk
  go_enter Tryz.func78,Tryz.ntmps78
  go_wp2_with fail
  refine (known_any _ _).mono ?_
  rintro e w' ⟨rfl,rfl⟩
  rw [hd]
  go_wp2_with fail
  refine (of_int _ _ (by omega) (by omega)).mono ?_
  rintro e w1 ⟨u,rfl,hu,hb⟩
  obtain ⟨r1,r2,r3,r4⟩ := fin.out w1 u hu hb
  obtain ⟨ao,n0,cp,rfl⟩ := Rd.shape hu
  go_wp2
  refine bodyPost_ret (v := .tuple #[.agg #[.slice ao n0 cp],.int .i64 0]) (by simp [results,Tryz.results78,go_sem,r3]) rfl ⟨_,rfl,r1,r2⟩
structure ChSt (W w : World) (b6 : Nat) (vc : Value) (c : Nat) : Prop where
 bel : Below W.heap.size W w
 lt : W.heap.size < b6
 c4 : w.cell? ⟨W.heap.size,0,none⟩ = some (.slice none 0 0)
 f4 : w.frozen? ⟨W.heap.size,0,none⟩ = false
 c6 : w.cell? ⟨b6,0,none⟩ = some vc
 f6 : w.frozen? ⟨b6,0,none⟩ = false
 nv : NV w vc c
theorem ChSt.keep {W w w' : World} {b6 : Nat} {vc : Value} {c : Nat} (h : ChSt W w b6 vc c) (hb : Below w.heap.size w w') : ChSt W w' b6 vc c :=
 ⟨Bel.to h.bel hb,h.lt,Bel.cellOf hb h.c4,Bel.frozenOf hb h.c4 h.f4,Bel.cellOf hb h.c6,Bel.frozenOf hb h.c6 h.f6,h.nv.below hb⟩
theorem ChSt.set {W w : World} {b6 pb : Nat} {vc : Value} {c : Nat} (h : ChSt W w b6 vc c) (hb : b6 < pb) (hc : w.cell? ⟨pb,0,none⟩ = some (.slice none 0 0)) (u : Value) : ChSt W (w.setCell ⟨pb,0,none⟩ u) b6 vc c := by
 have hl := h.lt
 refine ⟨Bel.st h.bel (by simp only [];omega) u,h.lt,cell_far h.c4 (by simp only [];omega) u,?_,cell_far h.c6 (by simp only [];omega) u,?_,h.nv.setNe hc (fun _ h => by cases h) u⟩
 ·rw [World.frozen?_of_block (w := w) (Below.heap_setCell _ _ _ _ (by simp only [];omega))];exact h.f4
 ·rw [World.frozen?_of_block (w := w) (Below.heap_setCell _ _ _ _ (by simp only [];omega))];exact h.f6
theorem ChSt.put {W w : World} {b6 : Nat} {ao : Option Addr} {n cap : Nat} {c c' : Nat} (h : ChSt W w b6 (.slice ao n cap) c) {u : Value} (hu : NV w u c') : ChSt W (w.setCell ⟨b6,0,none⟩ u) b6 u c' := by
 have hl := h.lt
 refine ⟨Bel.st h.bel (by simp only [];omega) u,h.lt,cell_far h.c4 (by simp only [];omega) u,?_,set_cell h.c6 u,?_,hu.setNe h.c6 (fun _ h => by cases h) u⟩
 ·rw [World.frozen?_of_block (w := w) (Below.heap_setCell _ _ _ _ (by simp only [];omega))];exact h.f4
 ·rw [World.frozen?_setCell];exact h.f6
set_option maxHeartbeats 1000000 in
set_option maxRecDepth 100000 in
theorem choose_in (n k : Nat) (w : World) (hn : n ≤ 80) (hk : k ≤ n) : Calls Tryz.prog 78 #[.int .i64 (n : Int),.int .i64 (k : Int)] w (NatC (choose n k) 0 w) := by
 have hd : decide ((0 : Int) ≤ (n : Int) ∧ (n : Int) ≤ 80) = true := decide_eq_true (by omega)
 go_enter Tryz.func78,Tryz.ntmps78
 go_wp2_with fail
 refine (known_any _ _).mono ?_
 rintro e w' ⟨rfl,rfl⟩
 rw [hd]
 clear hd
 go_wp2_with fail
 refine (of_int _ _ (by omega) (by omega)).mono ?_
 rintro e w1 ⟨u,rfl,hu,hb⟩
 have c1 : w1.cell? ⟨w.heap.size,0,none⟩ = some (.slice none 0 0) := Bel.cellOf hb (by go_simp)
 have f1 : w1.frozen? ⟨w.heap.size,0,none⟩ = false := Bel.frozenOf hb (v := .slice none 0 0) (by go_simp) (by go_simp)
 have hb1 := Bel.one _ hb
 have hz : w.heap.size < w1.heap.size := by have := hb.size;simp at this;omega
 clear hb
 obtain ⟨ao,n0,cp,rfl⟩ := Rd.shape hu
 go_wp2
 obtain ⟨b6,hb6⟩ : ∃ b6,b6 = w1.heap.size := ⟨_,rfl⟩
 have hst : ChSt w (w1.alloc (.cells #[.slice ao n0 cp] 146)) b6 (.slice ao n0 cp) (choose (n - k + 1 - 1) (1 - 1)) := by
  subst hb6
  refine ⟨Bel.al hb1 _,hz,by go_simp,by go_simp,by go_simp,by go_simp,?_⟩
  rw [Nat.sub_self,choose_zero]
  exact hu.alloc _
 rw [← hb6]
 clear hu hb6
 have hk' : (k : Int) ≤ (n : Int) := by omega
 go_loopg [7] k (fun g t wr => ∃ (i : Nat) (ao : Option Addr) (n0 cp : Nat),g = k + 1 - i ∧ 1 ≤ i ∧ i ≤ k + 1 ∧ t = .int .i64 i ∧ ChSt w wr b6 (.slice ao n0 cp) (choose (n - k + i - 1) (i - 1)))
 case atStart => exact ⟨1,_,_,_,by omega,Nat.le_refl _,by omega,rfl,hst⟩
 case round =>
  obtain ⟨i,ao,n0,cp,hgk,hi1,hik,rfl,hst⟩ := hrel
  replace hgk := hide hgk
  have c6 := hst.c6
  have hb6 : b6 < wr.heap.size := World.block_lt_of_cell? wr ⟨b6,0,none⟩ c6
  have hbig : choose (n - k + i - 1) (i - 1) ≤ 1208925819614629174706176 := choose_lt_80 (by omega)
  by_cases hik' : i ≤ k
  ·have hne : n - k + i - 1 + 1 = n - k + i := by omega
   have hprod : choose (n - k + i - 1) (i - 1) * (n - k + i) = choose (n - k + i) i * i := by
    have := choose_mul (n - k + i - 1) (i - 1)
    rw [hne,Nat.sub_add_cancel hi1] at this
    exact this.symm
   have hlim1 : (limbs (choose (n - k + i - 1) (i - 1))).length ≤ 64 := by have := limbs_le_three (n := choose (n - k + i - 1) (i - 1)) (by omega);omega
   have hlim2 : (limbs (n - k + i)).length ≤ 64 := by have := limbs_le_three (n := n - k + i) (by omega);omega
   have hpb : choose (n - k + i - 1) (i - 1) * (n - k + i) ≤ 1208925819614629174706176 * 80 := Nat.mul_le_mul hbig (by omega)
   have hlim3 : (limbs (choose (n - k + i) i * i)).length ≤ 64 := by rw [← hprod];have := limbs_le_three (n := choose (n - k + i - 1) (i - 1) * (n - k + i)) (by omega);omega
   replace hprod := hide hprod
   replace hne := hide hne
   obtain ⟨c,hc⟩ : ∃ c,c = choose (n - k + i - 1) (i - 1) := ⟨_,rfl⟩
   rw [← hc] at hst hprod hlim1 hbig hpb
   replace hc := hide hc
   have hcz := choose_pos (n := n - k + i) (k := i) (by omega)
   clear hbig hpb
   have hni : ((n : Int) - k + i).toNat = n - k + i := by omega
   replace hni := hide hni
   have a1 : IntKind.i64.wrap ((n : Int) - k) = (n : Int) - k := IntWalk.i64_in _ (by omega)
   have a2 : IntKind.i64.wrap ((n : Int) - k + i) = (n : Int) - k + i := IntWalk.i64_in _ (by omega)
   have a3 : IntKind.u64.wrap ((n : Int) - k + i) = (n : Int) - k + i := IntWalk.u64_in _ (by omega)
   go_upto_region 9 with (fail)
   go_cut [8,9] (fun p cd W => ∃ (pb : Nat) (ap : Option Addr) (np cpp : Nat),p = .pointer (some ⟨pb,0,none⟩) ∧ cd = .int .i64 0 ∧ ChSt w W b6 (.slice ao n0 cp) c ∧ W.cell? ⟨pb,0,none⟩ = some (.slice ap np cpp) ∧ NV W (.slice ap np cpp) (choose (n - k + i) i * i) ∧ b6 < pb)
   case first =>
    go_region_held3 (fun W => W.cell? ⟨b6,0,none⟩ = some (.slice ao n0 cp)) (first | go_keep | (refine cell_far c63 ?_ _;simp only [];omega)) (first
     | (go_at_call 103;refine (of_int _ _ ?_ ?_).mono ?_;(omega);(omega);rintro e w2 ⟨uo,rfl,huo,hbo⟩;obtain ⟨hc2,hf2⟩ := bcell hbo;have hz2 := hbo.size;(try simp at hz2);have hn2 : NV w2 (.slice ao n0 cp) c := (by first | exact Rd.below (Rd.drew hst.nv) hbo | exact Rd.below (Rd.alloc (Rd.drew hst.nv) _) hbo);have c62 : w2.cell? ⟨b6,0,none⟩ = some (.slice ao n0 cp) := (by first | exact Bel.cellOf hbo c6 | exact Bel.cellOf hbo (cell_alloc c6 _));(try have c8o : w2.cell? ⟨wr.heap.size,0,none⟩ = some (.slice none 0 0) := Bel.cellOf hbo (new_cell wr _ _));(try have f8o : w2.frozen? ⟨wr.heap.size,0,none⟩ = false := Bel.frozenOf hbo (new_cell wr _ _) (new_frozen wr _ _)))
     | (go_at_call 104;refine (mul_any _ _ c (n - k + i) _ ?_ ?_ ?_ ?_).mono ?_;(first | exact hn2 | exact hn2.alloc _);(rw [← hni.out];first | exact huo | exact huo.alloc _);(exact hlim1);(exact hlim2);rintro e w3 ⟨u3,cd3,rfl,hcd3,hu3,hb3⟩;obtain ⟨hc3,hf3⟩ := bcell hb3;have hz3 := hb3.size;(try simp at hz3);have c63 : w3.cell? ⟨b6,0,none⟩ = some (.slice ao n0 cp) := (by first | exact Bel.cellOf hb3 c62 | exact Bel.cellOf hb3 (cell_alloc c62 _));(try have f8m := Bel.frozenOf hb3 c8o f8o);(try have c8m := Bel.cellOf hb3 c8o);(try have c8m : w3.cell? ⟨w2.heap.size,0,none⟩ = some (.slice none 0 0) := Bel.cellOf hb3 (new_cell w2 _ _));(try have f8m : w3.frozen? ⟨w2.heap.size,0,none⟩ = false := Bel.frozenOf hb3 (new_cell w2 _ _) (new_frozen w2 _ _));obtain ⟨ao3,n3,cp3,rfl⟩ := Rd.shape hu3))
    all_goals go_wp2_with fail
    all_goals
     go_meet
     have e0 : cd3 = 0 := by rw [hcd3.out,hprod.out,if_pos hlim3]
     rw [hprod.out,if_pos hlim3] at hu3
     rw [e0]
     have hst1 : ChSt w wr.drew b6 (.slice ao n0 cp) c := hst.keep (Below.refl _ _).drew
     first
      | exact ⟨w3.heap.size,_,_,_,rfl,rfl,((hst1.keep hbo).keep hb3).keep (Bel.al (Below.refl _ _) _),new_cell _ _ _,hu3.alloc _,by omega⟩
      | exact ⟨w2.heap.size,_,_,_,rfl,rfl,((((hst1.keep hbo)).keep (Bel.al (Below.refl _ _) _)).keep hb3).set (by omega) c8m _,set_cell c8m _,hu3.setNe c8m (fun _ h => by cases h) _,by omega⟩
      | exact ⟨wr.heap.size,_,_,_,rfl,rfl,(((hst1.keep (Bel.al (Below.refl _ _) _)).keep hbo).keep hb3).set (by omega) c8m _,set_cell c8m _,hu3.setNe c8m (fun _ h => by cases h) _,by omega⟩
   case rest =>
    obtain ⟨pb,ap,np,cpp,rfl,rfl,hst2,cpb,hp,hpb6⟩ := hcut
    have a4 : IntKind.u64.wrap (i : Int) = (i : Int) := IntWalk.u64_in _ (by omega)
    have hii : ((i : Int)).toNat = i := by omega
    replace hii := hide hii
    have e6 := hst2.c6
    have f6 := hst2.f6
    have hge : i ≤ choose (n - k + i) i * i := Nat.le_mul_of_pos_left i hcz
    have hq : choose (n - k + i) i * i / i = choose (n - k + i) i := Nat.mul_div_cancel _ (by omega)
    replace hge := hide hge
    replace hq := hide hq
    clear hst c6
    go_wp2_with fail
    go_region_held3 (fun W => W.cell? ⟨pb,0,none⟩ = some (.slice ap np cpp)) (first | go_keep | (refine cell_far cp5 ?_ _;simp only [];omega)) (first
     | (go_at_call 103;refine (of_int _ _ ?_ ?_).mono ?_;(omega);(omega);rintro e w4 ⟨ui,rfl,hui,hb4⟩;have st4 := (hst2.keep (Below.refl _ _).drew).keep hb4;have hp4 : NV w4 (.slice ap np cpp) _ := Rd.below (Rd.drew hp) hb4;have cp4 := Bel.cellOf hb4 cpb)
     | (go_at_call 105;refine (divmod_small _ _ (choose (n - k + i) i * i) i _ ?_ ?_ ?_ ?_ ?_ ?_).mono ?_;(exact hp4);(rw [← hii.out];exact hui);(exact hlim3);(omega);(omega);(exact hge.out);rintro e w5 ⟨uq,ur,rfl,huq,hur,hb5⟩;have st5 := st4.keep hb5;have e65 := st5.c6;have f65 := st5.f6;have cp5 := Bel.cellOf hb5 cp4;obtain ⟨aq,nq,cq,rfl⟩ := Rd.shape huq))
    rw [hq.out] at huq
    have st6 := st5.put huq
    go_wp2
    go_roundg (k + 1 - (i + 1))
    case measure => have := hgk.out;omega
    case rel =>
     refine ⟨i + 1,aq,nq,cq,rfl,by omega,by omega,by go_num,?_⟩
     rw [show n - k + (i + 1) - 1 = n - k + i by omega,Nat.add_sub_cancel]
     exact st6
  ·have hik2 : i = k + 1 := by omega
   have hnv := hst.nv
   rw [hik2] at hnv
   rw [show n - k + (k + 1) - 1 = n by omega,Nat.add_sub_cancel] at hnv
   replace hik2 := hide hik2
   have c4 := hst.c4
   have f4 := hst.f4
   have hl := hst.lt
   have hfin := hnv.setNe c4 (fun _ h => by cases h) (.slice ao n0 cp)
   have hbel := Bel.st hst.bel (p := ⟨w.heap.size,0,none⟩) (Nat.le_refl _) (.slice ao n0 cp)
   go_wp2
   refine bodyPost_ret (v := .tuple #[.agg #[.slice ao n0 cp],.int .i64 0]) (by simp [results,Tryz.results78,go_sem,c4]) rfl ⟨_,rfl,hfin,hbel⟩
def UintR (x : Nat) (b : Bool) (w : World) (e : Ending) (w' : World) : Prop := e = .returned (.tuple #[.int .u64 x,.bool b]) ∧ Below w.heap.size w w'
set_option maxHeartbeats 1000000 in
theorem uint_no (v : Value) (n : Nat) (w : World) (h : NV w v n) (hn : (limbs n).length ≤ 64) (h2 : 2 < (limbs n).length) :
  Calls Tryz.prog 106 #[.agg #[v]] w (UintR 0 false w) := by
 obtain ⟨ao,cap,rfl,hlc,hcm,hr⟩ := Rd.form h
 go_enter Tryz.func106,Tryz.ntmps106
 go_wp2_with fail
 refine (valid _ n _ (by exact h.alloc _) hn).mono ?_
 rintro e w1 ⟨rfl,hb1⟩
 have c1 : w1.cell? ⟨w.heap.size,0,none⟩ = some (.slice ao (limbs n).length cap) := Bel.cellOf hb1 (by go_simp)
 go_wp2
 go_ret2
 exact ⟨rfl,Bel.one _ hb1⟩
set_option maxHeartbeats 1000000 in
theorem uint_yes (v : Value) (n : Nat) (w : World) (h : NV w v n) (h2 : (limbs n).length ≤ 2) :
  Calls Tryz.prog 106 #[.agg #[v]] w (UintR n true w) := by
 have hv := hide (val_limbs n)
 obtain ⟨ao,cap,rfl,hlc,hcm,hr⟩ := Rd.form h
 have hs := small_limbs n
 go_enter Tryz.func106,Tryz.ntmps106
 go_wp2_with fail
 refine (valid _ n _ (by exact h.alloc _) (by omega)).mono ?_
 rintro e w1 ⟨rfl,hb1⟩
 have c1 : w1.cell? ⟨w.heap.size,0,none⟩ = some (.slice ao (limbs n).length cap) := Bel.cellOf hb1 (by go_simp)
 have hbw := Bel.one _ hb1
 clear hb1 h
 obtain ⟨l,hl⟩ : ∃ l,l = limbs n := ⟨_,rfl⟩
 rw [← hl] at hr hs h2 hlc c1 hv ⊢
 clear hl
 go_wp2
 go_loop [4,19] (fun t i => ∃ k : Nat,k ≤ l.length ∧ i = .int .i64 k ∧ t = .int .u64 (val (l.take k))) (fun _ i => l.length - (intOf i).toNat)
 case atStart => exact ⟨0,Nat.zero_le _,rfl,rfl⟩
 case round =>
  obtain ⟨k,hk,rfl,rfl⟩ := hrel
  by_cases hkl : k < l.length
  ·obtain ⟨b,off,rfl,hb,hc⟩ := hr.at_ hkl
   have d1 := Bel.cellOf hbw (hc k hkl)
   have hx := small_get hs hkl
   have hts := val_take_succ l k hkl
   clear hc
   by_cases hk0 : k = 0
   ·subst hk0
    have e1 : val (l.take (0 + 1)) = l[0] := by rw [hts];simp [val]
    have e0 : val (l.take 0) = 0 := by simp [val]
    replace e1 := hide e1
    rw [e0]
    have ho := or_zero hx
    simp only [Nat.add_zero] at d1
    clear hts e0
    go_wp2
    go_round
    case rel => exact ⟨0 + 1,by omega,by go_num,by rw [e1.out]⟩
    case measure => simp [intOf];omega
   ·obtain rfl : k = 1 := by omega
    have e0 : val (l.take 1) = l[0] := by rw [val_take_succ l 0 (by omega)];simp [val]
    have hx0 := small_get hs (i := 0) (by omega)
    have ho := or_high hx0 hx
    have e1 : val (l.take (1 + 1)) = l[0] + 4294967296 * l[1] := by rw [hts,e0]
    replace e1 := hide e1
    rw [e0]
    clear hts e0
    go_wp2
    go_round
    case rel => exact ⟨1 + 1,by omega,by go_num,by rw [e1.out];simp⟩
    case measure => simp [intOf];omega
  ·have ek : k = l.length := by omega
   subst ek
   rw [List.take_length,hv.out]
   go_wp2
   go_ret2
   exact ⟨rfl,hbw⟩
def IntC (x c : Int) (w : World) (e : Ending) (w' : World) : Prop := e = .returned (.tuple #[.int .i64 x,.int .i64 c]) ∧ Below w.heap.size w w'
theorem narrow_ok (v : Value) (n : Nat) (w : World) (h : NV w v n) (hn : n ≤ 9223372036854775807) :
    Calls Tryz.prog 79 #[.agg #[v]] w (IntC n 0 w) := by
  obtain ⟨ao, n0, cap, rfl⟩ := Rd.shape h
  have hl : (limbs n).length ≤ 2 := length_limbs_lt.1 (by have : (4294967296 : Nat) ^ 2 = 18446744073709551616 := by decide
                                                          omega)
  go_enter Tryz.func79, Tryz.ntmps79
  go_wp2_with fail
  refine (uint_yes _ n _ (by exact h.alloc _) hl).mono ?_
  rintro e w1 ⟨rfl, hb1⟩
  go_wp2
  go_ret2
  exact ⟨rfl, Bel.one _ hb1⟩
theorem narrow_over (v : Value) (n : Nat) (w : World) (h : NV w v n) (hl : (limbs n).length ≤ 64) (hn : 9223372036854775807 < n) :
  Calls Tryz.prog 79 #[.agg #[v]] w (IntC 0 9 w) := by
 obtain ⟨ao,n0,cap,rfl⟩ := Rd.shape h
 by_cases hl2 : (limbs n).length ≤ 2
 ·have hlt := length_limbs_lt.2 hl2
  have : (4294967296 : Nat) ^ 2 = 18446744073709551616 := by decide
  rw [this] at hlt
  clear this
  go_enter Tryz.func79,Tryz.ntmps79
  go_wp2_with fail
  refine (uint_yes _ n _ (by exact h.alloc _) hl2).mono ?_
  rintro e w1 ⟨rfl,hb1⟩
  go_wp2
  go_ret2
  exact ⟨rfl,Bel.one _ hb1⟩
 ·go_enter Tryz.func79,Tryz.ntmps79
  go_wp2_with fail
  refine (uint_no _ n _ (by exact h.alloc _) hl (by omega)).mono ?_
  rintro e w1 ⟨rfl,hb1⟩
  go_wp2
  go_ret2
  exact ⟨rfl,Bel.one _ hb1⟩
theorem choose_ok (n k : Int) (w : World) (h : 0 ≤ n ∧ n ≤ 80) : Calls Tryz.prog 78 #[.int .i64 n,.int .i64 k] w (NatC (chooseI n k) 0 w) := by
 unfold chooseI
 obtain ⟨h1,h2⟩ := h
 obtain ⟨n,rfl⟩ := Int.eq_ofNat_of_zero_le h1
 by_cases hk : k < 0
 ·rw [if_pos hk]
  exact choose_out _ _ w ⟨h1,h2⟩ (.inl hk)
 ·rw [if_neg hk]
  obtain ⟨k,rfl⟩ := Int.eq_ofNat_of_zero_le (show 0 ≤ k by omega)
  rw [Int.toNat_natCast,Int.toNat_natCast]
  by_cases hkn : k ≤ n
  ·exact choose_in n k w (by omega) hkn
  ·rw [choose_gt (by omega)]
   exact choose_out _ _ w ⟨h1,h2⟩ (.inr (by omega))
theorem chooseI_lt (n k : Int) (h : n ≤ 80) : chooseI n k ≤ 1208925819614629174706176 := by
 unfold chooseI
 split
 ·omega
 ·exact choose_lt_80 (by omega)
theorem chooseI_limbs (n k : Int) (h : n ≤ 80) : (limbs (chooseI n k)).length ≤ 64 := by
 have := limbs_le_three (n := chooseI n k) (by have := chooseI_lt n k h;omega)
 omega
theorem count_range (n k : Int) (w : World) (h : ¬ (0 ≤ n ∧ n ≤ 80)) : Calls Tryz.prog 49 #[.int .i64 n,.int .i64 k] w (IntC 0 2 w) := by
 go_enter Tryz.func49,Tryz.ntmps49
 go_wp2_with fail
 refine (choose_range n k _ h).mono ?_
 rintro e w1 ⟨u,rfl,hu,hb⟩
 obtain ⟨ao,n0,cap,rfl⟩ := Rd.shape hu
 clear h
 go_wp2
 go_ret2
 exact ⟨rfl,Bel.al hb _⟩
theorem count_ok (n k : Int) (w : World) (h : 0 ≤ n ∧ n ≤ 80) (hx : chooseI n k ≤ 9223372036854775807) : Calls Tryz.prog 49 #[.int .i64 n,.int .i64 k] w (IntC (chooseI n k) 0 w) := by
 go_enter Tryz.func49,Tryz.ntmps49
 go_wp2_with fail
 refine (choose_ok n k _ h).mono ?_
 rintro e w1 ⟨u,rfl,hu,hb⟩
 obtain ⟨ao,n0,cap,rfl⟩ := Rd.shape hu
 clear h
 go_wp2_with fail
 refine (narrow_ok _ (chooseI n k) _ (by exact hu.alloc _) hx).mono ?_
 rintro e w2 ⟨rfl,hb2⟩
 go_wp2
 go_ret2
 exact ⟨rfl,Bel.to (Bel.al hb _) hb2⟩
theorem count_over (n k : Int) (w : World) (h : 0 ≤ n ∧ n ≤ 80) (hx : 9223372036854775807 < chooseI n k) : Calls Tryz.prog 49 #[.int .i64 n,.int .i64 k] w (IntC 0 9 w) := by
 have hl := chooseI_limbs n k h.2
 go_enter Tryz.func49,Tryz.ntmps49
 go_wp2_with fail
 refine (choose_ok n k _ h).mono ?_
 rintro e w1 ⟨u,rfl,hu,hb⟩
 obtain ⟨ao,n0,cap,rfl⟩ := Rd.shape hu
 clear h
 go_wp2_with fail
 refine (narrow_over _ (chooseI n k) _ (by exact hu.alloc _) hl hx).mono ?_
 rintro e w2 ⟨rfl,hb2⟩
 go_wp2
 go_ret2
 exact ⟨rfl,Bel.to (Bel.al hb _) hb2⟩
def countV (n k : Int) : Int × Int := if 0 ≤ n ∧ n ≤ 80 then (if chooseI n k ≤ 9223372036854775807 then (chooseI n k,0) else (0,9)) else (0,2)
theorem count_any (n k : Int) (w : World) : Calls Tryz.prog 49 #[.int .i64 n,.int .i64 k] w (IntC (countV n k).1 (countV n k).2 w) := by
 unfold countV
 by_cases h : 0 ≤ n ∧ n ≤ 80
 ·rw [if_pos h]
  by_cases hx : chooseI n k ≤ 9223372036854775807
  ·rw [if_pos hx];exact count_ok n k w h hx
  ·rw [if_neg hx];exact count_over n k w h (by omega)
 ·rw [if_neg h];exact count_range n k w h
end Go.Proofs.YtelgllgaofjgjaaGreat
end
section
set_option linter.unusedVariables false
namespace Go.Proofs.YtelgllgaofjgjaaGreat
def chooseF : Nat → Nat → Nat
 | _,0 => 1
 | 0,_ + 1 => 0
 | n + 1,k + 1 => chooseF n k * (n + 1) / (k + 1)
theorem choose_fast (n k : Nat) : choose n k = chooseF n k := by
 induction n generalizing k with
 | zero => cases k <;> rfl
 | succ n ih => cases k with
  | zero => rw [choose_zero];rfl
  | succ k =>
   have := choose_mul n k
   rw [chooseF,← ih,← this,Nat.mul_div_cancel _ (by omega)]
end Go.Proofs.YtelgllgaofjgjaaGreat
end
section
open Go.RowKit
set_option linter.unusedVariables false
set_option linter.unusedSimpArgs false
namespace Go.Proofs.YtelgllgaofjgjaaGreat
theorem drop_len {α : Type} {l : List α} {k : Nat} (h : ¬ k < l.length) : l.drop k = [] := List.drop_of_length_le (by omega)
set_option maxHeartbeats 1000000 in
theorem check_any (v : Value) (l : List Int) (n : Int) (w : World) (h : Rd I64 w v l) : Calls Tryz.prog 110 #[v,.int .i64 n] w (Pure (.int .i64 (checkL n 0 l)) w) := by
 obtain ⟨ao,cap,rfl,hlc,hcm,hr⟩ := Rd.form h
 have hcm' : cap ≤ 9223372036854775807 := by unfold maxLen at hcm;omega
 go_enter Tryz.func110,Tryz.ntmps110
 go_wp2
 go_loop [5,10] (fun t i => ∃ (k : Nat) (last : Int),k ≤ l.length ∧ i = .int .i64 k ∧ t = .int .i64 last ∧ Hid (checkL n last (l.drop k) = checkL n 0 l)) (fun _ i => l.length - (intOf i).toNat)
 case atStart => exact ⟨0,0,Nat.zero_le _,rfl,rfl,rfl⟩
 case round =>
  obtain ⟨k,last,hk,rfl,rfl,hv⟩ := hrel
  by_cases hkl : k < l.length
  ·obtain ⟨b,off,rfl,hb,hc⟩ := hr.at_ hkl
   have d1 := hc k hkl
   have hv1 := hv.out
   rw [List.drop_eq_getElem_cons hkl,checkL] at hv1
   clear hc hv
   by_cases h1 : l[k] < 1
   ·rw [if_pos (.inl h1)] at hv1
    have hv2 := hide hv1
    clear hv1
    go_wp2
    go_ret
    exact ⟨by rw [← hv2.out];rfl,rfl⟩
   ·by_cases h2 : n < l[k]
    ·rw [if_pos (.inr h2)] at hv1
     have hv2 := hide hv1
     clear hv1
     go_wp2
     go_ret
     exact ⟨by rw [← hv2.out];rfl,rfl⟩
    ·rw [if_neg (by omega)] at hv1
     by_cases h3 : l[k] ≤ last
     ·rw [if_pos h3] at hv1
      have hv2 := hide hv1
      clear hv1
      go_wp2
      go_ret
      exact ⟨by rw [← hv2.out];rfl,rfl⟩
     ·rw [if_neg h3] at hv1
      have hv2 := hide hv1
      clear hv1
      go_wp2
      go_round
      case rel => exact ⟨k + 1,l[k],by omega,by go_num,rfl,hv2⟩
      case measure => simp [intOf];omega
  ·have hv1 := hv.out
   rw [drop_len hkl,checkL] at hv1
   have hv2 := hide hv1
   clear hv1 hv
   go_wp2
   go_ret
   exact ⟨by rw [← hv2.out];rfl,rfl⟩
theorem chooseI_nat (a b : Nat) (x y : Int) (hx : x = a) (hy : y = b) : chooseI x y = choose a b := by
 subst hx hy
 unfold chooseI
 rw [if_neg (by omega),Int.toNat_natCast,Int.toNat_natCast]
theorem infoInt : (Tryz.prog.info? 3).map (fun i => (i.zero,i.size,i.bytes)) = some (some (.int .i64 0),1,8) := by kernel_rfl
def ListC (l : List Int) (c : Int) (w : World) (e : Ending) (w' : World) : Prop := ∃ u,e = .returned (.tuple #[u,.int .i64 c]) ∧ Rd I64 w' u l ∧ Below w.heap.size w w'
theorem choose_mono_step (m j : Nat) : choose m j ≤ choose (m + 1) (j + 1) ∧ choose m (j + 1) ≤ choose (m + 1) (j + 1) := by
 rw [choose_succ];omega
set_option maxHeartbeats 2000000 in
set_option maxRecDepth 100000 in
theorem unrank_ok (r n k : Nat) (w : World) (hn : n ≤ 80) (hk : k ≤ n) (hct : choose n k ≤ 9223372036854775807) (hr : r < choose n k) :
  Calls Tryz.prog 60 #[.int .i64 (r : Int),.int .i64 (n : Int),.int .i64 (k : Int)] w (ListC (unrankL n 1 r k) 0 w) := by
 have hd : decide (0 ≤ (n : Int) ∧ (n : Int) ≤ 80) = true := decide_eq_true (by omega)
 have hci0 := chooseI_nat n k n k rfl rfl
 have hrI : (r : Int) < ((choose n k : Nat) : Int) := by omega
 have hkI : ¬ (n : Int) < (k : Int) := by omega
 go_enter Tryz.func60,Tryz.ntmps60
 go_wp2_with fail
 refine (known_any _ _).mono ?_
 rintro e w' ⟨rfl,rfl⟩
 rw [hd]
 clear hd
 replace hci0 := hide hci0
 go_wp2_with fail
 refine (count_ok _ _ _ (by omega) (by rw [hci0.out];exact hct)).mono ?_
 rintro e w1 ⟨rfl,hb1⟩
 rw [hci0.out]
 go_wp2_with (with_reducible refine wpList_make_row _ rfl _ _ 27 rfl 3 (.int .i64 0) 8 Tryz.underlying27 infoInt rfl .i64 .i64 _ _ 0 k rfl rfl (by omega) (by omega) (Nat.zero_le _) (by omega) (by omega) ?_;intro w2 hrow hb2 hz2)
 have hown : Own I64 w2 w.heap.size 3 (.slice (some ⟨w1.heap.size,0,none⟩) 0 k) [] := Own.ofRow hrow hb1.size (by omega)
 have hbel := Bel.to hb1 hb2
 clear hrow hb1 hb2 hz2
 have hstart := hide (show ([] : List Int) ++ unrankL n 1 r k = unrankL n 1 r k from rfl)
 obtain ⟨c0,hc0⟩ : ∃ c0,c0 = some (⟨w1.heap.size,0,none⟩ : Addr) := ⟨_,rfl⟩
 rw [← hc0] at hown ⊢
 clear hc0 hrI
 go_loopw [0,10,11] (fun rr vv ww wr => ∃ (A : List Int) (ao : Option Addr) (cap rv wv : Nat),vv = .slice ao A.length cap ∧ ww = .int .i64 wv ∧ rr = .int .i64 rv ∧ 1 ≤ wv ∧ wv ≤ n + 1 ∧ A.length ≤ k ∧ Own I64 wr w.heap.size 3 (.slice ao A.length cap) A ∧
   Below w.heap.size w wr ∧ Hid (A ++ unrankL (n + 1 - wv) wv rv (k - A.length) = unrankL n 1 r k) ∧ rv < choose (n + 1 - wv) (k - A.length) ∧ choose (n + 1 - wv) (k - A.length) ≤ choose n k) (fun _ _ ww _ => n + 1 - (intOf ww).toNat)
 case atStart =>
  refine ⟨[],c0,k,r,1,rfl,rfl,rfl,Nat.le_refl _,by omega,Nat.zero_le _,hown,hbel,?_,?_,?_⟩
  ·simpa using hstart
  ·simpa using hr
  ·simp
 case round =>
  obtain ⟨A,ao,cap,rv,wv,rfl,rfl,rfl,hw1,hw2,hAk,hown,hbel,hE,hlt,hle⟩ := hrel
  by_cases hAl : A.length < k
  ·obtain ⟨j,hj⟩ : ∃ j,k - A.length = j + 1 := ⟨k - A.length - 1,by omega⟩
   have hwn : wv ≤ n := by
    rcases Nat.lt_or_ge n wv with h | h
    ·rw [show n + 1 - wv = 0 by omega,hj,choose_gt (by omega)] at hlt;omega
    ·exact h
   obtain ⟨m,hm⟩ : ∃ m,n + 1 - wv = m + 1 := ⟨n - wv,by omega⟩
   have hE2 := hE.out
   rw [hm,hj] at hlt hle hE2
   obtain ⟨s1,s2⟩ := choose_mono_step m j
   have hsum := choose_succ m j
   have hci := chooseI_nat m j ((n : Int) - wv) ((k : Int) - A.length - 1) (by omega) (by omega)
   rw [unrankL,if_neg (by omega),Nat.add_sub_cancel] at hE2
   obtain ⟨C,hC⟩ : ∃ C,C = choose m j := ⟨_,rfl⟩
   rw [← hC] at hE2 s1 hsum hci
   replace hci := hide hci
   have hC5 : C ≤ 9223372036854775807 := by omega
   by_cases hrc : rv < C
   ·rw [if_pos hrc] at hE2
    replace hE2 := hide hE2
    have hrI : (rv : Int) < (C : Int) := by omega
    have f1 : rv < choose m j := by omega
    have f2 : choose m j ≤ choose n k := by omega
    replace hC := hide hC
    replace hm := hide hm
    replace hj := hide hj
    clear hsum s1 s2 hlt hle hE
    go_wp2_with fail
    refine (count_ok _ _ _ (by omega) (by rw [hci.out];exact hC5)).mono ?_
    rintro e w3 ⟨rfl,hb3⟩
    rw [hci.out]
    have hown3 := hown.keep hb3
    go_wp2_with (with_reducible refine wpList_append_rd _ rfl _ _ 27 rfl (V := I64) (fun _ => rfl) w.heap.size 3 (.int .i64 0) 8 Tryz.underlying27 infoInt rfl _ A rfl (hown3.alloc _) _ [(wv : Int)] rfl ?_ ?_ ?_ ?_ ?_)
    case refine_1 => exact Rd.new _ rfl rfl (Nat.le_refl _) (by decide) rfl
    case refine_2 => simp;omega
    case refine_3 => simp;omega
    case refine_4 => have := hbel.size;have := hb3.size;simp;omega
    intro v4 w4 hown4 hg4 hv4
    have hsz := hb3.size
    have hsz2 := hbel.size
    have hb4 : Below w.heap.size w w4 := (Bel.al (Bel.to hbel hb3) _).grown hg4 (by simp;omega) (fun g hg => (hown3.lt g hg).1)
    obtain ⟨ao4,cap4,rfl⟩ := hown4.shape
    go_wp2
    go_roundw
    case rel =>
     refine ⟨A ++ [(wv : Int)],ao4,cap4,rv,wv + 1,rfl,by go_num,rfl,by omega,by omega,by simp;omega,hown4,hb4,?_,?_,?_⟩
     ·show _ = _
      have hj' := hj.out
      have hm' := hm.out
      rw [List.length_append,List.length_singleton,show n + 1 - (wv + 1) = m by omega,show k - (A.length + 1) = j by omega,List.append_assoc]
      exact hE2.out
     ·have hj' := hj.out
      have hm' := hm.out
      rw [List.length_append,List.length_singleton,show n + 1 - (wv + 1) = m by omega,show k - (A.length + 1) = j by omega]
      exact f1
     ·have hj' := hj.out
      have hm' := hm.out
      rw [List.length_append,List.length_singleton,show n + 1 - (wv + 1) = m by omega,show k - (A.length + 1) = j by omega]
      exact f2
    case measure => simp [intOf];omega
   ·rw [if_neg hrc] at hE2
    replace hE2 := hide hE2
    have hrI : ¬ (rv : Int) < (C : Int) := by omega
    have f1 : rv - C < choose m (j + 1) := by omega
    have f2 : choose m (j + 1) ≤ choose n k := by omega
    have hrB : rv ≤ 9223372036854775807 := by omega
    replace hC := hide hC
    replace hm := hide hm
    replace hj := hide hj
    clear hsum s1 s2 hlt hle hE
    go_wp2_with fail
    refine (count_ok _ _ _ (by omega) (by rw [hci.out];exact hC5)).mono ?_
    rintro e w3 ⟨rfl,hb3⟩
    rw [hci.out]
    have hown3 := hown.keep hb3
    have hCr : C ≤ rv := by omega
    go_wp2
    go_roundw
    case rel =>
     have hj' := hj.out
     have hm' := hm.out
     refine ⟨A,ao,cap,rv - C,wv + 1,rfl,by go_num,by go_num,by omega,by omega,by omega,hown3,Bel.to hbel hb3,?_,?_,?_⟩
     ·show _ = _
      rw [show n + 1 - (wv + 1) = m by omega,hj']
      exact hE2.out
     ·rw [show n + 1 - (wv + 1) = m by omega,hj']
      exact f1
     ·rw [show n + 1 - (wv + 1) = m by omega,hj']
      exact f2
    case measure => simp [intOf];omega
  ·have hkA : k - A.length = 0 := by omega
   have hE2 := hE.out
   rw [hkA,unrankL_zero,List.append_nil] at hE2
   replace hE2 := hide hE2
   clear hE hkA hlt hle
   go_wp2
   go_ret2
   exact ⟨_,rfl,by rw [← hE2.out];exact hown.rd,hbel⟩
theorem sizeInt : (Tryz.prog.info? 3).map (·.size) = some 1 := by kernel_rfl
def ListBF (l : List Int) (b : Bool) (w : World) (e : Ending) (w' : World) : Prop := ∃ u,e = .returned (.tuple #[u,.bool b]) ∧ Rd I64 w' u l ∧ Fr w.heap.size u l ∧ Below w.heap.size w w'
theorem nextF_bad (v : Value) (l : List Int) (n : Int) (w : World) (h : Rd I64 w v l) (hb : ¬ (0 ≤ n ∧ n ≤ 80 ∧ checkL n 0 l = 0)) :
  Calls Tryz.prog 86 #[v,.int .i64 n] w (ListBF [] false w) := by
 obtain ⟨ao,cap,rfl,hlc,hcm,hr⟩ := Rd.form h
 by_cases hn : 0 ≤ n ∧ n ≤ 80
 ·have hd : decide (0 ≤ n ∧ n ≤ 80) = true := decide_eq_true hn
  obtain ⟨c,hcc⟩ : ∃ c,c = checkL n 0 l := ⟨_,rfl⟩
  have hc0 : c ≠ 0 := by rw [hcc];intro h0;exact hb ⟨hn.1,hn.2,h0⟩
  have hcb : (c != 0) = true := by simpa using hc0
  replace hcc := hide hcc
  clear hb hn hc0
  go_enter Tryz.func86,Tryz.ntmps86
  go_wp2_with fail
  refine (known_any _ _).mono ?_
  rintro e w' ⟨rfl,rfl⟩
  rw [hd]
  clear hd
  go_wp2_with fail
  refine (check_any _ l _ _ (by exact hr)).mono ?_
  rintro e w' ⟨rfl,rfl⟩
  rw [← hcc.out]
  go_wp2
  go_ret2
  exact ⟨_,rfl,Rd.nil,.inl rfl,Below.refl _ _⟩
 ·have hd : decide (0 ≤ n ∧ n ≤ 80) = false := decide_eq_false hn
  clear hb hn
  go_enter Tryz.func86,Tryz.ntmps86
  go_wp2_with fail
  refine (known_any _ _).mono ?_
  rintro e w' ⟨rfl,rfl⟩
  rw [hd]
  clear hd
  go_wp2
  go_ret2
  exact ⟨_,rfl,Rd.nil,.inl rfl,Below.refl _ _⟩
set_option maxHeartbeats 2000000 in
set_option maxRecDepth 100000 in
theorem nextF_good (v : Value) (l : List Int) (n : Nat) (w : World) (h : Rd I64 w v l) (hn : n ≤ 80) (hc : checkL n 0 l = 0) :
  Calls Tryz.prog 86 #[v,.int .i64 (n : Int)] w (ListBF (nextV l n).1 (nextV l n).2 w) := by
 have hd : decide (0 ≤ (n : Int) ∧ (n : Int) ≤ 80) = true := decide_eq_true (by omega)
 obtain ⟨ao,cap,rfl,hlc,hcm,hr⟩ := Rd.form h
 have hcm' : cap ≤ 9223372036854775807 := by unfold maxLen at hcm;omega
 have hlen := checkL_len hc (by omega)
 have hget := hide (checkL_get hc)
 have hnv := hide (show nextV l n = nextOf l (nextI l n l.length l.length) by unfold nextV;rw [if_pos ⟨by omega,by omega,hc⟩])
 go_enter Tryz.func86,Tryz.ntmps86
 go_wp2_with fail
 refine (known_any _ _).mono ?_
 rintro e w' ⟨rfl,rfl⟩
 rw [hd]
 clear hd
 go_wp2_with fail
 refine (check_any _ l _ _ (by exact hr)).mono ?_
 rintro e w' ⟨rfl,rfl⟩
 rw [hc]
 replace hc := hide hc
 go_wp2
 go_loop [7] (fun t => ∃ m : Nat,m ≤ l.length ∧ t = .int .i64 ((m : Int) - 1) ∧ Hid (nextI l n l.length m = nextI l n l.length l.length)) (fun t => (intOf t + 1).toNat)
 case atStart => exact ⟨l.length,Nat.le_refl _,rfl,rfl⟩
 case round =>
  obtain ⟨m,hm,rfl,hI⟩ := hrel
  by_cases hm0 : m = 0
  ·subst hm0
   have hI2 := hI.out
   rw [nextI] at hI2
   replace hI2 := hide hI2
   clear hI
   go_wp2
   go_ret2
   rw [hnv.out,← hI2.out]
   exact ⟨_,rfl,Rd.nil,.inl rfl,Below.refl _ _⟩
  ·have hk1 : m - 1 < l.length := by omega
   obtain ⟨b,off,rfl,hb,hcell⟩ := hr.at_ hk1
   have c1 := hcell (m - 1) hk1
   have hI2 := hI.out
   obtain ⟨i,hi⟩ : ∃ i,m = i + 1 := ⟨m - 1,by omega⟩
   subst hi
   rw [nextI] at hI2
   simp only [Nat.add_sub_cancel] at hk1 c1
   have hgd : l.getD i 0 = l[i] := by rw [List.getD_eq_getElem?_getD,List.getElem?_eq_getElem hk1];rfl
   rw [hgd] at hI2
   clear hcell hI
   by_cases he : l[i] = (n : Int) - l.length + 1 + i
   ·rw [if_pos he] at hI2
    have he2 : (l[i] == (n : Int) - l.length + 1 + i) = true := by simpa using he
    replace hI2 := hide hI2
    replace he := hide he
    go_wp2
    go_round
    case rel => exact ⟨i,by omega,by go_num,hI2⟩
    case measure => first | (simp [intOf];done) | (simp [intOf];omega)
   ·rw [if_neg he] at hI2
    have he2 : (l[i] == (n : Int) - l.length + 1 + i) = false := by simpa using he
    replace hI2 := hide hI2
    obtain ⟨g1,g2,g3⟩ := hget.out i hk1
    replace he := hide he
    replace hgd := hide hgd
    have hkl : l.length ≤ 80 := by omega
    have hfin := hide (show nextV l n = (l.take i ++ bump (l.getD i 0 + 1) (l.length - i),true) by rw [hnv.out,← hI2.out];rfl)
    obtain ⟨x,hx⟩ : ∃ x,x = l[i] := ⟨_,rfl⟩
    rw [← hx] at c1 he2 g1 g2 g3 hgd
    have hx2 := hide hx
    clear hx hnv
    go_wp2_with (first
     | (with_reducible refine wpList_make_row _ rfl _ _ 27 rfl 3 (.int .i64 0) 8 Tryz.underlying27 infoInt rfl .i64 .i64 _ _ l.length l.length rfl rfl (by omega) (by omega) (Nat.le_refl _) (by omega) (by omega) ?_;intro w2 hrow hb2 hz2;have hrd2 := hr.below hb2)
     | (with_reducible refine wpList_copy_all rfl _ _ 27 27 rfl 3 Tryz.underlying27 sizeInt (V := I64) (fun _ => rfl) w.heap.size l.length l.length rfl _ rfl l ?_ rfl _ 3 hrow ?_ w ?_ ?_ ?_))
    intro w3 hrow3 hb3
    obtain ⟨g,hg⟩ : ∃ g,g = w.heap.size := ⟨_,rfl⟩
    rw [← hg] at hrow3
    have d1 := hrow3.cellV hk1
    rw [← hx2.out] at d1
    have d2 := hrow3.frozen i
    have hm0 : midP l i (i + 1) (l.set i (x + 1)) := by
     have h0 : midP l i i l := ⟨rfl,fun t _ _ => by rw [if_neg (by omega)]⟩
     have := midP_set h0 (Nat.le_refl i) hk1
     rw [hgd.out,Int.sub_self,Int.add_zero] at this
     exact this
    have hgs : w.heap.size ≤ g := by omega
    have hbs := Bel.st hb3 (p := ⟨g,i,none⟩) hgs (.int .i64 (x + 1))
    have hrow4 := hrow3.setV (V := I64) i (x + 1)
    rw [← hg]
    clear hg hrow hb2 hz2 hrd2
    go_wp2
    replace hm0 := hide hm0
    clear d1 d2 c1
    go_loopw [9] (fun t wr => ∃ (j : Nat) (P : List Int),i + 1 ≤ j ∧ j ≤ l.length ∧ t = .int .i64 j ∧ Row wr g 3 (P.map I64) ∧ Hid (midP l i j P) ∧ Below w.heap.size w wr) (fun t _ => l.length - (intOf t).toNat)
    case atStart => exact ⟨i + 1,_,Nat.le_refl _,by omega,by go_num,hrow4,hm0,hbs⟩
    case round =>
     obtain ⟨j,P,hj1,hj2,rfl,hP,hmid,hbel⟩ := hrel
     have hPl := hmid.out.1
     by_cases hjl : j < l.length
     ·have hj3 : j - 1 < P.length := by omega
      have hj4 : j < P.length := by omega
      have e1 := hP.cellV hj3
      have e2 := hP.cellV hj4
      have e3 := hP.frozen j
      have hval := hmid.out.2 (j - 1) hj3 (by omega)
      rw [if_pos (by omega),hgd.out] at hval
      obtain ⟨y,hy⟩ : ∃ y,y = P[j - 1] := ⟨_,rfl⟩
      rw [← hy] at e1 hval
      have hy1 : y ≤ 200 := by omega
      have hy2 : 0 ≤ y := by omega
      have hset := midP_set hmid.out (by omega : i ≤ j) hjl
      rw [hgd.out,show x + 1 + ((j : Int) - i) = y + 1 by omega] at hset
      have hrow5 := hP.setV (V := I64) j (y + 1)
      replace hset := hide hset
      clear hy hval hPl
      go_wp2
      go_roundw
      case rel => exact ⟨j + 1,_,by omega,by omega,by go_num,hrow5,hset,Bel.st hbel hgs _⟩
      case measure => simp [intOf];omega
     ·have hjj : j = l.length := by omega
      subst hjj
      have hend := hide (midP_end hmid.out hk1)
      have hrd := hP.rdAll (n := l.length) (c := l.length) hPl.symm (Nat.le_refl _) (by omega)
      clear hPl
      go_wp2
      go_ret2
      rw [hfin.out]
      exact ⟨_,rfl,by rw [← hend.out];exact hrd,.inr ⟨g,rfl,hgs⟩,hbel⟩
theorem nextF_any (v : Value) (l : List Int) (n : Int) (w : World) (h : Rd I64 w v l) :
  Calls Tryz.prog 86 #[v,.int .i64 n] w (ListBF (nextV l n).1 (nextV l n).2 w) := by
 by_cases hb : 0 ≤ n ∧ n ≤ 80 ∧ checkL n 0 l = 0
 ·obtain ⟨n,rfl⟩ := Int.eq_ofNat_of_zero_le hb.1
  exact nextF_good v l n w h (by omega) hb.2.2
 ·have : nextV l n = ([],false) := by unfold nextV;rw [if_neg hb]
  rw [this]
  exact nextF_bad v l n w h hb
def unrankV (r n k : Int) : List Int × Int :=
 if 0 ≤ n ∧ n ≤ 80 ∧ 0 ≤ k ∧ k ≤ n then
  (if choose n.toNat k.toNat ≤ 9223372036854775807 then (if 0 ≤ r ∧ r < choose n.toNat k.toNat then (unrankL n.toNat 1 r.toNat k.toNat,0) else ([],2)) else ([],9))
 else ([],2)
set_option maxHeartbeats 1000000 in
theorem unrank_range (r n k : Int) (w : World) (h : ¬ (0 ≤ n ∧ n ≤ 80 ∧ 0 ≤ k ∧ k ≤ n)) :
  Calls Tryz.prog 60 #[.int .i64 r,.int .i64 n,.int .i64 k] w (ListC [] 2 w) := by
 by_cases hn : 0 ≤ n ∧ n ≤ 80
 ·have hd : decide (0 ≤ n ∧ n ≤ 80) = true := decide_eq_true hn
  by_cases hk : k < 0
  all_goals
   first | (have hk2 : n < k := by omega) | skip
   clear h hn
   go_enter Tryz.func60,Tryz.ntmps60
   go_wp2_with fail
   refine (known_any _ _).mono ?_
   rintro e w' ⟨rfl,rfl⟩
   rw [hd]
   go_wp2
   go_ret2
   exact ⟨_,rfl,Rd.nil,Below.refl _ _⟩
 ·have hd : decide (0 ≤ n ∧ n ≤ 80) = false := decide_eq_false hn
  clear h hn
  go_enter Tryz.func60,Tryz.ntmps60
  go_wp2_with fail
  refine (known_any _ _).mono ?_
  rintro e w' ⟨rfl,rfl⟩
  rw [hd]
  go_wp2
  go_ret2
  exact ⟨_,rfl,Rd.nil,Below.refl _ _⟩
set_option maxHeartbeats 1000000 in
theorem unrank_over (r : Int) (n k : Nat) (w : World) (hn : n ≤ 80) (hk : k ≤ n) (hct : 9223372036854775807 < choose n k) :
  Calls Tryz.prog 60 #[.int .i64 r,.int .i64 (n : Int),.int .i64 (k : Int)] w (ListC [] 9 w) := by
 have hd : decide (0 ≤ (n : Int) ∧ (n : Int) ≤ 80) = true := decide_eq_true (by omega)
 have hci0 := chooseI_nat n k n k rfl rfl
 have hkI : ¬ (n : Int) < (k : Int) := by omega
 go_enter Tryz.func60,Tryz.ntmps60
 go_wp2_with fail
 refine (known_any _ _).mono ?_
 rintro e w' ⟨rfl,rfl⟩
 rw [hd]
 clear hd
 replace hci0 := hide hci0
 go_wp2_with fail
 refine (count_over _ _ _ (by omega) (by rw [hci0.out];exact hct)).mono ?_
 rintro e w1 ⟨rfl,hb1⟩
 clear hct
 go_wp2
 go_ret2
 exact ⟨_,rfl,Rd.nil,hb1⟩
set_option maxHeartbeats 1000000 in
theorem unrank_rank (r : Int) (n k : Nat) (w : World) (hn : n ≤ 80) (hk : k ≤ n) (hct : choose n k ≤ 9223372036854775807) (hr : r < 0 ∨ ((choose n k : Nat) : Int) ≤ r) :
  Calls Tryz.prog 60 #[.int .i64 r,.int .i64 (n : Int),.int .i64 (k : Int)] w (ListC [] 2 w) := by
 have hd : decide (0 ≤ (n : Int) ∧ (n : Int) ≤ 80) = true := decide_eq_true (by omega)
 have hci0 := chooseI_nat n k n k rfl rfl
 have hkI : ¬ (n : Int) < (k : Int) := by omega
 by_cases h0 : r < 0
 all_goals
  first | (have hrI : ((choose n k : Nat) : Int) ≤ r := by omega) | skip
  clear hr
  go_enter Tryz.func60,Tryz.ntmps60
  go_wp2_with fail
  refine (known_any _ _).mono ?_
  rintro e w' ⟨rfl,rfl⟩
  rw [hd]
  clear hd
  replace hci0 := hide hci0
  go_wp2_with fail
  refine (count_ok _ _ _ (by omega) (by rw [hci0.out];exact hct)).mono ?_
  rintro e w1 ⟨rfl,hb1⟩
  rw [hci0.out]
  go_wp2
  go_ret2
  exact ⟨_,rfl,Rd.nil,hb1⟩
theorem unrank_any (r n k : Int) (w : World) : Calls Tryz.prog 60 #[.int .i64 r,.int .i64 n,.int .i64 k] w (ListC (unrankV r n k).1 (unrankV r n k).2 w) := by
 unfold unrankV
 by_cases h : 0 ≤ n ∧ n ≤ 80 ∧ 0 ≤ k ∧ k ≤ n
 ·rw [if_pos h]
  obtain ⟨n,rfl⟩ := Int.eq_ofNat_of_zero_le h.1
  obtain ⟨k,rfl⟩ := Int.eq_ofNat_of_zero_le h.2.2.1
  rw [Int.toNat_natCast,Int.toNat_natCast]
  by_cases hx : choose n k ≤ 9223372036854775807
  ·rw [if_pos hx]
   by_cases hr : 0 ≤ r ∧ r < choose n k
   ·rw [if_pos hr]
    obtain ⟨r,rfl⟩ := Int.eq_ofNat_of_zero_le hr.1
    exact unrank_ok r n k w (by omega) (by omega) hx (by omega)
   ·rw [if_neg hr]
    exact unrank_rank r n k w (by omega) (by omega) hx (by omega)
  ·rw [if_neg hx]
   exact unrank_over r n k w (by omega) (by omega) (by omega)
 ·rw [if_neg h]
  exact unrank_range r n k w h
end Go.Proofs.YtelgllgaofjgjaaGreat
end

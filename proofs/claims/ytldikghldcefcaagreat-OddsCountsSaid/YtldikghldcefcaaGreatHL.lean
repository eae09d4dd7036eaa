/- Lemmas, merged out of smaller texts (wip/tools/mergedce.py). No condition. -/
import Derived.Test.YtldikghldcefcaaGreatHE
import Derived.Test.YtldikghldcefcaaGreatHF
import Derived.Test.YtldikghldcefcaaGreatHCore
section
set_option linter.unusedVariables false
set_option linter.unusedSimpArgs false
namespace Go.Proofs.YtldikghldcefcaaGreat
structure CondD where
 front : Nat
 back : Nat
 box : Bool
abbrev meets (m : Nat) (c : CondD) (x y : List Nat) : Prop := x.take c.front = y.take c.front ∧ x.drop (m - c.back) = y.drop (m - c.back) ∧ (c.box = true → x.Perm y)
def andC (c e : CondD) : CondD := ⟨max c.front e.front,max c.back e.back,c.box || e.box⟩
def pairsN (d m : Nat) (c : CondD) : Nat := d ^ min m (c.front + c.back) * (if c.box = true then bxP d (m - min m (c.front + c.back)) else d ^ (2 * (m - min m (c.front + c.back))))
theorem cnt2_front (d a n : Nat) (P : List Nat → List Nat → Prop) [∀ x y,Decidable (P x y)] : cnt2 d (a + n) (fun x y => x.take a = y.take a ∧ P (x.drop a) (y.drop a)) = d ^ a * cnt2 d n P := by
 unfold cnt2
 rw [sumD_append,sumD_congr (g := fun _ => sumD d n fun s => sumD d n fun s' => if P s s' then 1 else 0),sumD_const]
 intro p hp hpm
 refine sumD_congr fun s hs hsm => ?_
 rw [sumD_append,← sumD_eq hp hpm (fun _ => sumD d n fun s' => if P s s' then 1 else 0)]
 refine sumD_congr fun p' hp' _ => ?_
 have t1 : (p ++ s).take a = p := List.take_left' hp
 have t2 : (p ++ s).drop a = s := List.drop_left' hp
 by_cases e : p = p'
 ·rw [if_pos e]
  subst e
  refine sumD_congr fun s' hs' _ => ?_
  have t3 : (p ++ s').take a = p := List.take_left' hp'
  have t4 : (p ++ s').drop a = s' := List.drop_left' hp'
  simp only [t1,t2,t3,t4,true_and]
 ·rw [if_neg e,sumD_congr (g := fun _ => 0),sumD_zero]
  intro s' hs' _
  have t3 : (p' ++ s').take a = p' := List.take_left' hp'
  rw [if_neg]
  intro h
  exact e (t1.symm.trans (h.1.trans t3))
theorem cnt2_back (d k b : Nat) (Q : List Nat → List Nat → Prop) [∀ x y,Decidable (Q x y)] : cnt2 d (k + b) (fun x y => x.drop k = y.drop k ∧ Q (x.take k) (y.take k)) = d ^ b * cnt2 d k Q := by
 unfold cnt2
 rw [sumD_append,← sumD_mul]
 refine sumD_congr fun u hu hum => ?_
 rw [sumD_congr (g := fun _ => sumD d k fun v => if Q u v then 1 else 0),sumD_const]
 intro s hs hsm
 rw [sumD_append]
 refine sumD_congr fun u' hu' _ => ?_
 rw [← sumD_eq hs hsm (fun _ => if Q u u' then 1 else 0)]
 refine sumD_congr fun s' hs' _ => ?_
 have t1 : (u ++ s).take k = u := List.take_left' hu
 have t2 : (u ++ s).drop k = s := List.drop_left' hu
 have t3 : (u' ++ s').take k = u' := List.take_left' hu'
 have t4 : (u' ++ s').drop k = s' := List.drop_left' hu'
 simp only [t1,t2,t3,t4]
 by_cases e : s = s' <;> simp [e]
theorem bxP_zero (d : Nat) : bxP d 0 = 1 := by rw [bxP_count];simp [cnt2,sumD]
theorem agree_all {m f b : Nat} {x y : List Nat} (hx : x.length = m) (hy : y.length = m) (h : m ≤ f + b) (h1 : x.take f = y.take f) (h2 : x.drop (m - b) = y.drop (m - b)) : x = y := by
 by_cases hf : m ≤ f
 ·rwa [List.take_of_length_le (by omega),List.take_of_length_le (by omega)] at h1
 ·have e : x.drop f = y.drop f := by
   have h3 := congrArg (List.drop (f - (m - b))) h2
   rwa [List.drop_drop,List.drop_drop,show m - b + (f - (m - b)) = f by omega] at h3
  rw [← List.take_append_drop f x,← List.take_append_drop f y,h1,e]
theorem pairsN_count (d m : Nat) (c : CondD) : pairsN d m c = cnt2 d m (meets m c) := by
 obtain ⟨f,b,box⟩ := c
 unfold pairsN
 simp only []
 by_cases h : f + b ≤ m
 ·obtain ⟨k,rfl⟩ : ∃ k,m = f + (k + b) := ⟨m - f - b,by omega⟩
  rw [Nat.min_eq_right h,show f + (k + b) - (f + b) = k by omega]
  have e : cnt2 d (f + (k + b)) (meets (f + (k + b)) ⟨f,b,box⟩) = cnt2 d (f + (k + b)) (fun x y => x.take f = y.take f ∧ (fun u v : List Nat => u.drop k = v.drop k ∧ (fun u v : List Nat => box = true → u.Perm v) (u.take k) (v.take k)) (x.drop f) (y.drop f)) := by
   refine cnt2_congr fun x y hx hy _ _ => ?_
   have e1 : ∀ z : List Nat,z.drop (f + (k + b) - b) = (z.drop f).drop k := fun z => by rw [List.drop_drop];congr 1;omega
   simp only [meets,e1]
   constructor
   ·rintro ⟨h1,h2,h3⟩
    refine ⟨h1,h2,fun hb => ?_⟩
    have h4 := h3 hb
    rw [← List.take_append_drop f x,← List.take_append_drop f y,h1,List.perm_append_left_iff,← List.take_append_drop k (x.drop f),← List.take_append_drop k (y.drop f),h2,List.perm_append_right_iff] at h4
    exact h4
   ·rintro ⟨h1,h2,h3⟩
    refine ⟨h1,h2,fun hb => ?_⟩
    rw [← List.take_append_drop f x,← List.take_append_drop f y,h1,List.perm_append_left_iff,← List.take_append_drop k (x.drop f),← List.take_append_drop k (y.drop f),h2,List.perm_append_right_iff]
    exact h3 hb
  rw [e,cnt2_front d f (k + b) (fun u v : List Nat => u.drop k = v.drop k ∧ (fun u v : List Nat => box = true → u.Perm v) (u.take k) (v.take k)),cnt2_back d k b (fun u v : List Nat => box = true → u.Perm v),Nat.pow_add,Nat.mul_assoc]
  congr 2
  cases box
  ·simp [cnt2_true]
  ·simp [bxP_count]
 ·rw [Nat.min_eq_left (by omega),Nat.sub_self,bxP_zero]
  rw [cnt2_congr (Q := fun x y => x = y),cnt2_eq]
  ·simp
  ·intro x y hx hy _ _
   exact ⟨fun h1 => agree_all (f := f) (b := b) hx hy (by omega) h1.1 h1.2.1,fun e => by subst e;exact ⟨rfl,rfl,fun _ => List.Perm.refl _⟩⟩
theorem take_le {x y : List Nat} {a b : Nat} (h : a ≤ b) (e : x.take b = y.take b) : x.take a = y.take a := by
 have := congrArg (List.take a) e
 rwa [List.take_take,List.take_take,Nat.min_eq_left h] at this
theorem drop_le {x y : List Nat} {a b : Nat} (h : a ≤ b) (e : x.drop a = y.drop a) : x.drop b = y.drop b := by
 have := congrArg (List.drop (b - a)) e
 rwa [List.drop_drop,List.drop_drop,show a + (b - a) = b by omega] at this
theorem meets_and (m : Nat) (c e : CondD) (x y : List Nat) : meets m (andC c e) x y ↔ meets m c x y ∧ meets m e x y := by
 unfold meets andC
 simp only [Bool.or_eq_true]
 constructor
 ·rintro ⟨h1,h2,h3⟩
  exact ⟨⟨take_le (Nat.le_max_left _ _) h1,drop_le (Nat.sub_le_sub_left (Nat.le_max_left _ _) m) h2,fun h => h3 (.inl h)⟩,take_le (Nat.le_max_right _ _) h1,drop_le (Nat.sub_le_sub_left (Nat.le_max_right _ _) m) h2,fun h => h3 (.inr h)⟩
 ·rintro ⟨⟨h1,h2,h3⟩,h4,h5,h6⟩
  refine ⟨?_,?_,fun h => h.elim h3 h6⟩
  ·rcases Nat.le_total c.front e.front with h | h
   ·rw [Nat.max_eq_right h];exact h4
   ·rw [Nat.max_eq_left h];exact h1
  ·rcases Nat.le_total c.back e.back with h | h
   ·rw [Nat.max_eq_right h];exact h5
   ·rw [Nat.max_eq_left h];exact h2
def evO (d m : Nat) : List CondD → CondD → Nat × Nat
 | [],c => (pairsN d m c,0)
 | e :: L,c => ((evO d m L c).1 + (evO d m L (andC c e)).2,(evO d m L c).2 + (evO d m L (andC c e)).1)
theorem evO_count (d m : Nat) (L : List CondD) (c : CondD) : (evO d m L c).1 = (evO d m L c).2 + cnt2 d m (fun x y => meets m c x y ∧ ∀ e ∈ L,¬ meets m e x y) := by
 induction L generalizing c with
 | nil =>
  simp only [evO]
  rw [pairsN_count,Nat.zero_add]
  exact cnt2_congr fun x y _ _ _ _ => by simp
 | cons e L ih =>
  simp only [evO]
  have h1 := ih c
  have h2 := ih (andC c e)
  have h3 := cnt2_split (d := d) (m := m) (fun x y => meets m c x y ∧ ∀ e ∈ L,¬ meets m e x y) (fun x y => meets m e x y)
  have h4 : cnt2 d m (fun x y => (meets m c x y ∧ ∀ e ∈ L,¬ meets m e x y) ∧ meets m e x y) = cnt2 d m (fun x y => meets m (andC c e) x y ∧ ∀ e ∈ L,¬ meets m e x y) := by
   refine cnt2_congr fun x y _ _ _ _ => ?_
   rw [meets_and]
   constructor
   ·rintro ⟨⟨a,b⟩,c⟩;exact ⟨⟨a,c⟩,b⟩
   ·rintro ⟨⟨a,c⟩,b⟩;exact ⟨⟨a,b⟩,c⟩
  have h5 : cnt2 d m (fun x y => (meets m c x y ∧ ∀ e ∈ L,¬ meets m e x y) ∧ ¬ meets m e x y) = cnt2 d m (fun x y => meets m c x y ∧ ∀ e' ∈ e :: L,¬ meets m e' x y) := by
   refine cnt2_congr fun x y _ _ _ _ => ?_
   rw [List.forall_mem_cons]
   constructor
   ·rintro ⟨⟨a,b⟩,c⟩;exact ⟨a,c,b⟩
   ·rintro ⟨a,c,b⟩;exact ⟨⟨a,b⟩,c⟩
  rw [h4,h5] at h3
  omega
def earlyF (s : Nat × Nat × Bool) (c : CondD) : Nat × Nat × Bool := (if 0 < c.front ∧ (s.1 = 0 ∨ c.front < s.1) then c.front else s.1,if 0 < c.back ∧ (s.2.1 = 0 ∨ c.back < s.2.1) then c.back else s.2.1,s.2.2 || c.box)
def earlyS (L : List CondD) : Nat × Nat × Bool := L.foldl earlyF (0,0,false)
def earlyL (s : Nat × Nat × Bool) : List CondD := (if 0 < s.1 then [⟨s.1,0,false⟩] else []) ++ (if 0 < s.2.1 then [⟨0,s.2.1,false⟩] else []) ++ (if s.2.2 = true then [⟨0,0,true⟩] else [])
def singleC (c : CondD) : Prop := (0 < c.front ∧ c.back = 0 ∧ c.box = false) ∨ (c.front = 0 ∧ 0 < c.back ∧ c.box = false) ∨ (c.front = 0 ∧ c.back = 0 ∧ c.box = true)
def mE (m : Nat) (s : Nat × Nat × Bool) (x y : List Nat) : Prop := (0 < s.1 ∧ x.take s.1 = y.take s.1) ∨ (0 < s.2.1 ∧ x.drop (m - s.2.1) = y.drop (m - s.2.1)) ∨ (s.2.2 = true ∧ x.Perm y)
theorem earlyL_mem {m : Nat} {s : Nat × Nat × Bool} {x y : List Nat} (hx : x.length = m) (hy : y.length = m) : (∃ e ∈ earlyL s,meets m e x y) ↔ mE m s x y := by
 obtain ⟨f,b,o⟩ := s
 have d0 : x.drop m = y.drop m := by rw [List.drop_eq_nil_of_le (by omega),List.drop_eq_nil_of_le (by omega)]
 have a1 : (∃ e ∈ (if 0 < f then [(⟨f,0,false⟩ : CondD)] else []),meets m e x y) ↔ (0 < f ∧ x.take f = y.take f) := by
  by_cases h : 0 < f
  ·rw [if_pos h];simp [meets,h,d0]
  ·rw [if_neg h];simp [h]
 have a2 : (∃ e ∈ (if 0 < b then [(⟨0,b,false⟩ : CondD)] else []),meets m e x y) ↔ (0 < b ∧ x.drop (m - b) = y.drop (m - b)) := by
  by_cases h : 0 < b
  ·rw [if_pos h];simp [meets,h]
  ·rw [if_neg h];simp [h]
 have a3 : (∃ e ∈ (if o = true then [(⟨0,0,true⟩ : CondD)] else []),meets m e x y) ↔ (o = true ∧ x.Perm y) := by
  cases o
  ·simp
  ·simp [meets,d0]
 unfold earlyL mE
 simp only []
 rw [← a1,← a2,← a3]
 simp only [List.mem_append]
 constructor
 ·rintro ⟨e,(h | h) | h,hm⟩
  ·exact .inl ⟨e,h,hm⟩
  ·exact .inr (.inl ⟨e,h,hm⟩)
  ·exact .inr (.inr ⟨e,h,hm⟩)
 ·rintro (⟨e,h,hm⟩ | ⟨e,h,hm⟩ | ⟨e,h,hm⟩)
  ·exact ⟨e,.inl (.inl h),hm⟩
  ·exact ⟨e,.inl (.inr h),hm⟩
  ·exact ⟨e,.inr h,hm⟩
theorem mE_step {m : Nat} {s : Nat × Nat × Bool} {c : CondD} {x y : List Nat} (hx : x.length = m) (hy : y.length = m) (hc : singleC c) : mE m (earlyF s c) x y ↔ mE m s x y ∨ meets m c x y := by
 obtain ⟨f,b,o⟩ := s
 obtain ⟨cf,cb,co⟩ := c
 have d0 : x.drop m = y.drop m := by rw [List.drop_eq_nil_of_le (by omega),List.drop_eq_nil_of_le (by omega)]
 unfold singleC at hc
 simp only [] at hc
 unfold mE earlyF meets
 simp only []
 rcases hc with ⟨h1,rfl,rfl⟩ | ⟨rfl,h1,rfl⟩ | ⟨rfl,rfl,rfl⟩
 ·simp only [Bool.or_false,Nat.lt_irrefl,false_and,if_false,Nat.sub_zero,d0,true_and,Bool.false_eq_true,false_implies,and_true,h1]
  by_cases h : f = 0 ∨ cf < f
  ·rw [if_pos h]
   constructor
   ·rintro (⟨_,e⟩ | e)
    ·exact .inr e
    ·exact .inl (.inr e)
   ·rintro ((⟨h2,e⟩ | e) | e)
    ·exact .inl ⟨h1,take_le (by omega) e⟩
    ·exact .inr e
    ·exact .inl ⟨h1,e⟩
  ·rw [if_neg h]
   constructor
   ·exact .inl
   ·rintro (e | e)
    ·exact e
    ·exact .inl ⟨by omega,take_le (by omega) e⟩
 ·simp only [Bool.or_false,Nat.lt_irrefl,false_and,if_false,List.take_zero,true_and,Bool.false_eq_true,false_implies,and_true,h1]
  by_cases h : b = 0 ∨ cb < b
  ·rw [if_pos h]
   constructor
   ·rintro (e | ⟨_,e⟩ | e)
    ·exact .inl (.inl e)
    ·exact .inr e
    ·exact .inl (.inr (.inr e))
   ·rintro ((e | ⟨h2,e⟩ | e) | e)
    ·exact .inl e
    ·exact .inr (.inl ⟨h1,drop_le (Nat.sub_le_sub_left (by omega) m) e⟩)
    ·exact .inr (.inr e)
    ·exact .inr (.inl ⟨h1,e⟩)
  ·rw [if_neg h]
   constructor
   ·exact .inl
   ·rintro (e | e)
    ·exact e
    ·exact .inr (.inl ⟨by omega,drop_le (Nat.sub_le_sub_left (by omega) m) e⟩)
 ·simp only [Bool.or_true,Nat.lt_irrefl,false_and,if_false,List.take_zero,Nat.sub_zero,d0,true_and,true_implies]
  constructor
  ·rintro (e | e | e)
   ·exact .inl (.inl e)
   ·exact .inl (.inr (.inl e))
   ·exact .inr e
  ·rintro ((e | e | e) | e)
   ·exact .inl e
   ·exact .inr (.inl e)
   ·exact .inr (.inr e.2)
   ·exact .inr (.inr e)
theorem ex_cons {α : Type} {p : α → Prop} {c : α} {L : List α} : (∃ e ∈ c :: L,p e) ↔ p c ∨ ∃ e ∈ L,p e := by
 constructor
 ·rintro ⟨e,he,h⟩
  rcases List.mem_cons.1 he with rfl | he
  ·exact .inl h
  ·exact .inr ⟨e,he,h⟩
 ·rintro (h | ⟨e,he,h⟩)
  ·exact ⟨c,List.mem_cons_self,h⟩
  ·exact ⟨e,List.mem_cons_of_mem _ he,h⟩
theorem early_mem {m : Nat} {L : List CondD} (hL : ∀ c ∈ L,singleC c) {x y : List Nat} (hx : x.length = m) (hy : y.length = m) : (∃ e ∈ earlyL (earlyS L),meets m e x y) ↔ ∃ c ∈ L,meets m c x y := by
 rw [earlyL_mem hx hy]
 have key : ∀ (L : List CondD) s,(∀ c ∈ L,singleC c) → (mE m (L.foldl earlyF s) x y ↔ mE m s x y ∨ ∃ c ∈ L,meets m c x y) := by
  intro L
  induction L with
  | nil => intro s _;simp
  | cons c L ih =>
   intro s h
   rw [List.foldl_cons,ih _ (fun e he => h e (List.mem_cons_of_mem _ he)),mE_step hx hy (h c List.mem_cons_self)]
   rw [ex_cons,or_assoc]
 have h := key L (0,0,false) hL
 rw [earlyS,h]
 constructor
 ·rintro (h | h)
  ·unfold mE at h;simp at h
  ·exact h
 ·exact .inr
def win2 (d m : Nat) (C : List CondD) (t : Nat) : Nat := cnt2 d m fun x y => C.findIdx (fun c => decide (meets m c x y)) = t
theorem evO_win {d m : Nat} {C : List CondD} {t : Nat} (hC : ∀ c ∈ C,singleC c) (ht : t < C.length) : (evO d m (earlyL (earlyS (C.take t))) C[t]).1 = (evO d m (earlyL (earlyS (C.take t))) C[t]).2 + win2 d m C t := by
 rw [evO_count]
 congr 1
 refine cnt2_congr fun x y hx hy _ _ => ?_
 have h := early_mem (fun c hc => hC c (List.mem_of_mem_take hc)) hx hy (L := C.take t) (m := m)
 rw [List.findIdx_eq ht]
 simp only [decide_eq_true_eq,decide_eq_false_iff_not]
 refine and_congr Iff.rfl ?_
 constructor
 ·intro h1 j hj hm
  obtain ⟨e,he,hem⟩ := h.2 ⟨C[j],List.mem_take_iff_getElem.2 ⟨j,by omega,rfl⟩,hm⟩
  exact h1 e he hem
 ·intro h1 e he hem
  obtain ⟨c,hc,hcm⟩ := h.1 ⟨e,he,hem⟩
  obtain ⟨j,hj,rfl⟩ := List.mem_take_iff_getElem.1 hc
  exact h1 j (by omega) hcm
theorem win2_sum (d m : Nat) (C : List CondD) : sumTo (win2 d m C) C.length = cnt2 d m fun x y => ∃ c ∈ C,meets m c x y := by
 unfold win2 cnt2
 rw [← sumD_sumTo]
 refine sumD_congr fun x hx _ => ?_
 rw [← sumD_sumTo]
 refine sumD_congr fun y hy _ => ?_
 by_cases h : ∃ c ∈ C,meets m c x y
 ·rw [if_pos h]
  have hlt : C.findIdx (fun c => decide (meets m c x y)) < C.length := by
   rw [List.findIdx_lt_length]
   obtain ⟨c,hc,hm⟩ := h
   exact ⟨c,hc,decide_eq_true hm⟩
  rw [sumTo_one hlt (fun k hk hne => if_neg (fun e => hne e.symm)),if_pos rfl]
 ·rw [if_neg h,sumTo_congr (g := fun _ => 0),sumTo_zero]
  intro k hk
  rw [if_neg]
  intro e
  apply h
  have hlt : C.findIdx (fun c => decide (meets m c x y)) < C.length := by omega
  rw [List.findIdx_lt_length] at hlt
  obtain ⟨c,hc,hm⟩ := hlt
  exact ⟨c,hc,of_decide_eq_true hm⟩
theorem win2_le (d m : Nat) (C : List CondD) : sumTo (win2 d m C) C.length ≤ d ^ (2 * m) := by rw [win2_sum];exact cnt2_le _
end Go.Proofs.YtldikghldcefcaaGreat
end
section
set_option linter.unusedVariables false
set_option linter.unusedSimpArgs false
namespace Go.Proofs.YtldikghldcefcaaGreat
open Go.RowKit
def NRow (w : World) (g : Nat) (l : List NatM) : Prop := Row w g 30 (l.map (·.1)) ∧ ∀ p ∈ l,NV w p.1 p.2
theorem NRow.keep {w w' : World} {g : Nat} {l : List NatM} (h : NRow w g l) (hb : Below w.heap.size w w') : NRow w' g l := ⟨Row.keep h.1 hb,fun p hp => Rd.below (h.2 p hp) hb⟩
theorem NRow.cell {w : World} {g i : Nat} {l : List NatM} {p : NatM} (h : NRow w g l) (hi : l[i]? = some p) : w.cell? ⟨g,i,none⟩ = some p.1 := (h.1.cell? i).trans (by rw [List.getElem?_map,hi];rfl)
theorem NRow.set {w : World} {g i : Nat} {l : List NatM} (h : NRow w g l) (hi : i < l.length) {u : Value} {x : Nat} (hu : NV w u x) : NRow (w.setCell ⟨g,i,none⟩ u) g (l.set i (u,x)) := by
 have hc := h.cell (List.getElem?_eq_getElem hi)
 obtain ⟨a,b,c,hs⟩ := Rd.shape (h.2 _ (List.getElem_mem hi))
 have hne : ∀ y,U32 y ≠ (l[i]).1 := fun y e => by rw [hs] at e;cases e
 refine ⟨by rw [List.map_set];exact Row.set h.1 i u,fun p hp => ?_⟩
 rcases List.mem_or_eq_of_mem_set hp with hp | rfl
 ·exact Rd.setNe (h.2 p hp) hc hne u
 ·exact Rd.setNe hu hc hne u
theorem NRow.other {w : World} {g g' i : Nat} {l : List NatM} (h : NRow w g l) (hg : g ≠ g') {a : Option Addr} {b c : Nat} (hc : w.cell? ⟨g',i,none⟩ = some (.slice a b c)) (u : Value) : NRow (w.setCell ⟨g',i,none⟩ u) g l :=
 ⟨Row.far h.1 hg u,fun p hp => Rd.setNe (h.2 p hp) hc (fun _ e => by cases e) u⟩
theorem NRow.get {w : World} {g i y : Nat} {l : List NatM} (h : NRow w g l) (hy : (l.map (·.2))[i]? = some y) : ∃ a b c,l[i]? = some (.slice a b c,y) ∧ w.cell? ⟨g,i,none⟩ = some (.slice a b c) ∧ NV w (.slice a b c) y := by
 rw [List.getElem?_map] at hy
 obtain ⟨p,hp,rfl⟩ := Option.map_eq_some_iff.1 hy
 have h1 := h.2 p (List.mem_of_getElem? hp)
 obtain ⟨a,b,c,hs⟩ := Rd.shape h1
 have h2 := h.cell hp
 rw [hs] at h1 h2
 exact ⟨a,b,c,by rw [hp,← hs],h2,h1⟩
theorem NRow.zero {w : World} {g n : Nat} (h : Row w g 30 (List.replicate n (.slice none 0 0))) : NRow w g (List.replicate n ((.slice none 0 0),0)) :=
 ⟨by rw [List.map_replicate];exact h,fun p hp => by rw [(List.mem_replicate.1 hp).2];exact NV.zero _⟩
theorem bxP_le (d m : Nat) : bxP d m ≤ d ^ (2 * m) := by rw [bxP_count];exact cnt2_le _
theorem bxP_limbs {d m : Nat} (hd : d ≤ 10) (hm : m ≤ 10) : (limbs (bxP d m)).length ≤ 3 := by
 have h1 := bxP_le d m
 have h2 : d ^ (2 * m) ≤ 10 ^ (2 * m) := Nat.pow_le_pow_left hd _
 have h3 : 10 ^ (2 * m) ≤ 10 ^ 20 := Nat.pow_le_pow_right (by omega) (by omega)
 have e1 : (10 : Nat) ^ 20 = 100000000000000000000 := by decide
 have e2 : (4294967296 : Nat) ^ 3 = 79228162514264337593543950336 := by decide
 exact length_limbs_lt.1 (by omega)
def bxT (k i j : Nat) : Nat := choose i j * choose i j * bxP k (i - j)
theorem bxP_sum (k i : Nat) : bxP (k + 1) i = sumTo (bxT k i) (i + 1) := rfl
theorem bxT_part {k i j : Nat} (h : j ≤ i) : sumTo (bxT k i) j + bxT k i j ≤ bxP (k + 1) i := by
 rw [bxP_sum]
 have : sumTo (bxT k i) (j + 1) ≤ sumTo (bxT k i) (i + 1) := sumTo_mono (by omega)
 rwa [sumTo] at this
theorem ch_limbs {i j : Nat} (hi : i ≤ 10) : (limbs (choose i j)).length ≤ 1 := by
 have h1 : choose i j ≤ 2 ^ i := choose_le i j
 have h2 : 2 ^ i ≤ 2 ^ 10 := Nat.pow_le_pow_right (by omega) hi
 have h3 : (2 : Nat) ^ 10 = 1024 := by decide
 exact length_limbs_lt.1 (by rw [Nat.pow_one];omega)
def rowV (N k i s : Nat) : List Nat := (List.range i).map (bxP (k + 1)) ++ s :: List.replicate (N - i - 1) 0
def rowW (N k i : Nat) : List Nat := (List.range i).map (bxP (k + 1)) ++ List.replicate (N - i) 0
theorem rowW_V {N k i : Nat} (h : i < N) : rowW N k i = rowV N k i 0 := by
 unfold rowW rowV
 obtain ⟨q,hq⟩ : ∃ q,N - i = q + 1 := ⟨N - i - 1,by omega⟩
 rw [hq,List.replicate_succ,Nat.add_sub_cancel]
theorem rowV_W {N k i : Nat} (h : i < N) : rowV N k i (bxP (k + 1) i) = rowW N k (i + 1) := by
 unfold rowW rowV
 rw [List.range_succ,List.map_append,List.append_assoc,show N - (i + 1) = N - i - 1 by omega]
 rfl
theorem rowV_get (N k i s : Nat) : (rowV N k i s)[i]? = some s := by
 unfold rowV
 rw [List.getElem?_append_right (by simp)]
 simp
theorem rowV_set (N k i s t : Nat) : (rowV N k i s).set i t = rowV N k i t := by
 unfold rowV
 rw [List.set_append_right _ _ (by simp)]
 simp
theorem rowV_len {N k i s : Nat} (h : i < N) : (rowV N k i s).length = N := by
 unfold rowV
 simp
 omega
theorem rowW_end (N k : Nat) : rowW N k N = (List.range N).map (bxP (k + 1)) := by
 unfold rowW
 simp
theorem row_get {N k q : Nat} (h : q < N) : ((List.range N).map (bxP k))[q]? = some (bxP k q) := by
 rw [List.getElem?_map,List.getElem?_range h]
 rfl
structure BxS (w wr : World) (gp gn : Nat) (l1 l2 : List NatM) : Prop where
 bel : Below w.heap.size w wr
 res : Row wr w.heap.size 30 [.slice none 0 0]
 r1 : NRow wr gp l1
 r2 : NRow wr gn l2
 h1 : w.heap.size < gp
 h2 : gp < gn
section
variable {w wr wr' : World} {gp gn : Nat} {l1 l2 : List NatM}
theorem BxS.keep (h : BxS w wr gp gn l1 l2) (hb : Below wr.heap.size wr wr') : BxS w wr' gp gn l1 l2 := ⟨Bel.to h.bel hb,Row.keep h.res hb,h.r1.keep hb,h.r2.keep hb,h.h1,h.h2⟩
theorem BxS.lt (h : BxS w wr gp gn l1 l2) : gn < wr.heap.size := h.r2.1.lt
theorem BxS.far (h : BxS w wr gp gn l1 l2) {b x3 x4 : Nat} {x2 : Option Addr} (hb : gn < b) (hc : wr.cell? ⟨b,0,none⟩ = some (.slice x2 x3 x4)) (u : Value) : BxS w (wr.setCell ⟨b,0,none⟩ u) gp gn l1 l2 := by
 have a1 := h.h1
 have a2 := h.h2
 exact ⟨Bel.st h.bel (p := ⟨b,0,none⟩) (by simp only [];omega) u,Row.far h.res (p := ⟨b,0,none⟩) (by simp only [];omega) u,h.r1.other (by omega) hc u,h.r2.other (by omega) hc u,a1,a2⟩
theorem BxS.put (h : BxS w wr gp gn l1 l2) {i x : Nat} (hi : i < l2.length) {u : Value} (hu : NV wr u x) : BxS w (wr.setCell ⟨gn,i,none⟩ u) gp gn l1 (l2.set i (u,x)) := by
 have a1 := h.h1
 have a2 := h.h2
 have hc := h.r2.cell (List.getElem?_eq_getElem hi)
 obtain ⟨a,b,c,hs⟩ := Rd.shape (h.r2.2 _ (List.getElem_mem hi))
 rw [hs] at hc
 exact ⟨Bel.st h.bel (p := ⟨gn,i,none⟩) (by simp only [];omega) u,Row.far h.res (p := ⟨gn,i,none⟩) (by simp only [];omega) u,h.r1.other (by omega) hc u,h.r2.set hi hu,a1,a2⟩
end
theorem bx_start (N : Nat) (u : Value) : ((List.replicate (N + 1) ((.slice none 0 0 : Value),0)).set 0 (u,1)).map (fun p : NatM => p.2) = (List.range (N + 1)).map (bxP 0) := by
 rw [List.replicate_succ,zsB,List.map_cons,List.map_replicate,List.range_succ_eq_map,List.map_cons,List.map_map]
 congr 1
 symm
 rw [List.eq_replicate_iff]
 refine ⟨by simp,fun b hb => ?_⟩
 obtain ⟨x,_,rfl⟩ := List.mem_map.1 hb
 rfl
theorem chZ_nat (n k : Nat) : chZ (n : Int) (k : Int) = choose n k := by
 unfold chZ chooseI
 rw [if_neg (by omega),if_neg (by omega),Int.toNat_natCast,Int.toNat_natCast]
theorem len_of_snd {l : List NatM} {L : List Nat} {N : Nat} (h : l.map (fun p : NatM => p.2) = L) (hL : L.length = N) : l.length = N := by rw [← hL,← h,List.length_map]
set_option maxHeartbeats 16000000 in
set_option maxRecDepth 100000 in
theorem obox_any (d m : Nat) (w : World) (hd : d ≤ 10) (hm : m ≤ 10) :
  Calls Tryz.prog 122 #[.int .i64 (d : Int),.int .i64 (m : Int)] w (NatC (bxP d m) 0 w) := by
 have hR0 : Row (w.alloc (.cells #[.slice none 0 0] 30)) w.heap.size 30 [.slice none 0 0] := Row.newOf _ rfl
 obtain ⟨N,hN⟩ : ∃ N,N = m + 1 := ⟨_,rfl⟩
 have hNi : IntKind.i64.wrap ((m : Int) + 1) = (N : Int) := by rw [IntKind.wrap_i64];omega
 have hN0 : (0 : Int) < (N : Int) := by omega
 have hN11 : N ≤ 11 := by omega
 have hmN : (m : Int) < (N : Int) := by omega
 have hm0 : (0 : Int) ≤ (m : Int) := by omega
 have hd10 : (d : Int) ≤ 10 := by omega
 have hm10 : (m : Int) ≤ 10 := by omega
 obtain ⟨P,hP⟩ : ∃ P,P = bxP d m := ⟨_,rfl⟩
 rw [← hP]
 replace hP := hide hP
 replace hN := hide hN
 have cC := hide (fun (i j : Nat) X (hi : i ≤ 10) => ochoose_any (i : Int) (j : Int) X (by omega))
 go_enter Tryz.func122,Tryz.ntmps122
 go_upto_region 2 with (first | (with_reducible refine wpList_make_one _ rfl _ _ 77 rfl 30 (.slice none 0 0) 24 Tryz.underlying77 infoNat .i64 .i64 _ _ N rfl rfl rfl rfl (by omega) (by omega) ?_;intro w3 hrow hb3 hz3) | fail)
 obtain ⟨g,hg⟩ : ∃ g,g = w.heap.size + 1 := ⟨_,rfl⟩
 have rR := Row.keep hR0 hb3
 have bel := Bel.one _ hb3
 have hs1 : (w.alloc (.cells #[.slice none 0 0] 30)).heap.size = w.heap.size + 1 := by simp
 rw [hs1,← hg] at hrow
 (try rw [hs1])
 rw [← hg]
 clear hs1
 have hwg : w.heap.size < g := by omega
 clear hR0 hb3 hg hz3
 have hn0 := NRow.zero hrow
 clear hrow
 go_wp2_with fail
 refine (of_int 1 _ (by omega) (by omega)).mono ?_
 rintro e w4 ⟨u,rfl,hu,hb4⟩
 obtain ⟨ua,ul,uc,rfl⟩ := Rd.shape hu
 replace rR := Row.keep rR hb4
 replace bel := Bel.to bel hb4
 replace hn0 := hn0.keep hb4
 have c0 := hn0.cell (i := 0) (p := (.slice none 0 0,0)) (by rw [hN.out,List.replicate_succ];rfl)
 simp only [] at c0
 have f0 := hn0.1.frozen 0
 have hu : NV w4 (.slice ua ul uc) 1 := hu
 have hn1 := hn0.set (i := 0) (by rw [hN.out];simp) hu
 have e1 : Hid ((((List.replicate N ((.slice none 0 0 : Value),0)).set 0 (.slice ua ul uc,1)).map (fun p : NatM => p.2)) = (List.range N).map (bxP 0)) := by show _ = _;rw [hN.out];exact bx_start m _
 obtain ⟨l0,hl0⟩ : ∃ l,l = (List.replicate N ((.slice none 0 0 : Value),0)).set 0 (.slice ua ul uc,1) := ⟨_,rfl⟩
 rw [← hl0] at hn1 e1
 replace rR := Row.far rR (p := ⟨g,0,none⟩) (by simp only [];omega) (.slice ua ul uc)
 replace bel := Bel.st bel (p := ⟨g,0,none⟩) (by simp only [];omega) (.slice ua ul uc)
 clear hb4 hu hn0 hl0
 go_upto_region 3 with (fail)
 clear c0 f0
 obtain ⟨w5,hw5⟩ : ∃ X,X = w4.setCell ⟨g,0,none⟩ (.slice ua ul uc) := ⟨_,rfl⟩
 rw [← hw5] at hn1 rR bel ⊢
 clear hw5
 go_wp2
 go_loopg [6,20] d (fun gh t6 t20 wr => ∃ (k gp : Nat) (l1 : List NatM),gh = d - k ∧ k ≤ d ∧ t6 = .slice (some ⟨gp,0,none⟩) N N ∧ t20 = .int .i64 (k : Int) ∧ Hid (l1.map (fun p : NatM => p.2) = (List.range N).map (bxP k)) ∧ NRow wr gp l1 ∧ Hid (w.heap.size < gp) ∧ Row wr w.heap.size 30 [.slice none 0 0] ∧ Below w.heap.size w wr)
 case atStart => exact ⟨0,g,l0,rfl,Nat.zero_le _,rfl,rfl,e1,hn1,hwg,rR,bel⟩
 case round =>
  clear e1 hn1 rR bel hwg
  obtain ⟨k,gp,l1,hgk,hk,rfl,rfl,e1,hn1,hwg,rR,bel⟩ := hrel
  replace hgk := hide hgk
  by_cases hlt : k < d
  ·have hlt2 := hide hlt
   have ki : (k : Int) < (d : Int) := by omega
   have hk9 := hide (show k ≤ 9 by omega)
   clear hlt
   go_upto_region 6 with (first | (with_reducible refine wpList_make_one _ rfl _ _ 77 rfl 30 (.slice none 0 0) 24 Tryz.underlying77 infoNat .i64 .i64 _ _ N rfl rfl rfl rfl (by omega) (by omega) ?_;intro w7 hrow hb7 hz7) | fail)
   obtain ⟨gn,hgn⟩ : ∃ g,g = wr.heap.size := ⟨_,rfl⟩
   rw [← hgn] at hrow ⊢
   have hgg : gp < gn := by have := hn1.1.lt;omega
   have hS : BxS w w7 gp gn l1 (List.replicate N ((.slice none 0 0 : Value),0)) := ⟨Bel.to bel hb7,Row.keep rR hb7,hn1.keep hb7,NRow.zero hrow,hwg.out,hgg⟩
   have e2 : Hid ((List.replicate N ((.slice none 0 0 : Value),0)).map (fun p : NatM => p.2) = rowW N k 0) := by show _ = _;unfold rowW;simp
   obtain ⟨l2,hl2⟩ : ∃ l,l = List.replicate N ((.slice none 0 0 : Value),0) := ⟨_,rfl⟩
   rw [← hl2] at hS e2
   clear hl2 hgg hrow hb7 hz7 hgn hn1 rR bel hwg
   go_wp2
   go_loopg [27] N (fun gh t27 wr => ∃ (n : Nat) (l2 : List NatM),gh = N - n ∧ n ≤ N ∧ t27 = .int .i64 (n : Int) ∧ Hid (l2.map (fun p : NatM => p.2) = rowW N k n) ∧ BxS w wr gp gn l1 l2)
   case atStart => exact ⟨0,l2,rfl,Nat.zero_le _,rfl,e2,hS⟩
   case round =>
    clear e2 hS l2
    obtain ⟨n,l2,hgn,hn,rfl,e2,hS⟩ := hrel
    replace hgn := hide hgn
    by_cases hnl : n < N
    ·have hnl2 := hide hnl
     have ni : (n : Int) < (N : Int) := by omega
     have n10 : (n : Int) ≤ 10 := by omega
     have n10' := hide (show n ≤ 10 by omega)
     replace e2 : Hid (l2.map (fun p : NatM => p.2) = rowV N k n 0) := by show _ = _;rw [← rowW_V hnl];exact e2.out
     clear hnl
     go_wp2
     obtain ⟨wo2,hwo2⟩ : ∃ wo,wo = wr := ⟨_,rfl⟩
     rw [← hwo2] at hS ⊢
     clear hwo2
     go_loopg [32] (n + 1) (fun gh t32 wr => ∃ (j s : Nat) (l2 : List NatM),gh = n + 1 - j ∧ j ≤ n + 1 ∧ t32 = .int .i64 (j : Int) ∧ Hid (s = sumTo (bxT k n) j) ∧ Hid (l2.map (fun p : NatM => p.2) = rowV N k n s) ∧ BxS w wr gp gn l1 l2)
     case atStart => exact ⟨0,0,l2,rfl,Nat.zero_le _,rfl,rfl,e2,hS⟩
     case round =>
      clear e2 hS l2
      obtain ⟨j,s,l2,hgj,hj,rfl,hs,e2,hS⟩ := hrel
      replace hgj := hide hgj
      by_cases hjl : j < n + 1
      ·have ji : (j : Int) < (n : Int) + 1 := by omega
       have jl2 := hide hjl
       have cC2 := hide (fun X => cC.out n j X n10'.out)
       rw [chZ_nat] at cC2
       obtain ⟨q,hq⟩ : ∃ q,q = n - j := ⟨_,rfl⟩
       have a5 : IntKind.i64.wrap ((n : Int) - (j : Int)) = (q : Int) := by rw [IntKind.wrap_i64];omega
       have q0 : (0 : Int) ≤ (q : Int) := by omega
       have qN : (q : Int) < (N : Int) := by have := hnl2.out;omega
       obtain ⟨y,hyd⟩ : ∃ y,y = bxT k n j := ⟨_,rfl⟩
       have hpr : Hid (prodL [choose n j,choose n j,bxP k q] = y) := by show _ = _;rw [hyd,hq];simp only [prodL,Nat.mul_one];unfold bxT;rw [Nat.mul_assoc]
       have hsy : s + y ≤ bxP (k + 1) n := by rw [hs.out,hyd];exact bxT_part (by omega)
       have hs2 : Hid (s + y = sumTo (bxT k n) (j + 1)) := by show _ = _;rw [sumTo,hs.out,hyd]
       have hlim := bxP_limbs (d := k + 1) (m := n) (by have := hk9.out;omega) n10'.out
       have hl1 : (limbs (s + y)).length ≤ 64 := by have := limbs_len_le hsy;omega
       have hl2 : (limbs s).length ≤ 64 := by have := limbs_len_le (Nat.le_trans (Nat.le_add_right s y) hsy);omega
       have hl3 : (limbs y).length ≤ 64 := by have := limbs_len_le (Nat.le_trans (Nat.le_add_left y s) hsy);omega
       have hlv : Hid (limS [choose n j,choose n j,bxP k q] ≤ 63) := by
        have h1 := ch_limbs (i := n) (j := j) n10'.out
        have h2 := bxP_limbs (d := k) (m := q) (by have := hk9.out;omega) (by have := n10'.out;omega)
        show _ ≤ _
        simp [limS]
        omega
       have hqN := hide (show q < N by omega)
       clear hq hyd hsy hlim hs hjl
       go_wp2_with fail
       refine (cC2.out _).mono ?_
       rintro e w6 ⟨u,rfl,hu,hb6⟩
       obtain ⟨ca,cl,cc,rfl⟩ := Rd.shape hu
       replace hS := hS.keep hb6
       clear hb6 cC2
       go_upto_region 13 with (fail)
       obtain ⟨b10,hb10⟩ : ∃ b,b = w6.heap.size := ⟨_,rfl⟩
       have hgb : gn < b10 := by have := hS.lt;omega
       obtain ⟨w7,hw7⟩ : ∃ X,X = w6.alloc (.cells #[.slice ca cl cc] 30) := ⟨_,rfl⟩
       have b7 : Below w6.heap.size w6 w7 := by rw [hw7];exact Bel.al (Below.refl _ _) _
       have r10 : Row w7 b10 30 [.slice ca cl cc] := by rw [hw7,hb10];exact Row.newOf _ rfl
       rw [← hw7,← hb10]
       clear hw7 hb10
       replace hS := hS.keep b7
       replace hu := Rd.below hu b7
       clear b7
       have c10 := r10.cell? 0
       simp only [List.getElem?_cons_zero] at c10
       obtain ⟨pa,pl,pc,hp1,cgp,hpv⟩ := hS.r1.get (i := q) (y := bxP k q) (by rw [e1.out];exact row_get hqN.out)
       clear hp1
       have cPr : Hid (∀ (X : World) {b : Nat},NatsR X (.slice (some ⟨b,0,none⟩) 3 3) [(.slice ca cl cc,choose n j),(.slice ca cl cc,choose n j),(.slice pa pl pc,bxP k q)] → Calls Tryz.prog 40 #[.slice (some ⟨b,0,none⟩) 3 3] X (NatC y 0 X)) := fun X b hX => by
        have h := oprod_any _ _ X hX (by simpa using hlv.out) (by simp)
        rw [show prodL (([(.slice ca cl cc,choose n j),(.slice ca cl cc,choose n j),(.slice pa pl pc,bxP k q)] : List NatM).map (fun p : NatM => p.2)) = y from hpr.out] at h
        exact h
       clear hlv hpr
       go_upto_region 15 with (fail)
       go_cut [12,11] (fun p cd X => ∃ (pb : Nat) (ua : Option Addr) (ul uc : Nat),p = .pointer (some ⟨pb,0,none⟩) ∧ cd = .int .i64 0 ∧ gn < pb ∧ BxS w X gp gn l1 l2 ∧ Row X pb 30 [.slice ua ul uc] ∧ NV X (.slice ua ul uc) y)
       case first =>
        refine till_begin 14 (fun X => X.cell? ⟨b10,0,none⟩ = some (.slice ca cl cc) ∧ X.cell? ⟨gp,q,none⟩ = some (.slice pa pl pc)) (by kernel_rfl) (⟨c10,cgp⟩) (fun hHeld => ?_)
        refine' till_take (i := 0) (oi := _) (v := .agg #[.slice ca cl cc]) rfl (by kernel_rfl) (by kernel_rfl) (by kernel_rfl) (by kernel_rfl) (fun _ _ _ h => h) (Or.inl ⟨by first | (go_simp;done) | rfl,fun X hX => by have h0 := hX.1;go_simp⟩) hHeld ?_
        try simp only [Act.put,zsA,zsB,zsC]
        refine' till_take (i := 1) (oi := _) (v := .agg #[.slice ca cl cc]) rfl (by kernel_rfl) (by kernel_rfl) (by kernel_rfl) (by kernel_rfl) (fun _ _ _ h => h) (Or.inl ⟨by first | (go_simp;done) | rfl,fun X hX => by have h0 := hX.1;go_simp⟩) hHeld ?_
        try simp only [Act.put,zsA,zsB,zsC]
        refine' till_pure (i := 2) (oi := _) (v := .slice (some ⟨gp,0,none⟩) N N) rfl (by kernel_rfl) (by kernel_rfl) (by kernel_rfl) (by kernel_rfl) (fun _ _ _ h => h) (Or.inl ⟨by first | (go_simp;done) | rfl,fun X _ => by go_simp⟩) hHeld ?_
        try simp only [Act.put,zsA,zsB,zsC]
        refine' till_pure (i := 3) (oi := _) (v := .int .i64 (n : Int)) rfl (by kernel_rfl) (by kernel_rfl) (by kernel_rfl) (by kernel_rfl) (fun _ _ _ h => h) (Or.inl ⟨by first | (go_simp;done) | rfl,fun X _ => by go_simp⟩) hHeld ?_
        try simp only [Act.put,zsA,zsB,zsC]
        refine' till_pure (i := 4) (oi := _) (v := .int .i64 (j : Int)) rfl (by kernel_rfl) (by kernel_rfl) (by kernel_rfl) (by kernel_rfl) (fun _ _ _ h => h) (Or.inl ⟨by first | (go_simp;done) | rfl,fun X _ => by go_simp⟩) hHeld ?_
        try simp only [Act.put,zsA,zsB,zsC]
        refine' till_pure (i := 5) (oi := _) (v := .int .i64 (q : Int)) rfl (by kernel_rfl) (by kernel_rfl) (by kernel_rfl) (by kernel_rfl) (fun _ _ _ h => h) (Or.inl ⟨by first | (go_simp;done) | rfl,fun X _ => by go_simp⟩) hHeld ?_
        try simp only [Act.put,zsA,zsB,zsC]
        refine' till_pure (i := 6) (oi := _) (v := .pointer (some ⟨gp,q,none⟩)) rfl (by kernel_rfl) (by kernel_rfl) (by kernel_rfl) (by kernel_rfl) (fun _ _ _ h => h) (Or.inl ⟨by first | (go_simp;done) | rfl,fun X _ => by go_simp⟩) hHeld ?_
        try simp only [Act.put,zsA,zsB,zsC]
        refine' till_take (i := 7) (oi := _) (v := .agg #[.slice pa pl pc]) rfl (by kernel_rfl) (by kernel_rfl) (by kernel_rfl) (by kernel_rfl) (fun _ _ _ h => h) (Or.inl ⟨by first | (go_simp;done) | rfl,fun X hX => by have h0 := hX.2;go_simp⟩) hHeld ?_
        try simp only [Act.put,zsA,zsB,zsC]
        obtain ⟨Y0,hY0⟩ : ∃ Y,Y = w7.drew := ⟨_,rfl⟩
        have hY1 : Below w7.heap.size w7 Y0 := by rw [hY0];exact Below.drew (Below.refl _ _)
        replace hS := hS.keep hY1
        replace hu := Rd.below hu hY1
        replace hpv := Rd.below hpv hY1
        rw [← hY0] at hHeld ⊢
        clear hY0 hY1 c10 cgp r10
        refine till_ready (rs := [8,13]) (by kernel_rfl) (by simp) ?_
        refine TillReady.cons (o := _) rfl (fun K hK => ?_) (TillReady.cons (o := _) rfl (fun K hK => ?_) TillReady.nil)
        ·skip
         go_simp
         obtain ⟨x18,hx18⟩ : ∃ X,X = Y0.alloc (.cells #[.slice ca cl cc,.slice ca cl cc,.slice pa pl pc] 30) := ⟨_,rfl⟩
         have bx18 : Below Y0.heap.size Y0 x18 := by rw [hx18];exact Bel.al (Below.refl _ _) _
         have r21 : Row x18 Y0.heap.size 30 ([(.slice ca cl cc,choose n j),(.slice ca cl cc,choose n j),(.slice pa pl pc,bxP k q)].map (fun p : NatM => p.1)) := by rw [hx18];exact Row.newOf _ rfl
         rw [← hx18]
         clear hx18
         replace hS := hS.keep bx18
         replace hu := Rd.below hu bx18
         replace hpv := Rd.below hpv bx18
         have hN21 := Row.nats (n := 3) r21 rfl (by decide) (fun p hp => by
          simp only [List.mem_cons,List.not_mem_nil,or_false] at hp
          rcases hp with rfl | rfl | rfl
          ·exact hu
          ·exact hu
          ·exact hpv)
         clear r21
         refine hK.out _ _ ⟨Bel.cellOf bx18 hHeld.1,Bel.cellOf bx18 hHeld.2⟩ (fun hHeld => ?_)
         clear hK K bx18
         try simp only [Act.put,zsA,zsB,zsC]
         refine till_ready (rs := [9,13]) (by kernel_rfl) (by simp) ?_
         refine TillReady.cons (o := _) rfl (fun K hK => ?_) (TillReady.cons (o := _) rfl (fun K hK => ?_) TillReady.nil)
         ·skip
          go_simp
          refine (cPr.out x18 hN21).mono ?_
          rintro e x29 ⟨u,rfl,hy,bx29⟩
          obtain ⟨ua,ul,uc,rfl⟩ := Rd.shape hy
          replace hS := hS.keep bx29
          replace hu := Rd.below hu bx29
          replace hpv := Rd.below hpv bx29
          replace hN21 := hN21.below bx29
          clear hN21
          go_wp2_with fail
          refine hK.out _ _ ⟨Bel.cellOf bx29 hHeld.1,Bel.cellOf bx29 hHeld.2⟩ (fun hHeld => ?_)
          clear hK K bx29
          try simp only [Act.put,zsA,zsB,zsC]
          refine' till_pure (i := 10) (oi := _) (v := .tuple #[.agg #[.slice ua ul uc],.int .i64 0]) rfl (by kernel_rfl) (by kernel_rfl) (by kernel_rfl) (by kernel_rfl) (fun _ _ _ h => h) (Or.inl ⟨by first | (go_simp;done) | rfl,fun X _ => by go_simp⟩) hHeld ?_
          try simp only [Act.put,zsA,zsB,zsC]
          refine' till_pure (i := 11) (oi := _) (v := .agg #[.slice ua ul uc]) rfl (by kernel_rfl) (by kernel_rfl) (by kernel_rfl) (by kernel_rfl) (fun _ _ _ h => h) (Or.inl ⟨by first | (go_simp;done) | rfl,fun X _ => by go_simp⟩) hHeld ?_
          try simp only [Act.put,zsA,zsB,zsC]
          refine' till_pure (i := 12) (oi := _) (v := .int .i64 0) rfl (by kernel_rfl) (by kernel_rfl) (by kernel_rfl) (by kernel_rfl) (fun _ _ _ h => h) (Or.inl ⟨by first | (go_simp;done) | rfl,fun X _ => by go_simp⟩) hHeld ?_
          try simp only [Act.put,zsA,zsB,zsC]
          refine till_ready (rs := [13]) (by kernel_rfl) (by simp) ?_
          refine TillReady.cons (o := _) rfl (fun K hK => ?_) TillReady.nil
          go_simp
          obtain ⟨x313,hx313⟩ : ∃ X,X = x29.alloc (.cells #[.slice none 0 0] 30) := ⟨_,rfl⟩
          have bx313 : Below x29.heap.size x29 x313 := by rw [hx313];exact Bel.al (Below.refl _ _) _
          have rp : Row x313 x29.heap.size 30 [.slice none 0 0] := by rw [hx313];exact Row.newOf _ rfl
          have hb12 : gn < x29.heap.size := hS.lt
          rw [← hx313]
          clear hx313
          replace hS := hS.keep bx313
          replace hu := Rd.below hu bx313
          replace hpv := Rd.below hpv bx313
          replace hy := Rd.below hy bx313
          refine hK.out _ _ ⟨Bel.cellOf bx313 hHeld.1,Bel.cellOf bx313 hHeld.2⟩ (fun hHeld => ?_)
          clear hK K bx313
          try simp only [Act.put,zsA,zsB,zsC]
          have cp9 := rp.cell? 0
          have fp9 := rp.frozen 0
          simp only [List.getElem?_cons_zero] at cp9
          refine till_ready (rs := [14]) (by kernel_rfl) (by simp) ?_
          refine TillReady.last (o := _) rfl (by kernel_rfl) (fun K hK => ?_) TillReady.nil
          go_simp
          refine hK.out _ _ ?_
          clear hK K
          try simp only [Act.put,zsA,zsB,zsC]
          refine' till_late (i := 15) (oi := _) (v := .int .i64 0) rfl (by kernel_rfl) (by kernel_rfl) (Or.inl ⟨by first | (go_simp;done) | rfl,fun X _ => by go_simp⟩) ?_
          try simp only [Act.put,zsA,zsB,zsC]
          refine till_done (by kernel_rfl) ?_ _
          go_simp
          go_wp2_with fail
          go_meet
          exact ⟨_,ua,ul,uc,rfl,rfl,hb12,hS.far hb12 cp9 _,Row.set rp 0 _,Rd.setNe hy cp9 (fun _ h => by cases h) _⟩
         ·skip
          go_simp
          obtain ⟨x213,hx213⟩ : ∃ X,X = x18.alloc (.cells #[.slice none 0 0] 30) := ⟨_,rfl⟩
          have bx213 : Below x18.heap.size x18 x213 := by rw [hx213];exact Bel.al (Below.refl _ _) _
          have rp : Row x213 x18.heap.size 30 [.slice none 0 0] := by rw [hx213];exact Row.newOf _ rfl
          have hb12 : gn < x18.heap.size := hS.lt
          rw [← hx213]
          clear hx213
          replace hS := hS.keep bx213
          replace hu := Rd.below hu bx213
          replace hpv := Rd.below hpv bx213
          replace hN21 := hN21.below bx213
          refine hK.out _ _ ⟨Bel.cellOf bx213 hHeld.1,Bel.cellOf bx213 hHeld.2⟩ (fun hHeld => ?_)
          clear hK K bx213
          try simp only [Act.put,zsA,zsB,zsC]
          refine till_ready (rs := [9]) (by kernel_rfl) (by simp) ?_
          refine TillReady.cons (o := _) rfl (fun K hK => ?_) TillReady.nil
          go_simp
          refine (cPr.out x213 hN21).mono ?_
          rintro e x39 ⟨u,rfl,hy,bx39⟩
          obtain ⟨ua,ul,uc,rfl⟩ := Rd.shape hy
          replace hS := hS.keep bx39
          replace hu := Rd.below hu bx39
          replace hpv := Rd.below hpv bx39
          replace hN21 := hN21.below bx39
          replace rp := Row.keep rp bx39
          clear hN21
          go_wp2_with fail
          refine hK.out _ _ ⟨Bel.cellOf bx39 hHeld.1,Bel.cellOf bx39 hHeld.2⟩ (fun hHeld => ?_)
          clear hK K bx39
          try simp only [Act.put,zsA,zsB,zsC]
          refine' till_pure (i := 10) (oi := _) (v := .tuple #[.agg #[.slice ua ul uc],.int .i64 0]) rfl (by kernel_rfl) (by kernel_rfl) (by kernel_rfl) (by kernel_rfl) (fun _ _ _ h => h) (Or.inl ⟨by first | (go_simp;done) | rfl,fun X _ => by go_simp⟩) hHeld ?_
          try simp only [Act.put,zsA,zsB,zsC]
          refine' till_pure (i := 11) (oi := _) (v := .agg #[.slice ua ul uc]) rfl (by kernel_rfl) (by kernel_rfl) (by kernel_rfl) (by kernel_rfl) (fun _ _ _ h => h) (Or.inl ⟨by first | (go_simp;done) | rfl,fun X _ => by go_simp⟩) hHeld ?_
          try simp only [Act.put,zsA,zsB,zsC]
          refine' till_pure (i := 12) (oi := _) (v := .int .i64 0) rfl (by kernel_rfl) (by kernel_rfl) (by kernel_rfl) (by kernel_rfl) (fun _ _ _ h => h) (Or.inl ⟨by first | (go_simp;done) | rfl,fun X _ => by go_simp⟩) hHeld ?_
          try simp only [Act.put,zsA,zsB,zsC]
          have cp9 := rp.cell? 0
          have fp9 := rp.frozen 0
          simp only [List.getElem?_cons_zero] at cp9
          refine till_ready (rs := [14]) (by kernel_rfl) (by simp) ?_
          refine TillReady.last (o := _) rfl (by kernel_rfl) (fun K hK => ?_) TillReady.nil
          go_simp
          refine hK.out _ _ ?_
          clear hK K
          try simp only [Act.put,zsA,zsB,zsC]
          refine' till_late (i := 15) (oi := _) (v := .int .i64 0) rfl (by kernel_rfl) (by kernel_rfl) (Or.inl ⟨by first | (go_simp;done) | rfl,fun X _ => by go_simp⟩) ?_
          try simp only [Act.put,zsA,zsB,zsC]
          refine till_done (by kernel_rfl) ?_ _
          go_simp
          go_wp2_with fail
          go_meet
          exact ⟨_,ua,ul,uc,rfl,rfl,hb12,hS.far hb12 cp9 _,Row.set rp 0 _,Rd.setNe hy cp9 (fun _ h => by cases h) _⟩
        ·skip
         go_simp
         obtain ⟨x113,hx113⟩ : ∃ X,X = Y0.alloc (.cells #[.slice none 0 0] 30) := ⟨_,rfl⟩
         have bx113 : Below Y0.heap.size Y0 x113 := by rw [hx113];exact Bel.al (Below.refl _ _) _
         have rp : Row x113 Y0.heap.size 30 [.slice none 0 0] := by rw [hx113];exact Row.newOf _ rfl
         have hb12 : gn < Y0.heap.size := hS.lt
         rw [← hx113]
         clear hx113
         replace hS := hS.keep bx113
         replace hu := Rd.below hu bx113
         replace hpv := Rd.below hpv bx113
         refine hK.out _ _ ⟨Bel.cellOf bx113 hHeld.1,Bel.cellOf bx113 hHeld.2⟩ (fun hHeld => ?_)
         clear hK K bx113
         try simp only [Act.put,zsA,zsB,zsC]
         refine till_ready (rs := [8]) (by kernel_rfl) (by simp) ?_
         refine TillReady.cons (o := _) rfl (fun K hK => ?_) TillReady.nil
         go_simp
         obtain ⟨x28,hx28⟩ : ∃ X,X = x113.alloc (.cells #[.slice ca cl cc,.slice ca cl cc,.slice pa pl pc] 30) := ⟨_,rfl⟩
         have bx28 : Below x113.heap.size x113 x28 := by rw [hx28];exact Bel.al (Below.refl _ _) _
         have r21 : Row x28 x113.heap.size 30 ([(.slice ca cl cc,choose n j),(.slice ca cl cc,choose n j),(.slice pa pl pc,bxP k q)].map (fun p : NatM => p.1)) := by rw [hx28];exact Row.newOf _ rfl
         rw [← hx28]
         clear hx28
         replace hS := hS.keep bx28
         replace hu := Rd.below hu bx28
         replace hpv := Rd.below hpv bx28
         replace rp := Row.keep rp bx28
         have hN21 := Row.nats (n := 3) r21 rfl (by decide) (fun p hp => by
          simp only [List.mem_cons,List.not_mem_nil,or_false] at hp
          rcases hp with rfl | rfl | rfl
          ·exact hu
          ·exact hu
          ·exact hpv)
         clear r21
         refine hK.out _ _ ⟨Bel.cellOf bx28 hHeld.1,Bel.cellOf bx28 hHeld.2⟩ (fun hHeld => ?_)
         clear hK K bx28
         try simp only [Act.put,zsA,zsB,zsC]
         refine till_ready (rs := [9]) (by kernel_rfl) (by simp) ?_
         refine TillReady.cons (o := _) rfl (fun K hK => ?_) TillReady.nil
         go_simp
         refine (cPr.out x28 hN21).mono ?_
         rintro e x39 ⟨u,rfl,hy,bx39⟩
         obtain ⟨ua,ul,uc,rfl⟩ := Rd.shape hy
         replace hS := hS.keep bx39
         replace hu := Rd.below hu bx39
         replace hpv := Rd.below hpv bx39
         replace hN21 := hN21.below bx39
         replace rp := Row.keep rp bx39
         clear hN21
         go_wp2_with fail
         refine hK.out _ _ ⟨Bel.cellOf bx39 hHeld.1,Bel.cellOf bx39 hHeld.2⟩ (fun hHeld => ?_)
         clear hK K bx39
         try simp only [Act.put,zsA,zsB,zsC]
         refine' till_pure (i := 10) (oi := _) (v := .tuple #[.agg #[.slice ua ul uc],.int .i64 0]) rfl (by kernel_rfl) (by kernel_rfl) (by kernel_rfl) (by kernel_rfl) (fun _ _ _ h => h) (Or.inl ⟨by first | (go_simp;done) | rfl,fun X _ => by go_simp⟩) hHeld ?_
         try simp only [Act.put,zsA,zsB,zsC]
         refine' till_pure (i := 11) (oi := _) (v := .agg #[.slice ua ul uc]) rfl (by kernel_rfl) (by kernel_rfl) (by kernel_rfl) (by kernel_rfl) (fun _ _ _ h => h) (Or.inl ⟨by first | (go_simp;done) | rfl,fun X _ => by go_simp⟩) hHeld ?_
         try simp only [Act.put,zsA,zsB,zsC]
         refine' till_pure (i := 12) (oi := _) (v := .int .i64 0) rfl (by kernel_rfl) (by kernel_rfl) (by kernel_rfl) (by kernel_rfl) (fun _ _ _ h => h) (Or.inl ⟨by first | (go_simp;done) | rfl,fun X _ => by go_simp⟩) hHeld ?_
         try simp only [Act.put,zsA,zsB,zsC]
         have cp9 := rp.cell? 0
         have fp9 := rp.frozen 0
         simp only [List.getElem?_cons_zero] at cp9
         refine till_ready (rs := [14]) (by kernel_rfl) (by simp) ?_
         refine TillReady.last (o := _) rfl (by kernel_rfl) (fun K hK => ?_) TillReady.nil
         go_simp
         refine hK.out _ _ ?_
         clear hK K
         try simp only [Act.put,zsA,zsB,zsC]
         refine' till_late (i := 15) (oi := _) (v := .int .i64 0) rfl (by kernel_rfl) (by kernel_rfl) (Or.inl ⟨by first | (go_simp;done) | rfl,fun X _ => by go_simp⟩) ?_
         try simp only [Act.put,zsA,zsB,zsC]
         refine till_done (by kernel_rfl) ?_ _
         go_simp
         go_wp2_with fail
         go_meet
         exact ⟨_,ua,ul,uc,rfl,rfl,hb12,hS.far hb12 cp9 _,Row.set rp 0 _,Rd.setNe hy cp9 (fun _ h => by cases h) _⟩
       case rest =>
        clear hS hu hpv cgp c10 r10 cPr
        obtain ⟨pb,ua,ul,uc,rfl,rfl,hgp,hS,rp,hy⟩ := hcut
        have cpb := rp.cell? 0
        simp only [List.getElem?_cons_zero] at cpb
        have hlen : Hid (l2.length = N) := len_of_snd e2.out (rowV_len hnl2.out)
        obtain ⟨sa,sl,sc,hp1,cgn,hsv⟩ := hS.r2.get (i := n) (y := s) (by rw [e2.out];exact rowV_get N k n s)
        clear hp1
        go_upto_region 18 with (fail)
        refine till_begin 12 (fun X => X.cell? ⟨gn,n,none⟩ = some (.slice sa sl sc) ∧ X.cell? ⟨pb,0,none⟩ = some (.slice ua ul uc)) (by kernel_rfl) (⟨cgn,cpb⟩) (fun hHeld => ?_)
        refine' till_pure (i := 0) (oi := _) (v := .slice (some ⟨gn,0,none⟩) N N) rfl (by kernel_rfl) (by kernel_rfl) (by kernel_rfl) (by kernel_rfl) (fun _ _ _ h => h) (Or.inl ⟨by first | (go_simp;done) | rfl,fun X _ => by go_simp⟩) hHeld ?_
        try simp only [Act.put,zsA,zsB,zsC]
        refine' till_pure (i := 1) (oi := _) (v := .int .i64 (n : Int)) rfl (by kernel_rfl) (by kernel_rfl) (by kernel_rfl) (by kernel_rfl) (fun _ _ _ h => h) (Or.inl ⟨by first | (go_simp;done) | rfl,fun X _ => by go_simp⟩) hHeld ?_
        try simp only [Act.put,zsA,zsB,zsC]
        refine' till_pure (i := 2) (oi := _) (v := .slice (some ⟨gn,0,none⟩) N N) rfl (by kernel_rfl) (by kernel_rfl) (by kernel_rfl) (by kernel_rfl) (fun _ _ _ h => h) (Or.inl ⟨by first | (go_simp;done) | rfl,fun X _ => by go_simp⟩) hHeld ?_
        try simp only [Act.put,zsA,zsB,zsC]
        refine' till_pure (i := 3) (oi := _) (v := .int .i64 (n : Int)) rfl (by kernel_rfl) (by kernel_rfl) (by kernel_rfl) (by kernel_rfl) (fun _ _ _ h => h) (Or.inl ⟨by first | (go_simp;done) | rfl,fun X _ => by go_simp⟩) hHeld ?_
        try simp only [Act.put,zsA,zsB,zsC]
        refine' till_pure (i := 4) (oi := _) (v := .pointer (some ⟨gn,n,none⟩)) rfl (by kernel_rfl) (by kernel_rfl) (by kernel_rfl) (by kernel_rfl) (fun _ _ _ h => h) (Or.inl ⟨by first | (go_simp;done) | rfl,fun X _ => by go_simp⟩) hHeld ?_
        try simp only [Act.put,zsA,zsB,zsC]
        refine' till_take (i := 5) (oi := _) (v := .agg #[.slice sa sl sc]) rfl (by kernel_rfl) (by kernel_rfl) (by kernel_rfl) (by kernel_rfl) (fun _ _ _ h => h) (Or.inl ⟨by first | (go_simp;done) | rfl,fun X hX => by have h0 := hX.1;go_simp⟩) hHeld ?_
        try simp only [Act.put,zsA,zsB,zsC]
        refine' till_take (i := 6) (oi := _) (v := .agg #[.slice ua ul uc]) rfl (by kernel_rfl) (by kernel_rfl) (by kernel_rfl) (by kernel_rfl) (fun _ _ _ h => h) (Or.inl ⟨by first | (go_simp;done) | rfl,fun X hX => by have h0 := hX.2;go_simp⟩) hHeld ?_
        try simp only [Act.put,zsA,zsB,zsC]
        obtain ⟨Y0,hY0⟩ : ∃ Y,Y = wc.drew := ⟨_,rfl⟩
        have hY1 : Below wc.heap.size wc Y0 := by rw [hY0];exact Below.drew (Below.refl _ _)
        replace hS := hS.keep hY1
        replace hsv := Rd.below hsv hY1
        replace hy := Rd.below hy hY1
        rw [← hY0] at hHeld ⊢
        clear hY0 hY1 cgn cpb
        refine till_ready (rs := [7]) (by kernel_rfl) (by simp) ?_
        refine TillReady.cons (o := _) rfl (fun K hK => ?_) TillReady.nil
        go_simp
        refine (add_any _ _ s y Y0 hsv hy hl2 hl3).mono ?_
        rintro e w9 ⟨v,c,rfl,hc,hv,hb9⟩
        have hc0 := hc.out
        rw [if_pos hl1] at hc0 hv
        subst hc0
        obtain ⟨va,vl,vc,rfl⟩ := Rd.shape hv
        replace hS := hS.keep hb9
        go_wp2_with fail
        refine hK.out _ _ ⟨Bel.cellOf hb9 hHeld.1,Bel.cellOf hb9 hHeld.2⟩ (fun hHeld => ?_)
        clear hK K hb9 hc
        try simp only [Act.put,zsA,zsB,zsC]
        refine' till_pure (i := 8) (oi := _) (v := .tuple #[.agg #[.slice va vl vc],.int .i64 0]) rfl (by kernel_rfl) (by kernel_rfl) (by kernel_rfl) (by kernel_rfl) (fun _ _ _ h => h) (Or.inl ⟨by first | (go_simp;done) | rfl,fun X _ => by go_simp⟩) hHeld ?_
        try simp only [Act.put,zsA,zsB,zsC]
        refine' till_pure (i := 9) (oi := _) (v := .agg #[.slice va vl vc]) rfl (by kernel_rfl) (by kernel_rfl) (by kernel_rfl) (by kernel_rfl) (fun _ _ _ h => h) (Or.inl ⟨by first | (go_simp;done) | rfl,fun X _ => by go_simp⟩) hHeld ?_
        try simp only [Act.put,zsA,zsB,zsC]
        refine' till_pure (i := 10) (oi := _) (v := .int .i64 0) rfl (by kernel_rfl) (by kernel_rfl) (by kernel_rfl) (by kernel_rfl) (fun _ _ _ h => h) (Or.inl ⟨by first | (go_simp;done) | rfl,fun X _ => by go_simp⟩) hHeld ?_
        try simp only [Act.put,zsA,zsB,zsC]
        refine' till_pure (i := 11) (oi := _) (v := .pointer (some ⟨gn,n,none⟩)) rfl (by kernel_rfl) (by kernel_rfl) (by kernel_rfl) (by kernel_rfl) (fun _ _ _ h => h) (Or.inl ⟨by first | (go_simp;done) | rfl,fun X _ => by go_simp⟩) hHeld ?_
        try simp only [Act.put,zsA,zsB,zsC]
        have cg9 := hHeld.1
        have fg9 := hS.r2.1.frozen n
        refine till_ready (rs := [12]) (by kernel_rfl) (by simp) ?_
        refine TillReady.last (o := _) rfl (by kernel_rfl) (fun K hK => ?_) TillReady.nil
        go_simp
        refine hK.out _ _ ?_
        clear hK K
        try simp only [Act.put,zsA,zsB,zsC]
        refine' till_late (i := 13) (oi := _) (v := .int .i64 0) rfl (by kernel_rfl) (by kernel_rfl) (Or.inl ⟨by first | (go_simp;done) | rfl,fun X _ => by go_simp⟩) ?_
        try simp only [Act.put,zsA,zsB,zsC]
        refine till_done (by kernel_rfl) ?_ _
        go_simp
        have hS2 := hS.put (i := n) (by rw [hlen.out];exact hnl2.out) hv
        have e3 : Hid ((l2.set n (.slice va vl vc,s + y)).map (fun p : NatM => p.2) = rowV N k n (s + y)) := by show _ = _;rw [List.map_set,e2.out,rowV_set]
        clear hS hv hy hsv cg9 fg9 rp
        go_wp2
        go_roundg (n + 1 - (j + 1))
        case measure => have := hgj.out;have := jl2.out;omega
        case rel => exact ⟨j + 1,s + y,_,rfl,by have := jl2.out;omega,by go_num,hs2,e3,hS2⟩
      ·have hjn : j = n + 1 := by omega
       have e3 : Hid (l2.map (fun p : NatM => p.2) = rowW N k (n + 1)) := by show _ = _;rw [← rowV_W hnl2.out,bxP_sum,← hjn,← hs.out];exact e2.out
       have hji : ¬ (j : Int) < (n : Int) + 1 := by omega
       replace hjn := hide hjn
       clear hs e2 hjl
       go_wp2
       go_roundg (N - (n + 1))
       case measure => have := hgn.out;have := hnl2.out;omega
       case rel => exact ⟨n + 1,l2,rfl,by have := hnl2.out;omega,by go_num,e3,hS⟩
    ·obtain rfl : n = N := by omega
     have e3 : Hid (l2.map (fun p : NatM => p.2) = (List.range n).map (bxP (k + 1))) := by show _ = _;rw [← rowW_end];exact e2.out
     have hh1 : Hid (w.heap.size < gn) := by show _ < _;have := hS.h1;have := hS.h2;omega
     have hr2 := hS.r2
     have hrr := hS.res
     have hbb := hS.bel
     clear e2 hS
     go_wp2
     go_roundg (d - (k + 1))
     case measure => have := hgk.out;have := hlt2.out;omega
     case rel => exact ⟨k + 1,gn,l2,rfl,by have := hlt2.out;omega,rfl,by go_num,e3,hr2,hh1,hrr,hbb⟩
  ·obtain rfl : k = d := by omega
   obtain ⟨pa,pl,pc,hp1,cgp,hpv⟩ := hn1.get (i := m) (y := bxP k m) (by rw [e1.out];exact row_get (by have := hN.out;omega))
   rw [← hP.out] at hpv
   have cR := rR.cell? 0
   have fR := rR.frozen 0
   simp only [List.getElem?_cons_zero] at cR
   have hf := Rd.setNe hpv cR (fun _ h => by cases h) (.slice pa pl pc)
   have belf := Bel.st bel (p := ⟨w.heap.size,0,none⟩) (Nat.le_refl _) (.slice pa pl pc)
   clear hp1 hpv e1 hn1
   go_wp2
   exact bodyPost_ret (v := .tuple #[.agg #[(.slice pa pl pc)],.int .i64 0]) (by simp [results,Tryz.results122,go_sem,cR]) rfl ⟨_,rfl,hf,belf⟩
def condVal (c : CondD) : Value := .agg #[.int .i64 (c.front : Int),.int .i64 (c.back : Int),.bool c.box]
def condOf (m : Nat) (t : TierD) : CondD := if t.mode = 1 then ⟨m,0,false⟩ else if t.mode = 2 then ⟨0,0,true⟩ else if t.mode = 3 then ⟨t.main.toNat,0,false⟩ else ⟨0,t.main.toNat,false⟩
def CondC (c : CondD) (w : World) (e : Ending) (w' : World) : Prop := e = .returned (condVal c) ∧ Below w.heap.size w w'
set_option maxHeartbeats 8000000 in
set_option maxRecDepth 100000 in
theorem ocond_any (g : GameD) (aa : Option Addr) (an ac : Nat) (ta : Option Addr) (tn tc : Nat) (m n : Nat) (t : TierD) (w : World) (hm : g.main = (m : Int)) (ht : t.main = (n : Int)) :
  Calls Tryz.prog 97 #[gameVal g (.slice aa an ac) (.slice ta tn tc),.agg (tierCells t).toArray] w (CondC (condOf m t) w) := by
 obtain ⟨c,hc⟩ : ∃ c,c = condOf m t := ⟨_,rfl⟩
 rw [← hc]
 replace hc := hide hc
 obtain ⟨tm,tb,tx,tmode,tkind,tvalue⟩ := t
 simp only [] at ht
 subst ht
 have hmh := hide hm
 clear hm
 unfold gameVal tierCells
 go_enter Tryz.func97,Tryz.ntmps97
 go_upto_region 1 with (fail)
 obtain ⟨W,hW⟩ : ∃ W,W = ((w.alloc (Obj.cells #[.string g.name,.int .i64 g.kind,.int .i64 g.price,.int .i64 g.main,.int .i64 g.of,.int .i64 g.bonus,.int .i64 g.bonusOf,.int .i64 g.extra,.int .i64 g.draws,.int .i64 g.system,.int .i64 g.days,.int .i64 g.at_,.int .i64 g.close,.int .i64 g.cancel,.int .i64 g.expiry,.int .i64 g.pool,.int .i64 g.reserve,.int .i64 g.round,.int .i64 g.cap,.int .i64 g.rolls,(.slice aa an ac),(.slice ta tn tc)] 25)).alloc (Obj.cells #[.int .i64 (n : Int),.int .i64 tb,.int .i64 tx,.int .i64 tmode,.int .i64 tkind,.int .i64 tvalue] 73)).alloc (Obj.cells #[.int .i64 0,.int .i64 0,.bool false] 122) := ⟨_,rfl⟩
 have bW : Below w.heap.size w W := by rw [hW];exact Bel.al (Bel.al (Bel.al (Below.refl _ _) _) _) _
 have r0 : GameAt W w.heap.size g (.slice aa an ac) (.slice ta tn tc) := by rw [hW];exact Row.alloc (Row.alloc (Row.new _ _ _) _) _
 have r1 : Row W (w.heap.size + 1) 73 [.int .i64 (n : Int),.int .i64 tb,.int .i64 tx,.int .i64 tmode,.int .i64 tkind,.int .i64 tvalue] := by rw [hW];exact Row.alloc (Row.at2 _ _ _ _) _
 have r2 : Row W (w.heap.size + 1 + 1) 122 [.int .i64 0,.int .i64 0,.bool false] := by rw [hW];exact Row.at3 _ _ _ _ _
 rw [← hW]
 clear hW
 have c3 := r0.main
 rw [hmh.out] at c3
 have q3 := r1.cell? 3
 have q0 := r1.cell? 0
 have z0 := r2.cell? 0
 have z1 := r2.cell? 1
 have z2 := r2.cell? 2
 have f0 := Row.frozen r2 0
 have f1 := Row.frozen r2 1
 have f2 := Row.frozen r2 2
 simp only [List.getElem?_cons_zero,List.getElem?_cons_succ] at q3 q0 z0 z1 z2
 clear r0 r1
 by_cases h1 : tmode = 1
 ·have HC : c = ⟨m,0,false⟩ := by rw [hc.out];unfold condOf;rw [if_pos h1]
  clear hc
  have y5 : Row (((W.setCell ⟨w.heap.size + 1 + 1,0,none⟩ (.int .i64 (m : Int))).setCell ⟨w.heap.size + 1 + 1,1,none⟩ (.int .i64 0)).setCell ⟨w.heap.size + 1 + 1,2,none⟩ (.bool false)) (w.heap.size + 1 + 1) 122 [.int .i64 (m : Int),.int .i64 0,.bool false] := Row.set (Row.set (Row.set r2 0 _) 1 _) 2 _
  have y0 := hide (y5.cell? 0)
  have y1 := hide (y5.cell? 1)
  have y2 := hide (y5.cell? 2)
  have bz := Bel.st (Bel.st (Bel.st bW (p := ⟨w.heap.size + 1 + 1,0,none⟩) (show w.heap.size ≤ w.heap.size + 1 + 1 by omega) (.int .i64 (m : Int))) (p := ⟨w.heap.size + 1 + 1,1,none⟩) (show w.heap.size ≤ w.heap.size + 1 + 1 by omega) (.int .i64 0)) (p := ⟨w.heap.size + 1 + 1,2,none⟩) (show w.heap.size ≤ w.heap.size + 1 + 1 by omega) (.bool false)
  clear y5
  go_wp2
  exact bodyPost_ret (v := condVal c) (by simp [results,Tryz.results97,go_sem,y0.out,y1.out,y2.out,condVal,HC]) rfl ⟨rfl,bz⟩
 have h1b : (tmode == 1) = false := by simpa using h1
 by_cases h2 : tmode = 2
 ·have HC : c = ⟨0,0,true⟩ := by rw [hc.out];unfold condOf;rw [if_neg h1,if_pos h2]
  clear hc
  have y5 : Row (((W.setCell ⟨w.heap.size + 1 + 1,0,none⟩ (.int .i64 0)).setCell ⟨w.heap.size + 1 + 1,1,none⟩ (.int .i64 0)).setCell ⟨w.heap.size + 1 + 1,2,none⟩ (.bool true)) (w.heap.size + 1 + 1) 122 [.int .i64 0,.int .i64 0,.bool true] := Row.set (Row.set (Row.set r2 0 _) 1 _) 2 _
  have y0 := hide (y5.cell? 0)
  have y1 := hide (y5.cell? 1)
  have y2 := hide (y5.cell? 2)
  have bz := Bel.st (Bel.st (Bel.st bW (p := ⟨w.heap.size + 1 + 1,0,none⟩) (show w.heap.size ≤ w.heap.size + 1 + 1 by omega) (.int .i64 0)) (p := ⟨w.heap.size + 1 + 1,1,none⟩) (show w.heap.size ≤ w.heap.size + 1 + 1 by omega) (.int .i64 0)) (p := ⟨w.heap.size + 1 + 1,2,none⟩) (show w.heap.size ≤ w.heap.size + 1 + 1 by omega) (.bool true)
  clear y5
  go_wp2
  exact bodyPost_ret (v := condVal c) (by simp [results,Tryz.results97,go_sem,y0.out,y1.out,y2.out,condVal,HC]) rfl ⟨rfl,bz⟩
 have h2b : (tmode == 2) = false := by simpa using h2
 by_cases h3 : tmode = 3
 ·have HC : c = ⟨n,0,false⟩ := by rw [hc.out];unfold condOf;rw [if_neg h1,if_neg h2,if_pos h3];rfl
  clear hc
  have y5 : Row (((W.setCell ⟨w.heap.size + 1 + 1,0,none⟩ (.int .i64 (n : Int))).setCell ⟨w.heap.size + 1 + 1,1,none⟩ (.int .i64 0)).setCell ⟨w.heap.size + 1 + 1,2,none⟩ (.bool false)) (w.heap.size + 1 + 1) 122 [.int .i64 (n : Int),.int .i64 0,.bool false] := Row.set (Row.set (Row.set r2 0 _) 1 _) 2 _
  have y0 := hide (y5.cell? 0)
  have y1 := hide (y5.cell? 1)
  have y2 := hide (y5.cell? 2)
  have bz := Bel.st (Bel.st (Bel.st bW (p := ⟨w.heap.size + 1 + 1,0,none⟩) (show w.heap.size ≤ w.heap.size + 1 + 1 by omega) (.int .i64 (n : Int))) (p := ⟨w.heap.size + 1 + 1,1,none⟩) (show w.heap.size ≤ w.heap.size + 1 + 1 by omega) (.int .i64 0)) (p := ⟨w.heap.size + 1 + 1,2,none⟩) (show w.heap.size ≤ w.heap.size + 1 + 1 by omega) (.bool false)
  clear y5
  go_wp2
  exact bodyPost_ret (v := condVal c) (by simp [results,Tryz.results97,go_sem,y0.out,y1.out,y2.out,condVal,HC]) rfl ⟨rfl,bz⟩
 have h3b : (tmode == 3) = false := by simpa using h3
 have HC : c = ⟨0,n,false⟩ := by rw [hc.out];unfold condOf;rw [if_neg h1,if_neg h2,if_neg h3];rfl
 clear hc h1 h2 h3
 have y5 : Row (((W.setCell ⟨w.heap.size + 1 + 1,0,none⟩ (.int .i64 0)).setCell ⟨w.heap.size + 1 + 1,1,none⟩ (.int .i64 (n : Int))).setCell ⟨w.heap.size + 1 + 1,2,none⟩ (.bool false)) (w.heap.size + 1 + 1) 122 [.int .i64 0,.int .i64 (n : Int),.bool false] := Row.set (Row.set (Row.set r2 0 _) 1 _) 2 _
 have y0 := hide (y5.cell? 0)
 have y1 := hide (y5.cell? 1)
 have y2 := hide (y5.cell? 2)
 have bz := Bel.st (Bel.st (Bel.st bW (p := ⟨w.heap.size + 1 + 1,0,none⟩) (show w.heap.size ≤ w.heap.size + 1 + 1 by omega) (.int .i64 0)) (p := ⟨w.heap.size + 1 + 1,1,none⟩) (show w.heap.size ≤ w.heap.size + 1 + 1 by omega) (.int .i64 (n : Int))) (p := ⟨w.heap.size + 1 + 1,2,none⟩) (show w.heap.size ≤ w.heap.size + 1 + 1 by omega) (.bool false)
 clear y5
 go_wp2
 exact bodyPost_ret (v := condVal c) (by simp [results,Tryz.results97,go_sem,y0.out,y1.out,y2.out,condVal,HC]) rfl ⟨rfl,bz⟩
set_option maxHeartbeats 8000000 in
set_option maxRecDepth 100000 in
theorem oand_any (c d : CondD) (w : World) : Calls Tryz.prog 98 #[condVal c,condVal d] w (CondC (andC c d) w) := by
 obtain ⟨e,he⟩ : ∃ e,e = andC c d := ⟨_,rfl⟩
 rw [← he]
 replace he := hide he
 obtain ⟨cf,cb,cx⟩ := c
 obtain ⟨df,db,dx⟩ := d
 obtain ⟨mf,hmf⟩ : ∃ k,k = max cf df := ⟨_,rfl⟩
 obtain ⟨mb,hmb⟩ : ∃ k,k = max cb db := ⟨_,rfl⟩
 have e1 : max (cf : Int) (df : Int) = (mf : Int) := by omega
 have e2 : max (cb : Int) (db : Int) = (mb : Int) := by omega
 have HC : e = ⟨mf,mb,cx || dx⟩ := by rw [he.out,hmf,hmb];rfl
 replace HC := hide HC
 clear he hmf hmb
 unfold condVal
 go_enter Tryz.func98,Tryz.ntmps98
 go_upto_region 1 with (fail)
 obtain ⟨W,hW⟩ : ∃ W,W = ((w.alloc (Obj.cells #[.int .i64 (cf : Int),.int .i64 (cb : Int),.bool cx] 122)).alloc (Obj.cells #[.int .i64 (df : Int),.int .i64 (db : Int),.bool dx] 122)).alloc (Obj.cells #[.int .i64 0,.int .i64 0,.bool false] 122) := ⟨_,rfl⟩
 have bW : Below w.heap.size w W := by rw [hW];exact Bel.al (Bel.al (Bel.al (Below.refl _ _) _) _) _
 have r0 : Row W w.heap.size 122 [.int .i64 (cf : Int),.int .i64 (cb : Int),.bool cx] := by rw [hW];exact Row.alloc (Row.alloc (Row.new _ _ _) _) _
 have r1 : Row W (w.heap.size + 1) 122 [.int .i64 (df : Int),.int .i64 (db : Int),.bool dx] := by rw [hW];exact Row.alloc (Row.at2 _ _ _ _) _
 have r2 : Row W (w.heap.size + 1 + 1) 122 [.int .i64 0,.int .i64 0,.bool false] := by rw [hW];exact Row.at3 _ _ _ _ _
 rw [← hW]
 clear hW
 have p0 := r0.cell? 0
 have p1 := r0.cell? 1
 have p2 := r0.cell? 2
 have q0 := r1.cell? 0
 have q1 := r1.cell? 1
 have q2 := r1.cell? 2
 have z0 := r2.cell? 0
 have z1 := r2.cell? 1
 have z2 := r2.cell? 2
 have f0 := Row.frozen r2 0
 have f1 := Row.frozen r2 1
 have f2 := Row.frozen r2 2
 simp only [List.getElem?_cons_zero,List.getElem?_cons_succ] at p0 p1 p2 q0 q1 q2 z0 z1 z2
 clear r0 r1
 have bz := Bel.st (Bel.st (Bel.st bW (p := ⟨w.heap.size + 1 + 1,0,none⟩) (show w.heap.size ≤ w.heap.size + 1 + 1 by omega) (.int .i64 (mf : Int))) (p := ⟨w.heap.size + 1 + 1,1,none⟩) (show w.heap.size ≤ w.heap.size + 1 + 1 by omega) (.int .i64 (mb : Int))) (p := ⟨w.heap.size + 1 + 1,2,none⟩) (show w.heap.size ≤ w.heap.size + 1 + 1 by omega) (.bool (cx || dx))
 have y5 : Row (((W.setCell ⟨w.heap.size + 1 + 1,0,none⟩ (.int .i64 (mf : Int))).setCell ⟨w.heap.size + 1 + 1,1,none⟩ (.int .i64 (mb : Int))).setCell ⟨w.heap.size + 1 + 1,2,none⟩ (.bool (cx || dx))) (w.heap.size + 1 + 1) 122 [.int .i64 (mf : Int),.int .i64 (mb : Int),.bool (cx || dx)] := Row.set (Row.set (Row.set r2 0 _) 1 _) 2 _
 have y0 := hide (y5.cell? 0)
 have y1 := hide (y5.cell? 1)
 have y2 := hide (y5.cell? 2)
 clear y5 r2
 have HC := HC.out
 rcases Nat.lt_trichotomy cf df with a1 | a1 | a1 <;> rcases Nat.lt_trichotomy cb db with b1 | b1 | b1
 ·skip
  have a2 : (cf : Int) < (df : Int) := by omega
  have a3 : ¬ (df : Int) < (cf : Int) := by omega
  have a4 : (cf : Int) ≤ (df : Int) := by omega
  have a5 : ¬ (df : Int) ≤ (cf : Int) := by omega
  obtain rfl : df = mf := by omega
  have d2 : (cb : Int) < (db : Int) := by omega
  have d3 : ¬ (db : Int) < (cb : Int) := by omega
  have d4 : (cb : Int) ≤ (db : Int) := by omega
  have d5 : ¬ (db : Int) ≤ (cb : Int) := by omega
  obtain rfl : db = mb := by omega
  clear e1 e2 a1 b1
  cases cx
  ·simp only [Bool.false_or] at y0 y1 y2 bz HC
   go_wp2
   (try rw [show max (cf : Int) (df : Int) = (df : Int) by omega])
   (try rw [show max (cf : Int) (df : Int) = (cf : Int) by omega])
   (try rw [show max (cb : Int) (db : Int) = (db : Int) by omega])
   (try rw [show max (cb : Int) (db : Int) = (cb : Int) by omega])
   (try simp only [Int.max_self])
   exact bodyPost_ret (v := condVal e) (by simp [results,Tryz.results98,go_sem,y0.out,y1.out,y2.out,condVal,HC]) rfl ⟨by first | rfl | rw [HC],bz⟩
  ·simp only [Bool.true_or] at y0 y1 y2 bz HC
   go_wp2
   (try rw [show max (cf : Int) (df : Int) = (df : Int) by omega])
   (try rw [show max (cf : Int) (df : Int) = (cf : Int) by omega])
   (try rw [show max (cb : Int) (db : Int) = (db : Int) by omega])
   (try rw [show max (cb : Int) (db : Int) = (cb : Int) by omega])
   (try simp only [Int.max_self])
   exact bodyPost_ret (v := condVal e) (by simp [results,Tryz.results98,go_sem,y0.out,y1.out,y2.out,condVal,HC]) rfl ⟨by first | rfl | rw [HC],bz⟩
 ·skip
  have a2 : (cf : Int) < (df : Int) := by omega
  have a3 : ¬ (df : Int) < (cf : Int) := by omega
  have a4 : (cf : Int) ≤ (df : Int) := by omega
  have a5 : ¬ (df : Int) ≤ (cf : Int) := by omega
  obtain rfl : df = mf := by omega
  obtain rfl : cb = db := by omega
  obtain rfl : cb = mb := by omega
  clear e1 e2 a1 b1
  cases cx
  ·simp only [Bool.false_or] at y0 y1 y2 bz HC
   go_wp2
   (try rw [show max (cf : Int) (df : Int) = (df : Int) by omega])
   (try rw [show max (cf : Int) (df : Int) = (cf : Int) by omega])
   (try rw [show max (cb : Int) (db : Int) = (db : Int) by omega])
   (try rw [show max (cb : Int) (db : Int) = (cb : Int) by omega])
   (try simp only [Int.max_self])
   exact bodyPost_ret (v := condVal e) (by simp [results,Tryz.results98,go_sem,y0.out,y1.out,y2.out,condVal,HC]) rfl ⟨by first | rfl | rw [HC],bz⟩
  ·simp only [Bool.true_or] at y0 y1 y2 bz HC
   go_wp2
   (try rw [show max (cf : Int) (df : Int) = (df : Int) by omega])
   (try rw [show max (cf : Int) (df : Int) = (cf : Int) by omega])
   (try rw [show max (cb : Int) (db : Int) = (db : Int) by omega])
   (try rw [show max (cb : Int) (db : Int) = (cb : Int) by omega])
   (try simp only [Int.max_self])
   exact bodyPost_ret (v := condVal e) (by simp [results,Tryz.results98,go_sem,y0.out,y1.out,y2.out,condVal,HC]) rfl ⟨by first | rfl | rw [HC],bz⟩
 ·skip
  have a2 : (cf : Int) < (df : Int) := by omega
  have a3 : ¬ (df : Int) < (cf : Int) := by omega
  have a4 : (cf : Int) ≤ (df : Int) := by omega
  have a5 : ¬ (df : Int) ≤ (cf : Int) := by omega
  obtain rfl : df = mf := by omega
  have d2 : (db : Int) < (cb : Int) := by omega
  have d3 : ¬ (cb : Int) < (db : Int) := by omega
  have d4 : (db : Int) ≤ (cb : Int) := by omega
  have d5 : ¬ (cb : Int) ≤ (db : Int) := by omega
  obtain rfl : cb = mb := by omega
  clear e1 e2 a1 b1
  cases cx
  ·simp only [Bool.false_or] at y0 y1 y2 bz HC
   go_wp2
   (try rw [show max (cf : Int) (df : Int) = (df : Int) by omega])
   (try rw [show max (cf : Int) (df : Int) = (cf : Int) by omega])
   (try rw [show max (cb : Int) (db : Int) = (db : Int) by omega])
   (try rw [show max (cb : Int) (db : Int) = (cb : Int) by omega])
   (try simp only [Int.max_self])
   exact bodyPost_ret (v := condVal e) (by simp [results,Tryz.results98,go_sem,y0.out,y1.out,y2.out,condVal,HC]) rfl ⟨by first | rfl | rw [HC],bz⟩
  ·simp only [Bool.true_or] at y0 y1 y2 bz HC
   go_wp2
   (try rw [show max (cf : Int) (df : Int) = (df : Int) by omega])
   (try rw [show max (cf : Int) (df : Int) = (cf : Int) by omega])
   (try rw [show max (cb : Int) (db : Int) = (db : Int) by omega])
   (try rw [show max (cb : Int) (db : Int) = (cb : Int) by omega])
   (try simp only [Int.max_self])
   exact bodyPost_ret (v := condVal e) (by simp [results,Tryz.results98,go_sem,y0.out,y1.out,y2.out,condVal,HC]) rfl ⟨by first | rfl | rw [HC],bz⟩
 ·skip
  obtain rfl : cf = df := by omega
  obtain rfl : cf = mf := by omega
  have d2 : (cb : Int) < (db : Int) := by omega
  have d3 : ¬ (db : Int) < (cb : Int) := by omega
  have d4 : (cb : Int) ≤ (db : Int) := by omega
  have d5 : ¬ (db : Int) ≤ (cb : Int) := by omega
  obtain rfl : db = mb := by omega
  clear e1 e2 a1 b1
  cases cx
  ·simp only [Bool.false_or] at y0 y1 y2 bz HC
   go_wp2
   (try rw [show max (cf : Int) (df : Int) = (df : Int) by omega])
   (try rw [show max (cf : Int) (df : Int) = (cf : Int) by omega])
   (try rw [show max (cb : Int) (db : Int) = (db : Int) by omega])
   (try rw [show max (cb : Int) (db : Int) = (cb : Int) by omega])
   (try simp only [Int.max_self])
   exact bodyPost_ret (v := condVal e) (by simp [results,Tryz.results98,go_sem,y0.out,y1.out,y2.out,condVal,HC]) rfl ⟨by first | rfl | rw [HC],bz⟩
  ·simp only [Bool.true_or] at y0 y1 y2 bz HC
   go_wp2
   (try rw [show max (cf : Int) (df : Int) = (df : Int) by omega])
   (try rw [show max (cf : Int) (df : Int) = (cf : Int) by omega])
   (try rw [show max (cb : Int) (db : Int) = (db : Int) by omega])
   (try rw [show max (cb : Int) (db : Int) = (cb : Int) by omega])
   (try simp only [Int.max_self])
   exact bodyPost_ret (v := condVal e) (by simp [results,Tryz.results98,go_sem,y0.out,y1.out,y2.out,condVal,HC]) rfl ⟨by first | rfl | rw [HC],bz⟩
 ·skip
  obtain rfl : cf = df := by omega
  obtain rfl : cf = mf := by omega
  obtain rfl : cb = db := by omega
  obtain rfl : cb = mb := by omega
  clear e1 e2 a1 b1
  cases cx
  ·simp only [Bool.false_or] at y0 y1 y2 bz HC
   go_wp2
   (try rw [show max (cf : Int) (df : Int) = (df : Int) by omega])
   (try rw [show max (cf : Int) (df : Int) = (cf : Int) by omega])
   (try rw [show max (cb : Int) (db : Int) = (db : Int) by omega])
   (try rw [show max (cb : Int) (db : Int) = (cb : Int) by omega])
   (try simp only [Int.max_self])
   exact bodyPost_ret (v := condVal e) (by simp [results,Tryz.results98,go_sem,y0.out,y1.out,y2.out,condVal,HC]) rfl ⟨by first | rfl | rw [HC],bz⟩
  ·simp only [Bool.true_or] at y0 y1 y2 bz HC
   go_wp2
   (try rw [show max (cf : Int) (df : Int) = (df : Int) by omega])
   (try rw [show max (cf : Int) (df : Int) = (cf : Int) by omega])
   (try rw [show max (cb : Int) (db : Int) = (db : Int) by omega])
   (try rw [show max (cb : Int) (db : Int) = (cb : Int) by omega])
   (try simp only [Int.max_self])
   exact bodyPost_ret (v := condVal e) (by simp [results,Tryz.results98,go_sem,y0.out,y1.out,y2.out,condVal,HC]) rfl ⟨by first | rfl | rw [HC],bz⟩
 ·skip
  obtain rfl : cf = df := by omega
  obtain rfl : cf = mf := by omega
  have d2 : (db : Int) < (cb : Int) := by omega
  have d3 : ¬ (cb : Int) < (db : Int) := by omega
  have d4 : (db : Int) ≤ (cb : Int) := by omega
  have d5 : ¬ (cb : Int) ≤ (db : Int) := by omega
  obtain rfl : cb = mb := by omega
  clear e1 e2 a1 b1
  cases cx
  ·simp only [Bool.false_or] at y0 y1 y2 bz HC
   go_wp2
   (try rw [show max (cf : Int) (df : Int) = (df : Int) by omega])
   (try rw [show max (cf : Int) (df : Int) = (cf : Int) by omega])
   (try rw [show max (cb : Int) (db : Int) = (db : Int) by omega])
   (try rw [show max (cb : Int) (db : Int) = (cb : Int) by omega])
   (try simp only [Int.max_self])
   exact bodyPost_ret (v := condVal e) (by simp [results,Tryz.results98,go_sem,y0.out,y1.out,y2.out,condVal,HC]) rfl ⟨by first | rfl | rw [HC],bz⟩
  ·simp only [Bool.true_or] at y0 y1 y2 bz HC
   go_wp2
   (try rw [show max (cf : Int) (df : Int) = (df : Int) by omega])
   (try rw [show max (cf : Int) (df : Int) = (cf : Int) by omega])
   (try rw [show max (cb : Int) (db : Int) = (db : Int) by omega])
   (try rw [show max (cb : Int) (db : Int) = (cb : Int) by omega])
   (try simp only [Int.max_self])
   exact bodyPost_ret (v := condVal e) (by simp [results,Tryz.results98,go_sem,y0.out,y1.out,y2.out,condVal,HC]) rfl ⟨by first | rfl | rw [HC],bz⟩
 ·skip
  have a2 : (df : Int) < (cf : Int) := by omega
  have a3 : ¬ (cf : Int) < (df : Int) := by omega
  have a4 : (df : Int) ≤ (cf : Int) := by omega
  have a5 : ¬ (cf : Int) ≤ (df : Int) := by omega
  obtain rfl : cf = mf := by omega
  have d2 : (cb : Int) < (db : Int) := by omega
  have d3 : ¬ (db : Int) < (cb : Int) := by omega
  have d4 : (cb : Int) ≤ (db : Int) := by omega
  have d5 : ¬ (db : Int) ≤ (cb : Int) := by omega
  obtain rfl : db = mb := by omega
  clear e1 e2 a1 b1
  cases cx
  ·simp only [Bool.false_or] at y0 y1 y2 bz HC
   go_wp2
   (try rw [show max (cf : Int) (df : Int) = (df : Int) by omega])
   (try rw [show max (cf : Int) (df : Int) = (cf : Int) by omega])
   (try rw [show max (cb : Int) (db : Int) = (db : Int) by omega])
   (try rw [show max (cb : Int) (db : Int) = (cb : Int) by omega])
   (try simp only [Int.max_self])
   exact bodyPost_ret (v := condVal e) (by simp [results,Tryz.results98,go_sem,y0.out,y1.out,y2.out,condVal,HC]) rfl ⟨by first | rfl | rw [HC],bz⟩
  ·simp only [Bool.true_or] at y0 y1 y2 bz HC
   go_wp2
   (try rw [show max (cf : Int) (df : Int) = (df : Int) by omega])
   (try rw [show max (cf : Int) (df : Int) = (cf : Int) by omega])
   (try rw [show max (cb : Int) (db : Int) = (db : Int) by omega])
   (try rw [show max (cb : Int) (db : Int) = (cb : Int) by omega])
   (try simp only [Int.max_self])
   exact bodyPost_ret (v := condVal e) (by simp [results,Tryz.results98,go_sem,y0.out,y1.out,y2.out,condVal,HC]) rfl ⟨by first | rfl | rw [HC],bz⟩
 ·skip
  have a2 : (df : Int) < (cf : Int) := by omega
  have a3 : ¬ (cf : Int) < (df : Int) := by omega
  have a4 : (df : Int) ≤ (cf : Int) := by omega
  have a5 : ¬ (cf : Int) ≤ (df : Int) := by omega
  obtain rfl : cf = mf := by omega
  obtain rfl : cb = db := by omega
  obtain rfl : cb = mb := by omega
  clear e1 e2 a1 b1
  cases cx
  ·simp only [Bool.false_or] at y0 y1 y2 bz HC
   go_wp2
   (try rw [show max (cf : Int) (df : Int) = (df : Int) by omega])
   (try rw [show max (cf : Int) (df : Int) = (cf : Int) by omega])
   (try rw [show max (cb : Int) (db : Int) = (db : Int) by omega])
   (try rw [show max (cb : Int) (db : Int) = (cb : Int) by omega])
   (try simp only [Int.max_self])
   exact bodyPost_ret (v := condVal e) (by simp [results,Tryz.results98,go_sem,y0.out,y1.out,y2.out,condVal,HC]) rfl ⟨by first | rfl | rw [HC],bz⟩
  ·simp only [Bool.true_or] at y0 y1 y2 bz HC
   go_wp2
   (try rw [show max (cf : Int) (df : Int) = (df : Int) by omega])
   (try rw [show max (cf : Int) (df : Int) = (cf : Int) by omega])
   (try rw [show max (cb : Int) (db : Int) = (db : Int) by omega])
   (try rw [show max (cb : Int) (db : Int) = (cb : Int) by omega])
   (try simp only [Int.max_self])
   exact bodyPost_ret (v := condVal e) (by simp [results,Tryz.results98,go_sem,y0.out,y1.out,y2.out,condVal,HC]) rfl ⟨by first | rfl | rw [HC],bz⟩
 ·skip
  have a2 : (df : Int) < (cf : Int) := by omega
  have a3 : ¬ (cf : Int) < (df : Int) := by omega
  have a4 : (df : Int) ≤ (cf : Int) := by omega
  have a5 : ¬ (cf : Int) ≤ (df : Int) := by omega
  obtain rfl : cf = mf := by omega
  have d2 : (db : Int) < (cb : Int) := by omega
  have d3 : ¬ (cb : Int) < (db : Int) := by omega
  have d4 : (db : Int) ≤ (cb : Int) := by omega
  have d5 : ¬ (cb : Int) ≤ (db : Int) := by omega
  obtain rfl : cb = mb := by omega
  clear e1 e2 a1 b1
  cases cx
  ·simp only [Bool.false_or] at y0 y1 y2 bz HC
   go_wp2
   (try rw [show max (cf : Int) (df : Int) = (df : Int) by omega])
   (try rw [show max (cf : Int) (df : Int) = (cf : Int) by omega])
   (try rw [show max (cb : Int) (db : Int) = (db : Int) by omega])
   (try rw [show max (cb : Int) (db : Int) = (cb : Int) by omega])
   (try simp only [Int.max_self])
   exact bodyPost_ret (v := condVal e) (by simp [results,Tryz.results98,go_sem,y0.out,y1.out,y2.out,condVal,HC]) rfl ⟨by first | rfl | rw [HC],bz⟩
  ·simp only [Bool.true_or] at y0 y1 y2 bz HC
   go_wp2
   (try rw [show max (cf : Int) (df : Int) = (df : Int) by omega])
   (try rw [show max (cf : Int) (df : Int) = (cf : Int) by omega])
   (try rw [show max (cb : Int) (db : Int) = (db : Int) by omega])
   (try rw [show max (cb : Int) (db : Int) = (cb : Int) by omega])
   (try simp only [Int.max_self])
   exact bodyPost_ret (v := condVal e) (by simp [results,Tryz.results98,go_sem,y0.out,y1.out,y2.out,condVal,HC]) rfl ⟨by first | rfl | rw [HC],bz⟩
end Go.Proofs.YtldikghldcefcaaGreat
end

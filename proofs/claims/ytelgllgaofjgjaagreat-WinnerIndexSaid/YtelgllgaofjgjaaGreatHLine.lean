/- Lemmas, merged out of smaller texts (wip/tools/mergedce.py). No condition. -/
import Derived.Test.YtelgllgaofjgjaaGreatProg
import Derived.BigQuiet
import Derived.Deep.LoopGhost
import Derived.Deep.Cut
import Derived.Laws.Rows
import Derived.Laws.Tables
import Derived.Deep.RegionHeld3
import Derived.Deep.MidRow
import Derived.Deep.DeepCutAuto
import Derived.Shelf.Small.Bits
import Derived.Shelf.Strconv.Itoa0
import Derived.Shelf.Sort.Plain
import Derived.Shelf.Bits.Mul64
import Derived.Shelf.Slices.Turned
import Derived.Ground.Names2Prog
import Derived.Shelf.Slices.Clone
import Derived.Shelf.Slices.SearchI
import Derived.Shelf.Slices.In.SortNone
import Derived.Ground.SlgnProg
import Derived.Shelf.SlicesE.Clone
import Derived.Sort.OwnSortedInts
import Derived.Deep.DrawnRows
import Derived.Shelf.SlGeneric
import Derived.Shelf.SlSortCmp.WholeK
import Derived.Shelf.SlicesQ.IndexFunc
import Derived.Ground.SlsfProg
import Derived.Ground.SlgfProg
import Derived.Test.YtelgllgaofjgjaaGreatHNat
import Derived.Test.YtelgllgaofjgjaaGreatHCore
import Derived.Test.YtelgllgaofjgjaaGreatHRule
import Derived.Test.YtelgllgaofjgjaaGreatHRef
section
set_option linter.unusedVariables false
set_option linter.unusedSimpArgs false
namespace Go.Proofs.YtelgllgaofjgjaaGreat
def sortI (l : List Int) : List Int := l.mergeSort fun x y => decide (x ≤ y)
theorem sortI_perm (l : List Int) : (sortI l).Perm l := List.mergeSort_perm l _
theorem sortI_sorted (l : List Int) : (sortI l).Pairwise (· ≤ ·) := by
 have := List.pairwise_mergeSort (le := fun x y : Int => decide (x ≤ y)) (by intro a b c h1 h2;simp at *;omega) (by intro a b;simp;omega) l
 exact this.imp (by simp)
theorem sortI_eq {l m : List Int} (hp : m.Perm l) (hs : m.Pairwise (· ≤ ·)) : m = sortI l :=
 List.Perm.eq_of_pairwise (fun a b _ _ h1 h2 => by omega) hs (sortI_sorted l) (hp.trans (sortI_perm l).symm)
theorem sortI_len (l : List Int) : (sortI l).length = l.length := (sortI_perm l).length_eq
theorem sortI_idem (l : List Int) : sortI (sortI l) = sortI l := (sortI_eq (List.Perm.refl _) (sortI_sorted l)).symm
theorem sortI_of {l : List Int} (h : l.Pairwise (· ≤ ·)) : sortI l = l := (sortI_eq (List.Perm.refl _) h).symm
theorem sortI_nil : sortI [] = [] := sortI_of List.Pairwise.nil
def lowG (g : GameD) : Int := if g.kind = 2 then 0 else 1
def highG (g : GameD) : Int := if g.kind = 2 then g.of - 1 else g.of
def allB (l : List Int) (lo hi : Int) : Bool := l.all fun x => inB x lo hi
def dupB (l : List Int) : Bool := decide (¬ l.Nodup)
theorem allB_iff {l : List Int} {lo hi : Int} : allB l lo hi = true ↔ ∀ x ∈ l,lo ≤ x ∧ x ≤ hi := by
 unfold allB
 rw [List.all_eq_true]
 exact ⟨fun h x hx => inB_iff.1 (h x hx),fun h x hx => inB_iff.2 (h x hx)⟩
theorem allB_perm {l m : List Int} (h : l.Perm m) (lo hi : Int) : allB l lo hi = allB m lo hi := by
 rw [Bool.eq_iff_iff,allB_iff,allB_iff]
 exact ⟨fun H x hx => H x (h.mem_iff.2 hx),fun H x hx => H x (h.mem_iff.1 hx)⟩
theorem dupB_perm {l m : List Int} (h : l.Perm m) : dupB l = dupB m := by
 unfold dupB;rw [decide_eq_decide,h.nodup_iff]
theorem dupB_no {l : List Int} : dupB l = false ↔ l.Nodup := by unfold dupB;simp
def lineE (g : GameD) (a b : List Int) : Int :=
 if gameE g ≠ 0 then gameE g
 else if (a.length : Int) ≠ g.main ∨ (b.length : Int) ≠ g.bonus then 3
 else if allB a (lowG g) (highG g) = false ∨ allB b 1 g.bonusOf = false then 2
 else if (g.kind ≠ 2 ∧ dupB a = true) ∨ dupB b = true then 6
 else 0
theorem lineE_perm {g : GameD} {a b c d : List Int} (h1 : a.Perm c) (h2 : b.Perm d) : lineE g a b = lineE g c d := by
 unfold lineE
 rw [h1.length_eq,h2.length_eq,allB_perm h1,allB_perm h2,dupB_perm h1,dupB_perm h2]
theorem lineE_ok {g : GameD} {a b : List Int} : lineE g a b = 0 ↔ gameE g = 0 ∧ (a.length : Int) = g.main ∧ (b.length : Int) = g.bonus ∧ (∀ x ∈ a,lowG g ≤ x ∧ x ≤ highG g) ∧ (∀ x ∈ b,1 ≤ x ∧ x ≤ g.bonusOf) ∧ (g.kind ≠ 2 → a.Nodup) ∧ b.Nodup := by
 unfold lineE
 rw [← allB_iff,← allB_iff,← dupB_no (l := a),← dupB_no (l := b)]
 by_cases h1 : gameE g = 0
 ·rw [if_neg (by simpa using h1)]
  by_cases h2 : (a.length : Int) ≠ g.main ∨ (b.length : Int) ≠ g.bonus
  ·rw [if_pos h2];constructor
   ·intro h;omega
   ·intro h;omega
  ·rw [if_neg h2]
   cases h3 : allB a (lowG g) (highG g) <;> cases h4 : allB b 1 g.bonusOf <;> simp
   cases h5 : dupB a <;> cases h6 : dupB b <;> by_cases h7 : g.kind = 2 <;> simp [h7] <;> omega
 ·rw [if_pos (by simpa using h1)]
  exact ⟨fun h => absurd h h1,fun h => absurd h.1 h1⟩
def bonusN (g : GameD) : Nat := choose g.bonusOf.toNat g.bonus.toNat
def countG (g : GameD) : Nat := if g.kind = 2 then g.of.toNat ^ g.main.toNat else choose g.of.toNat g.main.toNat * choose g.bonusOf.toNat g.bonus.toNat
def digitsN (q : Int) (l : List Int) : Int := l.foldl (fun n x => n * q + x) 0
def rankG (g : GameD) (a b : List Int) : Int :=
 if g.kind = 2 then digitsN g.of a else ((rankL g.of.toNat 0 (sortI a) * bonusN g + rankL g.bonusOf.toNat 0 (sortI b) : Nat) : Int)
def digitsL (q : Nat) : Nat → Nat → List Int
 | 0,_ => []
 | n + 1,r => digitsL q n (r / q) ++ [((r % q : Nat) : Int)]
def unrankG (g : GameD) (r : Nat) : List Int × List Int :=
 if g.kind = 2 then (digitsL g.of.toNat g.main.toNat r,[]) else (unrankL g.of.toNat 1 (r / bonusN g) g.main.toNat,unrankL g.bonusOf.toNat 1 (r % bonusN g) g.bonus.toNat)
def unrankP (g : GameD) (r : Int) : (List Int × List Int) × Int :=
 if gameE g ≠ 0 then (([],[]),gameE g) else if r < 0 ∨ (countG g : Int) ≤ r then (([],[]),2) else (unrankG g r.toNat,0)
def countP (g : GameD) : Int × Int := if gameE g = 0 then ((countG g : Int),0) else (0,gameE g)
theorem digitsL_len (q n r : Nat) : (digitsL q n r).length = n := by
 induction n generalizing r with
 | zero => rfl
 | succ n ih => rw [digitsL,List.length_append,ih];rfl
theorem digitsL_mem {q n r : Nat} (hq : 0 < q) : ∀ x ∈ digitsL q n r,0 ≤ x ∧ x ≤ (q : Int) - 1 := by
 induction n generalizing r with
 | zero => intro x hx;cases hx
 | succ n ih =>
  intro x hx
  rw [digitsL,List.mem_append] at hx
  rcases hx with hx | hx
  ·exact ih x hx
  ·rw [List.mem_singleton] at hx
   subst hx
   have := Nat.mod_lt r hq
   omega
theorem checkL_of {n last : Int} {l : List Int} (h1 : l.Pairwise (· < ·)) (h2 : ∀ x ∈ l,last < x ∧ 1 ≤ x ∧ x ≤ n) : checkL n last l = 0 := by
 induction l generalizing last with
 | nil => rfl
 | cons v t ih =>
  rw [List.pairwise_cons] at h1
  have hv := h2 v (List.mem_cons_self ..)
  rw [checkL,if_neg (by omega),if_neg (by omega)]
  refine ih h1.2 (fun x hx => ?_)
  have := h2 x (List.mem_cons_of_mem _ hx)
  have := h1.1 x hx
  omega
theorem checkL_pair {n last : Int} {l : List Int} (h : checkL n last l = 0) : l.Pairwise (· < ·) ∧ ∀ x ∈ l,last < x ∧ 1 ≤ x ∧ x ≤ n := by
 induction l generalizing last with
 | nil => exact ⟨List.Pairwise.nil,fun x hx => by cases hx⟩
 | cons v t ih =>
  obtain ⟨h1,h2,h3,h4⟩ := checkL_cons h
  obtain ⟨i1,i2⟩ := ih h4
  refine ⟨List.pairwise_cons.2 ⟨fun x hx => (i2 x hx).1,i1⟩,fun x hx => ?_⟩
  rcases List.mem_cons.1 hx with rfl | hx
  ·omega
  ·have := i2 x hx;omega
theorem lt_nodup {l : List Int} (h : l.Pairwise (· < ·)) : l.Nodup := h.imp (fun h => by omega)
theorem lt_le {l : List Int} (h : l.Pairwise (· < ·)) : l.Pairwise (· ≤ ·) := h.imp (fun h => by omega)
theorem sortI_lt {l : List Int} (h : l.Nodup) : (sortI l).Pairwise (· < ·) := by
 have h1 := sortI_sorted l
 have h2 : (sortI l).Nodup := (sortI_perm l).nodup_iff.2 h
 exact (h1.and h2).imp (fun h => by have := h.1;have := h.2;omega)
theorem check_sortI {n : Int} {l : List Int} (h : l.Nodup) (h2 : ∀ x ∈ l,1 ≤ x ∧ x ≤ n) : checkL n 0 (sortI l) = 0 := by
 refine checkL_of (sortI_lt h) (fun x hx => ?_)
 have := h2 x ((sortI_perm l).mem_iff.1 hx)
 omega
theorem unrankL_sumC {n m w j r : Nat} (d : Nat) (hm : m + w = n + 1) (hd : d ≤ m) (hr : r < choose (m - d) (j + 1)) :
  unrankL m w (sumC n j (w - 1) d + r) (j + 1) = unrankL (m - d) (w + d) r (j + 1) ∨ w = 0 := by
 induction d generalizing m w with
 | zero => left;simp [sumC]
 | succ d ih =>
  rcases Nat.eq_zero_or_pos w with hw | hw
  ·exact .inr hw
  left
  obtain ⟨m,rfl⟩ : ∃ m',m = m' + 1 := ⟨m - 1,by omega⟩
  rw [sumC_front,show w - 1 + 1 = w by omega,show n - w = m by omega,unrankL,if_neg (by omega),Nat.add_sub_cancel,if_neg (by omega)]
  have := ih (m := m) (w := w + 1) (by omega) (by omega) (by rwa [show m + 1 - (d + 1) = m - d by omega] at hr)
  rw [show w + 1 - 1 = w by omega] at this
  rw [show choose m j + sumC n j w d + r - choose m j = sumC n j w d + r by omega]
  rcases this with h | h
  ·rw [h,show m + 1 - (d + 1) = m - d by omega,show w + (d + 1) = w + 1 + d by omega]
  ·omega
theorem unrank_rankL {n last : Nat} {l : List Int} (hl : last ≤ n) (h : checkL n last l = 0) : unrankL (n - last) (last + 1) (rankL n last l) l.length = l := by
 induction l generalizing last with
 | nil => rw [List.length_nil,unrankL_zero]
 | cons v t ih =>
  obtain ⟨h1,h2,h3,h4⟩ := checkL_cons h
  obtain ⟨v,rfl⟩ := Int.eq_ofNat_of_zero_le (show 0 ≤ v by omega)
  have hlt := rankL_lt (n := n) (last := v) (by omega) h4
  rw [rankL,List.length_cons,Int.toNat_natCast]
  obtain ⟨d,hd⟩ : ∃ d,v - 1 - last = d := ⟨_,rfl⟩
  obtain ⟨m,hm⟩ : ∃ m,n - last - d = m + 1 := ⟨n - last - d - 1,by omega⟩
  have hv : n - v = m := by omega
  rw [hv] at hlt
  have := unrankL_sumC (n := n) (m := n - last) (w := last + 1) (j := t.length) (r := rankL n v t) d (by omega) (by omega) (by rw [hm,choose_succ];omega)
  rw [Nat.add_sub_cancel] at this
  rw [hd]
  rcases this with h | h
  ·rw [h,hm,unrankL,if_neg (by omega),Nat.add_sub_cancel,if_pos hlt]
   have e := ih (last := v) (by omega) h4
   rw [hv] at e
   rw [show last + 1 + d = v by omega,e]
  ·omega
def lessB : List Int → List Int → Bool
 | a :: s,b :: t => if a = b then lessB s t else decide (a < b)
 | _,_ => false
theorem unrankL_succ (m w r j : Nat) : unrankL (m + 1) w r (j + 1) = if r < choose m j then (w : Int) :: unrankL m (w + 1) r j else unrankL m (w + 1) (r - choose m j) (j + 1) := by
 rw [unrankL,if_neg (by omega),Nat.add_sub_cancel]
theorem unrankL_less {n m w r s j : Nat} (hm : m + w = n + 1) (hs : s < choose m j) (hrs : r < s) : lessB (unrankL m w r j) (unrankL m w s j) = true := by
 induction m generalizing w r s j with
 | zero => cases j with
  | zero => rw [choose_zero] at hs;omega
  | succ j => rw [choose_gt (by omega)] at hs;omega
 | succ m ih => cases j with
  | zero => rw [choose_zero] at hs;omega
  | succ j =>
   rw [choose_succ] at hs
   rw [unrankL_succ,unrankL_succ]
   by_cases h1 : s < choose m j
   ·rw [if_pos h1,if_pos (show r < choose m j by omega),lessB,if_pos rfl]
    exact ih (by omega) h1 hrs
   ·rw [if_neg h1]
    by_cases h2 : r < choose m j
    ·rw [if_pos h2]
     obtain ⟨v,t,e,e2,e3⟩ := unrankL_head (n := n) (w := w + 1) (m := m) (r := s - choose m j) (j := j) (by omega) (by omega)
     rw [e,lessB,if_neg (by omega),decide_eq_true_iff]
     omega
    ·rw [if_neg h2]
     exact ih (by omega) (by omega) (by omega)
end Go.Proofs.YtelgllgaofjgjaaGreat
end
section
open Go.RowKit
set_option linter.unusedVariables false
set_option linter.unusedSimpArgs false
namespace Go.Proofs.YtelgllgaofjgjaaGreat
def GameAt (X : World) (b : Nat) (g : GameD) (av tv : Value) : Prop := Row X b 25 (gameCells g av tv)
def LineAt (X : World) (b : Nat) (mv bv : Value) : Prop := Row X b 53 [mv,bv]
def TierAt (X : World) (b : Nat) (t : TierD) : Prop := Row X b 72 (tierCells t)
def lineVal (mv bv : Value) : Value := .agg #[mv,bv]
def LineR (w : World) (mv bv : Value) (a b : List Int) : Prop := Rd I64 w mv a ∧ Rd I64 w bv b
section
variable {X Y : World} {b : Nat} {g : GameD} {av tv mv bv : Value} {t : TierD} {l k : List Int}
theorem LineR.below (h : LineR X mv bv l k) (hb : Below X.heap.size X Y) : LineR Y mv bv l k := ⟨h.1.below hb,h.2.below hb⟩
theorem GameAt.keep (h : GameAt X b g av tv) (hb : Below X.heap.size X Y) : GameAt Y b g av tv := Row.keep h hb
theorem LineAt.keep (h : LineAt X b mv bv) (hb : Below X.heap.size X Y) : LineAt Y b mv bv := Row.keep h hb
theorem TierAt.keep (h : TierAt X b t) (hb : Below X.heap.size X Y) : TierAt Y b t := Row.keep h hb
theorem LineAt.row (h : LineAt X b mv bv) : Row X b 53 [mv,bv] := h
theorem LineAt.store (h : LineAt X b mv bv) (u v : Value) : LineAt ((X.setCell ⟨b,0,none⟩ u).setCell ⟨b,1,none⟩ v) b u v := (Row.set h 0 u).set 1 v
theorem LineAt.main (h : LineAt X b mv bv) : X.cell? ⟨b,0,none⟩ = some mv := (Row.cell? h 0).trans rfl
theorem LineAt.bonus (h : LineAt X b mv bv) : X.cell? ⟨b,1,none⟩ = some bv := (Row.cell? h 1).trans rfl
theorem GameAt.name (h : GameAt X b g av tv) : X.cell? ⟨b,0,none⟩ = some (.string g.name) := (Row.cell? h 0).trans rfl
theorem GameAt.kind (h : GameAt X b g av tv) : X.cell? ⟨b,1,none⟩ = some (.int .i64 g.kind) := (Row.cell? h 1).trans rfl
theorem GameAt.price (h : GameAt X b g av tv) : X.cell? ⟨b,2,none⟩ = some (.int .i64 g.price) := (Row.cell? h 2).trans rfl
theorem GameAt.main (h : GameAt X b g av tv) : X.cell? ⟨b,3,none⟩ = some (.int .i64 g.main) := (Row.cell? h 3).trans rfl
theorem GameAt.of (h : GameAt X b g av tv) : X.cell? ⟨b,4,none⟩ = some (.int .i64 g.of) := (Row.cell? h 4).trans rfl
theorem GameAt.bonus (h : GameAt X b g av tv) : X.cell? ⟨b,5,none⟩ = some (.int .i64 g.bonus) := (Row.cell? h 5).trans rfl
theorem GameAt.bonusOf (h : GameAt X b g av tv) : X.cell? ⟨b,6,none⟩ = some (.int .i64 g.bonusOf) := (Row.cell? h 6).trans rfl
theorem GameAt.extra (h : GameAt X b g av tv) : X.cell? ⟨b,7,none⟩ = some (.int .i64 g.extra) := (Row.cell? h 7).trans rfl
theorem GameAt.draws (h : GameAt X b g av tv) : X.cell? ⟨b,8,none⟩ = some (.int .i64 g.draws) := (Row.cell? h 8).trans rfl
theorem GameAt.system (h : GameAt X b g av tv) : X.cell? ⟨b,9,none⟩ = some (.int .i64 g.system) := (Row.cell? h 9).trans rfl
theorem GameAt.addons (h : GameAt X b g av tv) : X.cell? ⟨b,20,none⟩ = some av := (Row.cell? h 20).trans rfl
theorem GameAt.tiers (h : GameAt X b g av tv) : X.cell? ⟨b,21,none⟩ = some tv := (Row.cell? h 21).trans rfl
end
theorem setRow_row {w : World} {g : Nat} {t : TypeId} {old : List Value} (cells : Array Value) (h : Row w g t old) : Row (w.setRow g cells) g t cells.toList := by
 have := setRow_heap w g old.toArray cells t (0,0) h
 unfold Row
 rw [this]
theorem setRow_grown (w : World) (g : Nat) (cells : Array Value) : w.grownBy (w.setRow g cells) (some g) := by
 refine ⟨rfl,rfl,rfl,by simp [World.setRow],fun k hk hne => ?_⟩
 have : g ≠ k := fun e => hne (by rw [e])
 simp [World.setRow,Array.getElem?_modify,this]
theorem wpList_store_whole {P : Program} {ops : Array Oper} {rest : List Oper} {o : Oper} {a : Act} {w : World} {Q : Exit → Act → World → Prop} (hgd : o.guard = none) (ty : TypeId) (x y : Operand) (ho : o.op = .store ty x y)
  (g : Nat) (cells : Array Value) (hx : a.eval x = .pointer (some ⟨g,0,none⟩)) (hy : a.eval y = .agg cells)
  (t : TypeId) (old : List Value) (hg : Row w g t old) (hi : (P.info? ty).map (·.size) = some cells.size) (hold : old.length = cells.size) (h1 : cells.all (·.oneCell') = true)
  (h : ∀ w',Row w' g t cells.toList → w.grownBy w' (some g) → wpList P ops Q rest (a.put o.dst undef) w') : wpList P ops Q (o :: rest) a w :=
 wpList_store_row hgd ty x y ho g cells hx hy t old.toArray hg hi (by simpa using hold) h1 (h _ (setRow_row cells hg) (setRow_grown w g cells))
theorem gameCells_one {g : GameD} {av tv : Value} (h1 : ∃ a n c,av = .slice a n c) (h2 : ∃ a n c,tv = .slice a n c) : (gameCells g av tv).toArray.all (·.oneCell') = true := by
 obtain ⟨_,_,_,rfl⟩ := h1
 obtain ⟨_,_,_,rfl⟩ := h2
 simp [gameCells,Value.oneCell']
theorem wpList_store_game {ops : Array Oper} {rest : List Oper} {o : Oper} {a : Act} {w : World} {Q : Exit → Act → World → Prop} (hgd : o.guard = none) (x y : Operand) (ho : o.op = .store 25 x y)
  (b : Nat) (g : GameD) (av tv : Value) (hx : a.eval x = .pointer (some ⟨b,0,none⟩)) (hy : a.eval y = gameVal g av tv) (h1 : ∃ a n c,av = .slice a n c) (h2 : ∃ a n c,tv = .slice a n c)
  (old : List Value) (hg : Row w b 25 old) (hold : old.length = 22)
  (h : ∀ w',GameAt w' b g av tv → w.grownBy w' (some b) → wpList Tryz.prog ops Q rest (a.put o.dst undef) w') : wpList Tryz.prog ops Q (o :: rest) a w :=
 wpList_store_whole hgd 25 x y ho b (gameCells g av tv).toArray hx (hy.trans rfl) 25 old hg (by kernel_rfl) hold (gameCells_one h1 h2) h
theorem RdS.nil {α : Type} {sz : Nat} {V : α → List Value} {w : World} : RdS sz V w (.slice none 0 0) [] := ⟨none,0,rfl,Nat.le_refl _,Nat.zero_le _,fun h => absurd h (by simp)⟩
theorem RdS.one {α : Type} {sz : Nat} {V : α → List Value} {w : World} {g : Nat} {t : TypeId} {x : α} (h : Row w g t (V x)) : RdS sz V w (.slice (some ⟨g,0,none⟩) 1 1) [x] := by
 refine ⟨_,1,rfl,Nat.le_refl _,by unfold maxLen;omega,fun _ => ⟨g,0,rfl,h.lt,fun i y hy j u hu => ?_⟩⟩
 have hi : i = 0 := by
  have := (List.getElem?_eq_some_iff.1 hy).1
  simpa using this
 subst hi
 simp at hy
 subst hy
 rw [show 0 + 0 * sz + j = j by omega,h.cell? j]
 exact hu
def GameB (g : GameD) (w : World) (e : Ending) (w' : World) : Prop := ∃ av tv ms,e = .returned (gameVal g av tv) ∧ GameR w' av tv ms g ∧ Below w.heap.size w w'
theorem GameR.oneTier {w : World} {g : GameD} {b : Nat} {t : TierD} (h : Row w b 72 (tierCells t)) (ha : g.addons = []) (ht : g.tiers = [t]) : GameR w (.slice none 0 0) (.slice (some ⟨b,0,none⟩) 1 1) [] g :=
 ⟨⟨RdS.nil,fun i m hm => by simp at hm⟩,by rw [ha];rfl,by rw [ht];exact RdS.one h⟩
def Rng (X : World) (l : List (Nat × List Value)) : Prop := ∀ p ∈ l,X.rangeAt p.1 0 p.2
theorem Rng.nil (X : World) : Rng X [] := fun _ h => by cases h
theorem Rng.cons {X : World} {b : Nat} {t : TypeId} {cs : List Value} {l : List (Nat × List Value)} (h : Row X b t cs) (hl : Rng X l) : Rng X ((b,cs) :: l) := by
 intro p hp
 rcases List.mem_cons.1 hp with rfl | hp
 ·intro j v hv
  rw [Nat.zero_add]
  exact (Row.cell? h j).trans hv
 ·exact hl p hp
theorem Rng.keep {X Y : World} {l : List (Nat × List Value)} (h : Rng X l) (hb : Below X.heap.size X Y) : Rng Y l := fun p hp j v hv => Bel.cellOf hb (h p hp j v hv)
theorem Rng.drew {X : World} {l : List (Nat × List Value)} (h : Rng X l) : Rng X.drew l := h
theorem Rng.at0 {X : World} {b : Nat} {cs : List Value} {l : List (Nat × List Value)} (h : Rng X ((b,cs) :: l)) : X.rangeAt b 0 cs := h (b,cs) (.head _)
theorem Rng.at1 {X : World} {p : Nat × List Value} {b : Nat} {cs : List Value} {l : List (Nat × List Value)} (h : Rng X (p :: (b,cs) :: l)) : X.rangeAt b 0 cs := h (b,cs) (.tail _ (.head _))
theorem Rng.at2 {X : World} {p q : Nat × List Value} {b : Nat} {cs : List Value} {l : List (Nat × List Value)} (h : Rng X (p :: q :: (b,cs) :: l)) : X.rangeAt b 0 cs := h (b,cs) (.tail _ (.tail _ (.head _)))
theorem Rng.cell0 {X : World} {b : Nat} {cs : List Value} {l : List (Nat × List Value)} (h : Rng X ((b,cs) :: l)) (j : Nat) (v : Value) (hv : cs[j]? = some v) : X.cell? ⟨b,j,none⟩ = some v := by
 have := h.at0 j v hv
 rwa [Nat.zero_add] at this
theorem Rng.cell1 {X : World} {p : Nat × List Value} {b : Nat} {cs : List Value} {l : List (Nat × List Value)} (h : Rng X (p :: (b,cs) :: l)) (j : Nat) (v : Value) (hv : cs[j]? = some v) : X.cell? ⟨b,j,none⟩ = some v := by
 have := h.at1 j v hv
 rwa [Nat.zero_add] at this
theorem Rng.far {X : World} {l : List (Nat × List Value)} (h : Rng X l) {q : Addr} (hq : ∀ p ∈ l,p.1 ≠ q.block) (u : Value) : Rng (X.setCell q u) l := by
 intro p hp j v hv
 exact cell_far (h p hp j v hv) (hq p hp) u
theorem GameAt.drew {X : World} {b : Nat} {g : GameD} {av tv : Value} (h : GameAt X b g av tv) : GameAt X.drew b g av tv := h
theorem LineAt.drew {X : World} {b : Nat} {mv bv : Value} (h : LineAt X b mv bv) : LineAt X.drew b mv bv := h
theorem Below.drewSelf (X : World) : Below X.heap.size X X.drew := Below.drew (Below.refl _ _)
theorem allB_at {l : List Int} {lo hi : Int} {k : Nat} (hk : k < l.length) (h : inB l[k] lo hi = false) : allB l lo hi = false := by
 rw [← Bool.not_eq_true]
 intro e
 unfold allB at e
 have := List.all_eq_true.1 e l[k] (List.getElem_mem hk)
 rw [h] at this;cases this
theorem allB_yes {l : List Int} {lo hi : Int} (h : ∀ k (hk : k < l.length),inB l[k] lo hi = true) : allB l lo hi = true := by
 unfold allB
 rw [List.all_eq_true]
 intro x hx
 obtain ⟨k,hk,rfl⟩ := List.getElem_of_mem hx
 exact h k hk
theorem dupB_at {l : List Int} {i k : Nat} (hi : i < l.length) (hk : k < i) (h : l[i] = l[k]'(by omega)) : dupB l = true := by
 unfold dupB
 rw [decide_eq_true_iff]
 intro hn
 exact (List.pairwise_iff_getElem.1 hn k i (by omega) hi hk) h.symm
theorem dupB_none {l : List Int} (h : ∀ i (hi : i < l.length) k (hk : k < i),l[i] ≠ l[k]'(by omega)) : dupB l = false := by
 rw [dupB_no]
 exact List.pairwise_iff_getElem.2 (fun k i hk hi hki e => h i hi k hki e.symm)
set_option maxHeartbeats 1000000 in
theorem inside13_any (v : Value) (l : List Int) (lo hi : Int) (w : World) (h : Rd I64 w v l) :
  Calls Tryz.prog 58 #[v,.int .i64 lo,.int .i64 hi] w (Pure (.bool (allB l lo hi)) w) := by
 obtain ⟨ao,cap,rfl,hle,hmax,hrd⟩ := Rd.form h
 have hmax2 : cap ≤ 9223372036854775807 := by unfold maxLen at hmax;omega
 go_enter Tryz.func58,Tryz.ntmps58
 go_wp2
 go_loopg [11] l.length (fun g t wr => ∃ (i : Nat),g = l.length - i ∧ i ≤ l.length ∧ t = .int .i64 i ∧ w = wr ∧ ∀ k (hk : k < l.length),k < i → inB l[k] lo hi = true)
 case atStart => exact ⟨0,rfl,Nat.zero_le _,rfl,rfl,fun k hk hki => absurd hki (Nat.not_lt_zero _)⟩
 case round =>
  obtain ⟨i,hg,hi',rfl,rfl,hall⟩ := hrel
  replace hg := hide hg
  replace hall := hide hall
  by_cases hlt : i < l.length
  ·have hlt2 := hide hlt
   obtain ⟨b,off,rfl,hbb,hcell⟩ := hrd.at_ hlt
   have i1 : (0 : Int) ≤ (i : Int) := by omega
   have i2 : (i : Int) < (l.length : Int) := by omega
   obtain ⟨x,hx,c1⟩ : ∃ x,x = l[i] ∧ w.cell? ⟨b,off + i,none⟩ = some (.int .i64 x) := ⟨_,rfl,hcell _ hlt⟩
   clear hcell
   by_cases hlo : x < lo
   ·have hr := hide (allB_at hlt (by have h9 := inB_lo (hi := hi) hlo;rw [hx] at h9;exact h9) : allB l lo hi = false)
    replace hx := hide hx
    go_wp2
    go_ret
    rw [hr.out]
    exact ⟨rfl,rfl⟩
   ·by_cases hhi : hi < x
    ·have hr := hide (allB_at hlt (by have h9 := inB_hi (lo := lo) hhi;rw [hx] at h9;exact h9) : allB l lo hi = false)
     replace hx := hide hx
     go_wp2
     go_ret
     rw [hr.out]
     exact ⟨rfl,rfl⟩
    ·have hnext : ∀ k (hk : k < l.length),k < i + 1 → inB l[k] lo hi = true := by
      intro k hk hki
      rcases Nat.lt_succ_iff_lt_or_eq.1 hki with h | rfl
      ·exact hall.out k hk h
      ·have h9 := inB_yes (x := x) (lo := lo) (hi := hi) (by omega) (by omega);rw [hx] at h9;exact h9
     replace hnext := hide hnext
     replace hx := hide hx
     go_wp2
     go_roundg (l.length - (i + 1))
     case measure => have := hg.out;omega
     case rel => exact ⟨i + 1,rfl,by have := hlt2.out;omega,by go_num,rfl,hnext.out⟩
  ·have hr := hide (allB_yes (lo := lo) (hi := hi) (fun k hk => hall.out k hk (by omega)))
   go_wp2
   go_ret
   rw [hr.out]
   exact ⟨rfl,rfl⟩
set_option maxRecDepth 100000 in
set_option maxHeartbeats 1000000 in
theorem power_ok (a n : Nat) (w : World) (hn : n ≤ 62) (ha : a ≤ 9223372036854775807) (hp : ∀ i,i ≤ n → a ^ i ≤ 9223372036854775807) :
  Calls Tryz.prog 48 #[.int .i64 (a : Int),.int .i64 (n : Int)] w (IntP ((a ^ n : Nat) : Int) 0 w) := by
 have n1 : (0 : Int) ≤ (n : Int) := by omega
 have n2 : (n : Int) ≤ 62 := by omega
 replace hp := hide hp
 obtain ⟨r,hr⟩ : ∃ r,r = a ^ n := ⟨_,rfl⟩
 rw [← hr]
 replace hr := hide hr
 have ha2 := hide ha
 clear ha
 go_enter Tryz.func48,Tryz.ntmps48
 go_wp2
 go_loopg [16,6] n (fun g t q wr => ∃ (i p : Nat),g = n - i ∧ i ≤ n ∧ t = .int .i64 i ∧ q = .int .i64 p ∧ w = wr ∧ p = a ^ i)
 case atStart => exact ⟨0,1,rfl,Nat.zero_le _,rfl,rfl,rfl,rfl⟩
 case round =>
  obtain ⟨i,p,hg,hi,rfl,rfl,rfl,hpi⟩ := hrel
  replace hg := hide hg
  replace hpi := hide hpi
  by_cases hlt : i < n
  ·have hlt2 := hide hlt
   have hnext : p * a = a ^ (i + 1) := by rw [hpi.out];rfl
   have hb1 : p ≤ 9223372036854775807 := by rw [hpi.out];exact hp.out i (by omega)
   have hb2 : p * a ≤ 9223372036854775807 := by rw [hnext];exact hp.out (i + 1) (by omega)
   have hm := hide (nmul_ok p a w hb1 ha2.out hb2)
   obtain ⟨q,hq⟩ : ∃ q,q = p * a := ⟨_,rfl⟩
   rw [← hq] at hm hnext
   replace hnext := hide hnext
   clear hb1 hb2 hq
   go_wp2_with fail
   refine hm.out.mono ?_
   rintro e w' ⟨rfl,rfl⟩
   go_wp2
   go_roundg (n - (i + 1))
   case measure => have := hg.out;have := hlt2.out;omega
   case rel => exact ⟨i + 1,q,rfl,by have := hlt2.out;omega,by go_num,rfl,rfl,hnext.out⟩
  ·have hin : i = n := by omega
   have hend : r = p := by rw [hr.out,hpi.out,hin]
   replace hend := hide hend
   replace hin := hide hin
   go_wp2
   go_ret2
   rw [hend.out]
   exact ⟨rfl,rfl⟩
theorem choose_mono_n {m n k : Nat} (h : m ≤ n) : choose m k ≤ choose n k := by
 induction n with
 | zero => rw [Nat.le_zero.1 h];exact Nat.le_refl _
 | succ n ih =>
  rcases Nat.lt_or_ge m (n + 1) with h1 | h1
  ·refine Nat.le_trans (ih (by omega)) ?_
   cases k with
   | zero => rw [choose_zero,choose_zero];exact Nat.le_refl _
   | succ k => rw [choose_succ];omega
  ·rw [show m = n + 1 by omega];exact Nat.le_refl _
theorem choose_main {n k : Nat} (hn : n ≤ 80) (hk : k ≤ 10) : choose n k ≤ 1646492110120 := by
 refine Nat.le_trans (choose_mono_n hn) ?_
 rw [choose_fast]
 have : k = 0 ∨ k = 1 ∨ k = 2 ∨ k = 3 ∨ k = 4 ∨ k = 5 ∨ k = 6 ∨ k = 7 ∨ k = 8 ∨ k = 9 ∨ k = 10 := by omega
 rcases this with rfl | rfl | rfl | rfl | rfl | rfl | rfl | rfl | rfl | rfl | rfl <;> decide
theorem choose_bonus {n k : Nat} (hn : n ≤ 80) (hk : k ≤ 4) : choose n k ≤ 1581580 := by
 refine Nat.le_trans (choose_mono_n hn) ?_
 rw [choose_fast]
 have : k = 0 ∨ k = 1 ∨ k = 2 ∨ k = 3 ∨ k = 4 := by omega
 rcases this with rfl | rfl | rfl | rfl | rfl <;> decide
theorem game_kind {g : GameD} (h : gameE g = 0) : g.kind = 1 ∨ g.kind = 2 := by
 unfold gameE at h
 split at h
 ·omega
 ·split at h
  ·omega
  ·rename_i h1 h2;omega
theorem game_mat {g : GameD} (h : gameE g = 0) : matB g = true := by
 unfold gameE at h
 split at h
 ·omega
 ·split at h
  ·omega
  ·split at h
   ·omega
   ·rename_i h1 h2 h3;simpa using h3
theorem mat_facts {g : GameD} (h : matB g = true) : 1 ≤ g.main ∧ g.main ≤ 10 ∧ 0 ≤ g.bonus ∧ g.bonus ≤ 4 ∧ 0 ≤ g.of ∧ g.of ≤ 80 ∧ (g.kind = 2 → 2 ≤ g.of ∧ g.of ≤ 10) ∧ (g.kind ≠ 2 → g.main ≤ g.of) ∧ g.bonus ≤ g.bonusOf ∧ 0 ≤ g.bonusOf ∧ g.bonusOf ≤ 80 := by
 unfold matB at h
 simp only [Bool.and_eq_true] at h
 obtain ⟨⟨⟨⟨⟨⟨⟨h1,h2⟩,h3⟩,h4⟩,h5⟩,h6⟩,h7⟩,h8⟩ := h
 have a2 := inB_iff.1 h2
 split at h3 <;> split at h4 <;> split at h5 <;> (have a3 := inB_iff.1 h3;have a4 := inB_iff.1 h4;have a5 := inB_iff.1 h5;omega)
theorem pow_ten {a n : Nat} (ha : a ≤ 10) (hn : n ≤ 10) : a ^ n ≤ 10000000000 := by
 refine Nat.le_trans (Nat.pow_le_pow_left ha n) (Nat.le_trans (Nat.pow_le_pow_right (by omega) hn) (by decide))
set_option maxHeartbeats 2000000 in
set_option maxRecDepth 100000 in
theorem mcount_bad (g : GameD) (av tv : Value) (ms : List AddonM) (w : World) (h : GameR w av tv ms g) (he : gameE g ≠ 0) :
  Calls Tryz.prog 22 #[gameVal g av tv] w (IntC 0 (gameE g) w) := by
 have hc := hide (fun X (hX : GameR X av tv ms g) => gcheck_any g av tv ms X hX)
 have hh := hide h
 obtain ⟨aa,ac,rfl,hal,ham⟩ := h.1.1.shape
 obtain ⟨ta,tc,rfl,htl,htm⟩ := h.2.2.shape
 clear h
 obtain ⟨c,hcc⟩ : ∃ c,c = gameE g := ⟨_,rfl⟩
 rw [← hcc] at hc he ⊢
 clear hcc
 obtain ⟨gname,gkind,gprice,gmain,gof,gbonus,gbonusOf,gextra,gdraws,gsystem,gdays,gat,gclose,gcancel,gexpiry,gpool,greserve,ground,gcap,grolls,ga,gt⟩ := g
 unfold gameVal at hc ⊢
 (try simp only [] at hc ⊢)
 have hcb : (c != 0) = true := by simpa using he
 replace he := hide he
 go_enter Tryz.func22,Tryz.ntmps22
 go_upto_region 1 with (fail)
 obtain ⟨W,hW⟩ : ∃ W,W = (w.alloc (Obj.cells #[.string gname,.int .i64 gkind,.int .i64 gprice,.int .i64 gmain,.int .i64 gof,.int .i64 gbonus,.int .i64 gbonusOf,.int .i64 gextra,.int .i64 gdraws,.int .i64 gsystem,.int .i64 gdays,.int .i64 gat,.int .i64 gclose,.int .i64 gcancel,.int .i64 gexpiry,.int .i64 gpool,.int .i64 greserve,.int .i64 ground,.int .i64 gcap,.int .i64 grolls,(.slice aa ms.length ac),(.slice ta gt.length tc)] 25)) := ⟨_,rfl⟩
 have bW : Below w.heap.size w W := by rw [hW];exact Bel.al (Below.refl _ _) _
 have r0 : Row W (w.heap.size) 25 [.string gname,.int .i64 gkind,.int .i64 gprice,.int .i64 gmain,.int .i64 gof,.int .i64 gbonus,.int .i64 gbonusOf,.int .i64 gextra,.int .i64 gdraws,.int .i64 gsystem,.int .i64 gdays,.int .i64 gat,.int .i64 gclose,.int .i64 gcancel,.int .i64 gexpiry,.int .i64 gpool,.int .i64 greserve,.int .i64 ground,.int .i64 gcap,.int .i64 grolls,(.slice aa ms.length ac),(.slice ta gt.length tc)] := by rw [hW];exact Row.new _ _ _
 have c0_1 : W.cell? ⟨w.heap.size,1,none⟩ = some (.int .i64 gkind) := Row.cell r0 (i := 1) (by simp)
 have c0_3 : W.cell? ⟨w.heap.size,3,none⟩ = some (.int .i64 gmain) := Row.cell r0 (i := 3) (by simp)
 have c0_4 : W.cell? ⟨w.heap.size,4,none⟩ = some (.int .i64 gof) := Row.cell r0 (i := 4) (by simp)
 have c0_5 : W.cell? ⟨w.heap.size,5,none⟩ = some (.int .i64 gbonus) := Row.cell r0 (i := 5) (by simp)
 have c0_6 : W.cell? ⟨w.heap.size,6,none⟩ = some (.int .i64 gbonusOf) := Row.cell r0 (i := 6) (by simp)
 have sW : w.heap.size < W.heap.size := by rw [hW];simp
 rw [← hW]
 clear hW
 go_wp2_with (first | (refine wpList_load_row rfl 25 _ rfl _ rfl _ _ _ _ r0 Tryz.underlying25 rfl (by kernel_rfl) ?_) | fail)
 refine (hc.out _ (hh.out.below bW)).mono ?_
 rintro e w1 ⟨s,rfl,hb1⟩
 go_wp2
 go_ret2
 exact ⟨rfl,Bel.to bW hb1⟩
theorem countV_fit {n k : Int} {N K : Nat} (hn : n = N) (hk : k = K) (h80 : N ≤ 80) (hx : choose N K ≤ 9223372036854775807) : countV n k = ((choose N K : Int),0) := by
 unfold countV
 rw [chooseI_nat N K n k hn hk,if_pos (by omega),if_pos hx]
set_option maxHeartbeats 2000000 in
set_option maxRecDepth 100000 in
theorem mcount_ok (g : GameD) (av tv : Value) (ms : List AddonM) (w : World) (h : GameR w av tv ms g) (he : gameE g = 0) :
  Calls Tryz.prog 22 #[gameVal g av tv] w (IntC (countG g) 0 w) := by
 have hc := hide (fun X (hX : GameR X av tv ms g) => gcheck_any g av tv ms X hX)
 have hk := game_kind he
 have hf := mat_facts (game_mat he)
 have hh := hide h
 obtain ⟨aa,ac,rfl,hal,ham⟩ := h.1.1.shape
 obtain ⟨ta,tc,rfl,htl,htm⟩ := h.2.2.shape
 clear h
 rw [he] at hc
 clear he
 obtain ⟨r,hr⟩ : ∃ r,r = countG g := ⟨_,rfl⟩
 rw [← hr]
 unfold countG at hr
 obtain ⟨gname,gkind,gprice,gmain,gof,gbonus,gbonusOf,gextra,gdraws,gsystem,gdays,gat,gclose,gcancel,gexpiry,gpool,greserve,ground,gcap,grolls,ga,gt⟩ := g
 unfold gameVal at hc ⊢
 (try simp only [] at hc hk hf hr ⊢)
 obtain ⟨f1,f2,f3,f4,f5,f6,f7,f8,f9,f10,f11⟩ := hf
 obtain ⟨nm,rfl⟩ := Int.eq_ofNat_of_zero_le (show 0 ≤ gmain by omega)
 obtain ⟨nof,rfl⟩ := Int.eq_ofNat_of_zero_le f5
 obtain ⟨nb,rfl⟩ := Int.eq_ofNat_of_zero_le f3
 obtain ⟨nbo,rfl⟩ := Int.eq_ofNat_of_zero_le f10
 have hbel := hide (fun W (bW : Below w.heap.size w W) => hc.out W (hh.out.below bW))
 clear hc hh
 by_cases hk2 : gkind = 2
 ·obtain ⟨e1,e2⟩ := f7 hk2
  have hp := hide (fun X => power_ok nof nm X (by omega) (by omega) (fun i hi => Nat.le_trans (pow_ten (by omega) (by omega)) (by omega)))
  rw [if_pos hk2] at hr
  have hr2 : r = nof ^ nm := by rw [hr];simp
  rw [← hr2] at hp
  replace hr2 := hide hr2
  have hkb : (gkind == 2) = true := by simpa using hk2
  replace hk2 := hide hk2
  clear hr hk f1 f2 f3 f4 f5 f6 f7 f8 f9 f10 f11 e1 e2
  go_enter Tryz.func22,Tryz.ntmps22
  go_upto_region 1 with (fail)
  obtain ⟨W,hW⟩ : ∃ W,W = (w.alloc (Obj.cells #[.string gname,.int .i64 gkind,.int .i64 gprice,.int .i64 (nm : Int),.int .i64 (nof : Int),.int .i64 (nb : Int),.int .i64 (nbo : Int),.int .i64 gextra,.int .i64 gdraws,.int .i64 gsystem,.int .i64 gdays,.int .i64 gat,.int .i64 gclose,.int .i64 gcancel,.int .i64 gexpiry,.int .i64 gpool,.int .i64 greserve,.int .i64 ground,.int .i64 gcap,.int .i64 grolls,(.slice aa ms.length ac),(.slice ta gt.length tc)] 25)) := ⟨_,rfl⟩
  have bW : Below w.heap.size w W := by rw [hW];exact Bel.al (Below.refl _ _) _
  have r0 : Row W (w.heap.size) 25 [.string gname,.int .i64 gkind,.int .i64 gprice,.int .i64 (nm : Int),.int .i64 (nof : Int),.int .i64 (nb : Int),.int .i64 (nbo : Int),.int .i64 gextra,.int .i64 gdraws,.int .i64 gsystem,.int .i64 gdays,.int .i64 gat,.int .i64 gclose,.int .i64 gcancel,.int .i64 gexpiry,.int .i64 gpool,.int .i64 greserve,.int .i64 ground,.int .i64 gcap,.int .i64 grolls,(.slice aa ms.length ac),(.slice ta gt.length tc)] := by rw [hW];exact Row.new _ _ _
  have c0_1 : W.cell? ⟨w.heap.size,1,none⟩ = some (.int .i64 gkind) := Row.cell r0 (i := 1) (by simp)
  have c0_3 : W.cell? ⟨w.heap.size,3,none⟩ = some (.int .i64 (nm : Int)) := Row.cell r0 (i := 3) (by simp)
  have c0_4 : W.cell? ⟨w.heap.size,4,none⟩ = some (.int .i64 (nof : Int)) := Row.cell r0 (i := 4) (by simp)
  have c0_5 : W.cell? ⟨w.heap.size,5,none⟩ = some (.int .i64 (nb : Int)) := Row.cell r0 (i := 5) (by simp)
  have c0_6 : W.cell? ⟨w.heap.size,6,none⟩ = some (.int .i64 (nbo : Int)) := Row.cell r0 (i := 6) (by simp)
  have sW : w.heap.size < W.heap.size := by rw [hW];simp
  rw [← hW]
  clear hW
  go_wp2_with (first | (refine wpList_load_row rfl 25 _ rfl _ rfl _ _ _ _ r0 Tryz.underlying25 rfl (by kernel_rfl) ?_) | fail)
  refine (hbel.out _ bW).mono ?_
  rintro e w1 ⟨s,rfl,hb1⟩
  have d1 := Bel.cellOf hb1 c0_1
  have d3 := Bel.cellOf hb1 c0_3
  have d4 := Bel.cellOf hb1 c0_4
  have B1 := Bel.to bW hb1
  clear c0_1 c0_3 c0_4 c0_5 c0_6 r0 hb1
  go_wp2_with fail
  refine (hp.out _).mono ?_
  rintro e w2 ⟨rfl,rfl⟩
  go_wp2
  go_ret2
  exact ⟨rfl,B1⟩
 ·rw [if_neg hk2] at hr
  have b1 := choose_main (n := nof) (k := nm) (by omega) (by omega)
  have b2 := choose_bonus (n := nbo) (k := nb) (by omega) (by omega)
  have v1 := countV_fit (n := (nof : Int)) (k := (nm : Int)) rfl rfl (by omega) (by omega)
  have v2 := countV_fit (n := (nbo : Int)) (k := (nb : Int)) rfl rfl (by omega) (by omega)
  have c1 := hide (count_any (nof : Int) (nm : Int))
  have c2 := hide (count_any (nbo : Int) (nb : Int))
  rw [v1] at c1
  rw [v2] at c2
  have hr2 : r = choose nof nm * choose nbo nb := by rw [hr];simp
  obtain ⟨A,hA⟩ : ∃ A,A = choose nof nm := ⟨_,rfl⟩
  obtain ⟨B,hB⟩ : ∃ B,B = choose nbo nb := ⟨_,rfl⟩
  rw [← hA] at c1 b1 hr2
  rw [← hB] at c2 b2 hr2
  have hm := hide (fun X => nmul_ok A B X (by omega) (by omega) (Nat.le_trans (Nat.mul_le_mul b1 b2) (by omega)))
  rw [← hr2] at hm
  have hkb : (gkind == 2) = false := by simpa using hk2
  replace hk2 := hide hk2
  clear hr hk f1 f2 f3 f4 f5 f6 f7 f8 f9 f10 f11 b1 b2 v1 v2 hr2 hA hB
  go_enter Tryz.func22,Tryz.ntmps22
  go_upto_region 1 with (fail)
  obtain ⟨W,hW⟩ : ∃ W,W = (w.alloc (Obj.cells #[.string gname,.int .i64 gkind,.int .i64 gprice,.int .i64 (nm : Int),.int .i64 (nof : Int),.int .i64 (nb : Int),.int .i64 (nbo : Int),.int .i64 gextra,.int .i64 gdraws,.int .i64 gsystem,.int .i64 gdays,.int .i64 gat,.int .i64 gclose,.int .i64 gcancel,.int .i64 gexpiry,.int .i64 gpool,.int .i64 greserve,.int .i64 ground,.int .i64 gcap,.int .i64 grolls,(.slice aa ms.length ac),(.slice ta gt.length tc)] 25)) := ⟨_,rfl⟩
  have bW : Below w.heap.size w W := by rw [hW];exact Bel.al (Below.refl _ _) _
  have r0 : Row W (w.heap.size) 25 [.string gname,.int .i64 gkind,.int .i64 gprice,.int .i64 (nm : Int),.int .i64 (nof : Int),.int .i64 (nb : Int),.int .i64 (nbo : Int),.int .i64 gextra,.int .i64 gdraws,.int .i64 gsystem,.int .i64 gdays,.int .i64 gat,.int .i64 gclose,.int .i64 gcancel,.int .i64 gexpiry,.int .i64 gpool,.int .i64 greserve,.int .i64 ground,.int .i64 gcap,.int .i64 grolls,(.slice aa ms.length ac),(.slice ta gt.length tc)] := by rw [hW];exact Row.new _ _ _
  have c0_1 : W.cell? ⟨w.heap.size,1,none⟩ = some (.int .i64 gkind) := Row.cell r0 (i := 1) (by simp)
  have c0_3 : W.cell? ⟨w.heap.size,3,none⟩ = some (.int .i64 (nm : Int)) := Row.cell r0 (i := 3) (by simp)
  have c0_4 : W.cell? ⟨w.heap.size,4,none⟩ = some (.int .i64 (nof : Int)) := Row.cell r0 (i := 4) (by simp)
  have c0_5 : W.cell? ⟨w.heap.size,5,none⟩ = some (.int .i64 (nb : Int)) := Row.cell r0 (i := 5) (by simp)
  have c0_6 : W.cell? ⟨w.heap.size,6,none⟩ = some (.int .i64 (nbo : Int)) := Row.cell r0 (i := 6) (by simp)
  have sW : w.heap.size < W.heap.size := by rw [hW];simp
  rw [← hW]
  clear hW
  go_wp2_with (first | (refine wpList_load_row rfl 25 _ rfl _ rfl _ _ _ _ r0 Tryz.underlying25 rfl (by kernel_rfl) ?_) | fail)
  refine (hbel.out _ bW).mono ?_
  rintro e w1 ⟨s,rfl,hb1⟩
  have d1 := Bel.cellOf hb1 c0_1
  have d3 := Bel.cellOf hb1 c0_3
  have d4 := Bel.cellOf hb1 c0_4
  have d5 := Bel.cellOf hb1 c0_5
  have d6 := Bel.cellOf hb1 c0_6
  have B1 := Bel.to bW hb1
  clear c0_1 c0_3 c0_4 c0_5 c0_6 r0 hb1
  go_wp2_with fail
  refine (c1.out _).mono ?_
  rintro e w2 ⟨rfl,hb2⟩
  replace d5 := Bel.cellOf hb2 d5
  replace d6 := Bel.cellOf hb2 d6
  replace B1 := Bel.to B1 hb2
  clear d1 d3 d4 hb2
  go_wp2_with fail
  refine (c2.out _).mono ?_
  rintro e w3 ⟨rfl,hb3⟩
  replace B1 := Bel.to B1 hb3
  clear d5 d6 hb3
  go_wp2_with fail
  refine (hm.out _).mono ?_
  rintro e w4 ⟨rfl,rfl⟩
  go_wp2
  go_ret2
  exact ⟨rfl,B1⟩
end Go.Proofs.YtelgllgaofjgjaaGreat
end
section
namespace Go.Proofs
open Go.Shelf
def Tryz.lays189_ren : Go.Shelf.Ren := ⟨fun | 189 => 76 | 125 => 66 | 257 => 102 | 128 => 96 | 129 => 97 | 294 => 120 | 295 => 121 | 296 => 122 | 297 => 123 | 298 => 124 | 299 => 125 | 216 => 126 | 300 => 127 | 301 => 128 | 328 => 137 | 329 => 112 | 330 => 113 | 331 => 138 | 332 => 139 | 215 => 67 | 343 => 144 | n => n,fun | 28 => 27 | 3 => 3 | 46 => 132 | 0 => 0 | 51 => 166 | 53 => 150 | 4 => 4 | 183 => 159 | 182 => 158 | 131 => 163 | 5 => 5 | 9 => 9 | 218 => 181 | 222 => 185 | 228 => 202 | 229 => 203 | n => n,fun | n => n⟩
theorem Tryz.lays189 : Go.Proofs.Lays.n189 Tryz.prog Tryz.lays189_ren := {
 mixed := by kernel_rfl
 f125 := Tryz.func66.trans (congrArg some (by kernel_rfl))
 f128 := Tryz.func96.trans (congrArg some (by kernel_rfl))
 f129 := Tryz.func97.trans (congrArg some (by kernel_rfl))
 f189 := Tryz.func76.trans (congrArg some (by kernel_rfl))
 f215 := Tryz.func67.trans (congrArg some (by kernel_rfl))
 f216 := Tryz.func126.trans (congrArg some (by kernel_rfl))
 f257 := Tryz.func102.trans (congrArg some (by kernel_rfl))
 f294 := Tryz.func120.trans (congrArg some (by kernel_rfl))
 f295 := Tryz.func121.trans (congrArg some (by kernel_rfl))
 f296 := Tryz.func122.trans (congrArg some (by kernel_rfl))
 f297 := Tryz.func123.trans (congrArg some (by kernel_rfl))
 f298 := Tryz.func124.trans (congrArg some (by kernel_rfl))
 f299 := Tryz.func125.trans (congrArg some (by kernel_rfl))
 f300 := Tryz.func127.trans (congrArg some (by kernel_rfl))
 f301 := Tryz.func128.trans (congrArg some (by kernel_rfl))
 f328 := Tryz.func137.trans (congrArg some (by kernel_rfl))
 f329 := Tryz.func112.trans (congrArg some (by kernel_rfl))
 f330 := Tryz.func113.trans (congrArg some (by kernel_rfl))
 f331 := Tryz.func138.trans (congrArg some (by kernel_rfl))
 f332 := Tryz.func139.trans (congrArg some (by kernel_rfl))
 f343 := Tryz.func144.trans (congrArg some (by kernel_rfl))
 t0 := Tryz.underlying0
 a0 := Tryz.isAgg0
 z0 := Tryz.sizeOf0
 v0 := Tryz.zeroValue0
 t3 := Tryz.underlying3
 a3 := Tryz.isAgg3
 z3 := Tryz.sizeOf3
 v3 := Tryz.zeroValue3
 t4 := Tryz.underlying4
 a4 := Tryz.isAgg4
 z4 := Tryz.sizeOf4
 v4 := Tryz.zeroValue4
 t5 := Tryz.underlying5
 a5 := Tryz.isAgg5
 z5 := Tryz.sizeOf5
 v5 := Tryz.zeroValue5
 t9 := Tryz.underlying9
 a9 := Tryz.isAgg9
 z9 := Tryz.sizeOf9
 v9 := Tryz.zeroValue9
 t28 := Tryz.underlying27
 a28 := Tryz.isAgg27
 z28 := Tryz.sizeOf27
 v28 := Tryz.zeroValue27
 t46 := Tryz.underlying132
 a46 := Tryz.isAgg132
 z46 := Tryz.sizeOf132
 v46 := Tryz.zeroValue132
 t51 := Tryz.underlying166
 a51 := Tryz.isAgg166
 z51 := Tryz.sizeOf166
 v51 := Tryz.zeroValue166
 t53 := Tryz.underlying150
 a53 := Tryz.isAgg150
 z53 := Tryz.sizeOf150
 v53 := Tryz.zeroValue150
 t131 := Tryz.underlying163
 a131 := Tryz.isAgg163
 z131 := Tryz.sizeOf163
 v131 := Tryz.zeroValue163
 t182 := Tryz.underlying158
 a182 := Tryz.isAgg158
 z182 := Tryz.sizeOf158
 v182 := Tryz.zeroValue158
 t183 := Tryz.underlying159
 a183 := Tryz.isAgg159
 z183 := Tryz.sizeOf159
 v183 := Tryz.zeroValue159
 t218 := Tryz.underlying181
 a218 := Tryz.isAgg181
 z218 := Tryz.sizeOf181
 v218 := Tryz.zeroValue181
 t222 := Tryz.underlying185
 a222 := Tryz.isAgg185
 z222 := Tryz.sizeOf185
 v222 := Tryz.zeroValue185
 t228 := Tryz.underlying202
 a228 := Tryz.isAgg202
 z228 := Tryz.sizeOf202
 v228 := Tryz.zeroValue202
 t229 := Tryz.underlying203
 a229 := Tryz.isAgg203
 z229 := Tryz.sizeOf203
 v229 := Tryz.zeroValue203 }
open Go.Sort Go.RowKit in
theorem Tryz.slices_Sort_int (blk off cap : Nat) (zs : List Int) (w : World) (hH : Holds (Value.int .i64) w blk off zs.toArray) (hblk : blk < w.heap.size) (hsz : zs.length < 4611686018427387904) :
  Calls Tryz.prog 76 #[.slice (some ⟨blk,off,none⟩) zs.length cap] w fun e w' =>
   e = .returned (.tuple #[]) ∧ ∃ n os,w' = grow (putRow (Value.int .i64) (Sort.ahead w n) blk off (zs.mergeSort fun x y => decide (x ≤ y)).toArray) os := Any.slices_Sort_int Tryz.lays189 blk off cap zs w hH hblk hsz
def Tryz.lays107_ren : Go.Shelf.Ren := ⟨fun | 107 => 43 | 108 => 74 | n => n,fun | 28 => 27 | 3 => 3 | 4 => 4 | 0 => 0 | n => n,fun | n => n⟩
theorem Tryz.lays107 : Go.Proofs.Lays.n107 Tryz.prog Tryz.lays107_ren := {
 mixed := by kernel_rfl
 f107 := Tryz.func43.trans (congrArg some (by kernel_rfl))
 f108 := Tryz.func74.trans (congrArg some (by kernel_rfl))
 t0 := Tryz.underlying0
 a0 := Tryz.isAgg0
 z0 := Tryz.sizeOf0
 v0 := Tryz.zeroValue0
 t3 := Tryz.underlying3
 a3 := Tryz.isAgg3
 z3 := Tryz.sizeOf3
 v3 := Tryz.zeroValue3
 t4 := Tryz.underlying4
 a4 := Tryz.isAgg4
 z4 := Tryz.sizeOf4
 v4 := Tryz.zeroValue4
 t28 := Tryz.underlying27
 a28 := Tryz.isAgg27
 z28 := Tryz.sizeOf27
 v28 := Tryz.zeroValue27 }
open Go.Lib in
theorem Tryz.slices_Contains_int (b off n c : Nat) (zs : List Int) (x : Int) (w : World) (hz : n ≤ zs.length) (hbig : n ≤ 9223372036854775807) (hc : ∀ j,j < zs.length → w.cell? ⟨b,off + j,none⟩ = some (.int .i64 (zs.getD j 0))) :
  Calls Tryz.prog 43 #[.slice (some ⟨b,off,none⟩) n c,.int .i64 x] w fun e w' => e = .returned (.bool ((zs.take n).contains x)) ∧ w' = w := Any.slices_Contains_int Tryz.lays107 b off n c zs x w hz hbig hc
open Go.Lib in
theorem Tryz.slices_Contains_int_empty (a : Option Addr) (c : Nat) (x : Int) (w : World) :
  Calls Tryz.prog 43 #[.slice a 0 c,.int .i64 x] w fun e w' => e = .returned (.bool false) ∧ w' = w := Any.slices_Contains_int_empty Tryz.lays107 a c x w
def Tryz.laysNm215_ren : Go.Shelf.Ren := ⟨fun | 15 => 25 | n => n,fun | 22 => 27 | 3 => 3 | 4 => 4 | n => n,fun | n => n⟩
theorem Tryz.laysNm215 : Go.Proofs.Lays2.n15 Tryz.prog Tryz.laysNm215_ren := {
 mixed := by kernel_rfl
 f15 := Tryz.func25.trans (congrArg some (by kernel_rfl))
 t3 := Tryz.underlying3
 a3 := Tryz.isAgg3
 z3 := Tryz.sizeOf3
 v3 := Tryz.zeroValue3
 t4 := Tryz.underlying4
 a4 := Tryz.isAgg4
 z4 := Tryz.sizeOf4
 v4 := Tryz.zeroValue4
 t22 := Tryz.underlying27
 a22 := Tryz.isAgg27
 z22 := Tryz.sizeOf27
 v22 := Tryz.zeroValue27
 i3 := by kernel_rfl }
open Go.RowKit Go.Lib in
theorem Tryz.slices_Clone_int (b off n c : Nat) (zs : List Int) (w : World) (hz : n ≤ zs.length) (hbig : n * 8 ≤ 140737488355328) (hc : ∀ j,j < zs.length → w.cell? ⟨b,off + j,none⟩ = some (.int .i64 (zs.getD j 0))) :
  Calls Tryz.prog 25 #[.slice (some ⟨b,off,none⟩) n c] w fun e w' => ∃ v',e = .returned v' ∧ w'.ownsRow w.heap.size 3 1 v' n ((zs.take n).map (Value.int .i64)) ∧ v' ≠ .slice none 0 0 ∧ Below w.heap.size w w' := Any.slices_Clone_int Tryz.laysNm215 b off n c zs w hz hbig hc
open Go.RowKit Go.Lib in
theorem Tryz.slices_Clone_int_nil (n c : Nat) (w : World) :
  Calls Tryz.prog 25 #[.slice none n c] w fun e w' => e = .returned (.slice none 0 0) ∧ w' = w := Any.slices_Clone_int_nil Tryz.laysNm215 n c w
open Go.RowKit Go.Lib in
theorem Tryz.slices_Clone_int_zero (a : Addr) (c : Nat) (w : World) :
  Calls Tryz.prog 25 #[.slice (some a) 0 c] w fun e w' => ∃ v',e = .returned v' ∧ w'.ownsRow w.heap.size 3 1 v' 0 [] ∧ v' ≠ .slice none 0 0 ∧ Below w.heap.size w w' := Any.slices_Clone_int_zero Tryz.laysNm215 a c w
open Go.RowKit Go.Sort in
theorem Tryz.slices_Sort_int_none (p : Option Addr) (cap : Nat) (w : World) :
  Calls Tryz.prog 76 #[.slice p 0 cap] w fun e w' => e = .returned (.tuple #[]) ∧ w' = w := Any.slices_Sort_int_none Tryz.lays189 p cap w
end Go.Proofs
end
section
open Go.RowKit
set_option linter.unusedVariables false
set_option linter.unusedSimpArgs false
namespace Go.Proofs.YtelgllgaofjgjaaGreat
theorem contains_any (v : Value) (l : List Int) (x : Int) (w : World) (h : Rd I64 w v l) :
  Calls Tryz.prog 43 #[v,.int .i64 x] w (Pure (.bool (l.contains x)) w) := by
 obtain ⟨ao,cap,rfl,h1,h2,h3⟩ := h
 by_cases h0 : l.length = 0
 ·have : l = [] := List.eq_nil_of_length_eq_zero h0
  subst this
  refine (Tryz.slices_Contains_int_empty ao cap x w).mono ?_
  rintro e w' ⟨rfl,rfl⟩
  exact ⟨rfl,rfl⟩
 ·obtain ⟨b,off,rfl,hb,hc⟩ := h3 (by omega)
  have hlen : l.length ≤ 9223372036854775807 := by unfold maxLen at h2;omega
  refine (Tryz.slices_Contains_int b off l.length cap l x w (Nat.le_refl _) hlen (fun j hj => ?_)).mono ?_
  ·have := hc j l[j] (List.getElem?_eq_getElem hj)
   rw [this];simp [hj]
  ·rintro e w' ⟨rfl,rfl⟩
   rw [List.take_length]
   exact ⟨rfl,rfl⟩
def CloneP (l : List Int) (w : World) (e : Ending) (w' : World) : Prop := ∃ v,e = .returned v ∧ Own I64 w' w.heap.size 3 v l ∧ Below w.heap.size w w'
theorem clone_any (v : Value) (l : List Int) (w : World) (h : Rd I64 w v l) (hl : l.length * 8 ≤ 140737488355328) :
  Calls Tryz.prog 25 #[v] w (CloneP l w) := by
 obtain ⟨ao,cap,rfl,h1,h2,h3⟩ := h
 cases ao with
 | none =>
  have h0 : l.length = 0 := by
   rcases Nat.eq_zero_or_pos l.length with h | h
   ·exact h
   ·obtain ⟨b,off,e,-⟩ := h3 h;cases e
  have : l = [] := List.eq_nil_of_length_eq_zero h0
  subst this
  refine (Tryz.slices_Clone_int_nil _ cap w).mono ?_
  rintro e w' ⟨rfl,rfl⟩
  exact ⟨_,rfl,Own.nil _ _ _,Below.refl _ _⟩
 | some a =>
  by_cases h0 : l.length = 0
  ·have : l = [] := List.eq_nil_of_length_eq_zero h0
   subst this
   refine (Tryz.slices_Clone_int_zero a cap w).mono ?_
   rintro e w' ⟨u,rfl,ho,-,hb⟩
   exact ⟨_,rfl,ho,hb⟩
  ·obtain ⟨b,off,e,hb,hc⟩ := h3 (by omega)
   injection e with e
   subst e
   refine (Tryz.slices_Clone_int b off l.length cap l w (Nat.le_refl _) hl (fun j hj => ?_)).mono ?_
   ·have := hc j l[j] (List.getElem?_eq_getElem hj)
    rw [this];simp [hj]
   ·rintro e w' ⟨u,rfl,ho,-,hb⟩
    rw [List.take_length] at ho
    exact ⟨_,rfl,ho,hb⟩
def SortP (v : Value) (l : List Int) (base : Nat) (w : World) (e : Ending) (w' : World) : Prop := e = .returned (.tuple #[]) ∧ Own I64 w' base 3 v (sortI l) ∧ w.grownBy w' v.ownBlock
theorem sort_own (v : Value) (l : List Int) (base : Nat) (w : World) (h : Own I64 w base 3 v l) (hl : l.length < 4611686018427387904) :
  Calls Tryz.prog 76 #[v] w (SortP v l base w) := by
 have h' := h
 rcases h.2 with ⟨rfl,h0⟩ | ⟨g,cap,cur,rfl,hb,hh,hnc,hcm,hsz,ht⟩
 ·have : l = [] := List.eq_nil_of_length_eq_zero h0
  subst this
  refine (Tryz.slices_Sort_int_none none 0 w).mono ?_
  rintro e w' ⟨rfl,rfl⟩
  exact ⟨rfl,by rw [sortI_nil];exact h',Gb.refl _ _⟩
 ·rw [Nat.mul_one] at ht
  have hH := holds_of_blockI (ss := l) hh ht
  refine (Tryz.slices_Sort_int g 0 cap l w hH (h'.lt g rfl).2 hl).mono ?_
  rintro e w' ⟨rfl,n,os,rfl⟩
  refine ⟨rfl,?_,grownBy_sortedI _⟩
  have := ownsRow_sortedI (w := w) (base := base) (n := n) (os := os) (ts := sortI l) (ss := l) (sortI_len l) hb hh hnc hcm (by omega)
  unfold Own
  rw [sortI_len]
  exact this
theorem contains_take {l : List Int} {i : Nat} {x : Int} (hi : i ≤ l.length) : (l.take i).contains x = true ↔ ∃ k,∃ h : k < i,l[k]'(by omega) = x := by
 rw [List.contains_iff_mem]
 constructor
 ·intro h
  obtain ⟨k,hk,e⟩ := List.getElem_of_mem h
  rw [List.length_take] at hk
  exact ⟨k,by omega,by rw [← e,List.getElem_take]⟩
 ·rintro ⟨k,hk,e⟩
  rw [← e]
  have : (l.take i)[k]'(by rw [List.length_take];omega) = l[k]'(by omega) := List.getElem_take
  rw [← this]
  exact List.getElem_mem _
set_option maxHeartbeats 1000000 in
theorem repeated13_any (v : Value) (l : List Int) (w : World) (h : Rd I64 w v l) :
  Calls Tryz.prog 59 #[v] w (Pure (.bool (dupB l)) w) := by
 obtain ⟨ao,cap,rfl,hle,hmax,hrd⟩ := Rd.form h
 have hmax2 : cap ≤ 9223372036854775807 := by unfold maxLen at hmax;omega
 go_enter Tryz.func59,Tryz.ntmps59
 go_wp2
 go_loopg [7] l.length (fun g t wr => ∃ (i : Nat),g = l.length - i ∧ i ≤ l.length ∧ t = .int .i64 i ∧ w = wr ∧ ∀ p (hp : p < l.length),p < i → ∀ q (hq : q < p),l[p] ≠ l[q])
 case atStart => exact ⟨0,rfl,Nat.zero_le _,rfl,rfl,fun p hp hpi => absurd hpi (Nat.not_lt_zero _)⟩
 case round =>
  obtain ⟨i,hg,hi',rfl,rfl,hall⟩ := hrel
  replace hg := hide hg
  replace hall := hide hall
  by_cases hlt : i < l.length
  ·have hlt2 := hide hlt
   have htk : Rd I64 w (.slice ao i cap) (l.take i) := hrd.take rfl (by omega) (by omega) hmax
   obtain ⟨b,off,rfl,hbb,hcell⟩ := hrd.at_ hlt
   have i1 : (0 : Int) ≤ (i : Int) := by omega
   have i2 : (i : Int) < (l.length : Int) := by omega
   have i3 : (i : Int) ≤ (cap : Int) := by omega
   obtain ⟨x,hx,c1⟩ : ∃ x,x = l[i] ∧ w.cell? ⟨b,off + i,none⟩ = some (.int .i64 x) := ⟨_,rfl,hcell _ hlt⟩
   clear hcell
   obtain ⟨r,hr⟩ : ∃ r,r = (l.take i).contains x := ⟨_,rfl⟩
   have hcon := hide (contains_any (.slice (some ⟨b,off,none⟩) i cap) (l.take i) x w htk)
   rw [← hr] at hcon
   cases r
   ·have hnext : ∀ p (hp : p < l.length),p < i + 1 → ∀ q (hq : q < p),l[p] ≠ l[q] := by
     intro p hp hpi q hq
     rcases Nat.lt_succ_iff_lt_or_eq.1 hpi with h | rfl
     ·exact hall.out p hp h q hq
     ·intro e
      have := contains_take (l := l) (i := p) (x := x) (by omega)
      rw [← hr] at this
      have h2 := this.2 ⟨q,hq,by rw [hx];exact e.symm⟩
      cases h2
    replace hnext := hide hnext
    replace hx := hide hx
    replace hr := hide hr
    go_wp2_with fail
    refine hcon.out.mono ?_
    rintro e w' ⟨rfl,rfl⟩
    go_wp2
    go_roundg (l.length - (i + 1))
    case measure => have := hg.out;have := hlt2.out;omega
    case rel => exact ⟨i + 1,rfl,by have := hlt2.out;omega,by go_num,rfl,hnext.out⟩
   ·obtain ⟨k,hk,e⟩ := (contains_take (l := l) (i := i) (x := x) (by omega)).1 hr.symm
    have hrr := hide (dupB_at hlt hk (by rw [e];exact hx.symm))
    clear e
    replace hx := hide hx
    replace hr := hide hr
    go_wp2_with fail
    refine hcon.out.mono ?_
    rintro e w' ⟨rfl,rfl⟩
    go_wp2
    go_ret
    rw [hrr.out]
    exact ⟨rfl,rfl⟩
  ·have hr := hide (dupB_none (l := l) (fun i hi k hk => hall.out i hi (by omega) k hk))
   go_wp2
   go_ret
   rw [hr.out]
   exact ⟨rfl,rfl⟩
set_option maxHeartbeats 4000000 in
set_option maxRecDepth 100000 in
theorem mlcheck_any (g : GameD) (av tv mv bv : Value) (ms : List AddonM) (a b : List Int) (w : World) (h : GameR w av tv ms g) (hl : LineR w mv bv a b) :
  Calls Tryz.prog 30 #[gameVal g av tv,lineVal mv bv] w (IntB (lineE g a b) w) := by
 have hc := hide (fun X (hX : GameR X av tv ms g) => gcheck_any g av tv ms X hX)
 have hh := hide h
 have hl' := hide hl
 obtain ⟨aa,ac,rfl,hal,ham⟩ := h.1.1.shape
 obtain ⟨ta,tc,rfl,htl,htm⟩ := h.2.2.shape
 obtain ⟨ma,mc,rfl,hma,hmc,-⟩ := hl.1.form
 obtain ⟨ba,bc,rfl,hba,hbc,-⟩ := hl.2.form
 clear h hl
 obtain ⟨r,hr⟩ : ∃ r,r = lineE g a b := ⟨_,rfl⟩
 rw [← hr]
 unfold lineE at hr
 obtain ⟨c,hcc⟩ : ∃ c,c = gameE g := ⟨_,rfl⟩
 obtain ⟨A,hA⟩ : ∃ A,A = allB a (lowG g) (highG g) := ⟨_,rfl⟩
 obtain ⟨B,hB⟩ : ∃ B,B = allB b 1 g.bonusOf := ⟨_,rfl⟩
 obtain ⟨D,hD⟩ : ∃ D,D = dupB a := ⟨_,rfl⟩
 obtain ⟨E,hE⟩ : ∃ E,E = dupB b := ⟨_,rfl⟩
 obtain ⟨p,hp⟩ : ∃ p,p = ((a.length : Int) != g.main) := ⟨_,rfl⟩
 obtain ⟨q,hq⟩ : ∃ q,q = ((b.length : Int) != g.bonus) := ⟨_,rfl⟩
 have cA := hide (fun X (hX : LineR X (.slice ma a.length mc) (.slice ba b.length bc) a b) => inside13_any _ a (lowG g) (highG g) X hX.1)
 have cB := hide (fun X (hX : LineR X (.slice ma a.length mc) (.slice ba b.length bc) a b) => inside13_any _ b 1 g.bonusOf X hX.2)
 have cD := hide (fun X (hX : LineR X (.slice ma a.length mc) (.slice ba b.length bc) a b) => repeated13_any _ a X hX.1)
 have cE := hide (fun X (hX : LineR X (.slice ma a.length mc) (.slice ba b.length bc) a b) => repeated13_any _ b X hX.2)
 rw [← hcc] at hc hr
 rw [← hA] at hr cA
 rw [← hB] at hr cB
 rw [← hD] at hr cD
 rw [← hE] at hr cE
 have hr2 : r = if c ≠ 0 then c else if p = true ∨ q = true then 3 else if A = false ∨ B = false then 2 else if (g.kind ≠ 2 ∧ D = true) ∨ E = true then 6 else 0 := by
  rw [hr,hp,hq];simp
 clear hr hA hB hD hE
 by_cases hc0 : c = 0
 ·have hf := mat_facts (game_mat (hcc.symm.trans hc0))
  rw [if_neg (by simpa using hc0)] at hr2
  subst hc0
  have hof1 : 0 ≤ g.of := by omega
  have hof2 : g.of ≤ 80 := by omega
  clear hf hcc
  replace hp := hp.symm
  replace hq := hq.symm
  by_cases hk : g.kind = 2
  all_goals
   first
    | (have hlo : lowG g = 0 := if_pos hk;have hhi : highG g = g.of - 1 := if_pos hk;have hkb : (g.kind == 2) = true := (by simpa using hk);have hkb2 : (g.kind != 2) = false := (by simpa using hk))
    | (have hlo : lowG g = 1 := if_neg hk;have hhi : highG g = g.of := if_neg hk;have hkb : (g.kind == 2) = false := (by simpa using hk);have hkb2 : (g.kind != 2) = true := (by simpa using hk))
   rw [hlo,hhi] at cA
   have hr3 : r = if p = true ∨ q = true then 3 else if A = false ∨ B = false then 2 else if ((g.kind != 2) = true ∧ D = true) ∨ E = true then 6 else 0 := by
    rw [hr2];simp
   rw [hkb2] at hr3
   replace hr3 := hide hr3
   replace hk := hide hk
   clear hlo hhi hr2
   unfold gameVal lineVal
   go_enter Tryz.func30,Tryz.ntmps30
   go_upto_region 1 with (fail)
   obtain ⟨W,hW⟩ : ∃ W,W = ((w.alloc (Obj.cells #[.string g.name,.int .i64 g.kind,.int .i64 g.price,.int .i64 g.main,.int .i64 g.of,.int .i64 g.bonus,.int .i64 g.bonusOf,.int .i64 g.extra,.int .i64 g.draws,.int .i64 g.system,.int .i64 g.days,.int .i64 g.at_,.int .i64 g.close,.int .i64 g.cancel,.int .i64 g.expiry,.int .i64 g.pool,.int .i64 g.reserve,.int .i64 g.round,.int .i64 g.cap,.int .i64 g.rolls,(.slice aa ms.length ac),(.slice ta g.tiers.length tc)] 25)).alloc (Obj.cells #[(.slice ma a.length mc),(.slice ba b.length bc)] 53)) := ⟨_,rfl⟩
   have bW : Below w.heap.size w W := by rw [hW];exact Bel.al (Bel.al (Below.refl _ _) _) _
   have r0 : GameAt W (w.heap.size) g ((.slice aa ms.length ac)) ((.slice ta g.tiers.length tc)) := by rw [hW];exact Row.alloc (Row.new _ _ _) _
   have r1 : LineAt W (w.heap.size + 1) ((.slice ma a.length mc)) ((.slice ba b.length bc)) := by rw [hW];exact Row.at2 _ _ _ _
   have sW : w.heap.size + 1 < W.heap.size := by rw [hW];simp
   rw [← hW]
   clear hW
   go_wp2_with (first | (refine wpList_load_row rfl 25 _ rfl _ rfl _ _ _ _ r0 Tryz.underlying25 rfl (by kernel_rfl) ?_) | fail)
   refine (hc.out _ (hh.out.below bW)).mono ?_
   rintro e w1 ⟨s,rfl,hb1⟩
   have B1 := Bel.to bW hb1
   have r0 := r0.keep hb1
   have r1 := r1.keep hb1
   have hl1 := hide (hl'.out.below B1)
   have d1 := r0.kind
   have d3 := r0.main
   have d4 := r0.of
   have d5 := r0.bonus
   have d6 := r0.bonusOf
   have l0 := r1.main
   have l1 := r1.bonus
   clear hb1
   go_wp2
   all_goals first
    | (go_ret;refine ⟨?_,B1⟩;rw [hr3.out];simp_all;done)
    | (go_quiet (fail);go_upto_region 10 with (fail);first | (go_quiet (fail);go_wp2_with (first | (go_at_call 58;first | ((with_reducible refine (cA.out _ ?_).mono ?_);(exact hl1.out);rintro e w' ⟨rfl,rfl⟩) | ((with_reducible refine (cB.out _ ?_).mono ?_);(exact hl1.out);rintro e w' ⟨rfl,rfl⟩)) | (go_at_call 59;first | ((with_reducible refine (cD.out _ ?_).mono ?_);(exact hl1.out);rintro e w' ⟨rfl,rfl⟩) | ((with_reducible refine (cE.out _ ?_).mono ?_);(exact hl1.out);rintro e w' ⟨rfl,rfl⟩)) | fail)) | go_wp2_with (first | (go_at_call 58;first | ((with_reducible refine (cA.out _ ?_).mono ?_);(exact hl1.out);rintro e w' ⟨rfl,rfl⟩) | ((with_reducible refine (cB.out _ ?_).mono ?_);(exact hl1.out);rintro e w' ⟨rfl,rfl⟩)) | (go_at_call 59;first | ((with_reducible refine (cD.out _ ?_).mono ?_);(exact hl1.out);rintro e w' ⟨rfl,rfl⟩) | ((with_reducible refine (cE.out _ ?_).mono ?_);(exact hl1.out);rintro e w' ⟨rfl,rfl⟩)) | fail))
   all_goals
    go_ret
    refine ⟨?_,by first | exact B1 | exact Bel.drN B1 _ | exact Bel.drN (Bel.drN B1 _) _⟩
    rw [hr3.out]
    simp_all
 ·rw [if_pos hc0] at hr2
  have hcb : (c != 0) = true := by simpa using hc0
  replace hr2 := hide hr2
  replace hc0 := hide hc0
  clear hp hq hcc
  unfold gameVal lineVal
  go_enter Tryz.func30,Tryz.ntmps30
  go_upto_region 1 with (fail)
  obtain ⟨W,hW⟩ : ∃ W,W = ((w.alloc (Obj.cells #[.string g.name,.int .i64 g.kind,.int .i64 g.price,.int .i64 g.main,.int .i64 g.of,.int .i64 g.bonus,.int .i64 g.bonusOf,.int .i64 g.extra,.int .i64 g.draws,.int .i64 g.system,.int .i64 g.days,.int .i64 g.at_,.int .i64 g.close,.int .i64 g.cancel,.int .i64 g.expiry,.int .i64 g.pool,.int .i64 g.reserve,.int .i64 g.round,.int .i64 g.cap,.int .i64 g.rolls,(.slice aa ms.length ac),(.slice ta g.tiers.length tc)] 25)).alloc (Obj.cells #[(.slice ma a.length mc),(.slice ba b.length bc)] 53)) := ⟨_,rfl⟩
  have bW : Below w.heap.size w W := by rw [hW];exact Bel.al (Bel.al (Below.refl _ _) _) _
  have r0 : GameAt W (w.heap.size) g ((.slice aa ms.length ac)) ((.slice ta g.tiers.length tc)) := by rw [hW];exact Row.alloc (Row.new _ _ _) _
  have r1 : LineAt W (w.heap.size + 1) ((.slice ma a.length mc)) ((.slice ba b.length bc)) := by rw [hW];exact Row.at2 _ _ _ _
  have sW : w.heap.size + 1 < W.heap.size := by rw [hW];simp
  rw [← hW]
  clear hW
  go_wp2_with (first | (refine wpList_load_row rfl 25 _ rfl _ rfl _ _ _ _ r0 Tryz.underlying25 rfl (by kernel_rfl) ?_) | fail)
  refine (hc.out _ (hh.out.below bW)).mono ?_
  rintro e w1 ⟨s,rfl,hb1⟩
  have B1 := Bel.to bW hb1
  clear hb1
  go_wp2
  go_ret
  rw [hr2.out]
  exact ⟨rfl,B1⟩
def ListF (l : List Int) (w : World) (e : Ending) (w' : World) : Prop := ∃ v,e = .returned v ∧ Rd I64 w' v l ∧ Fr w.heap.size v l ∧ Below w.heap.size w w'
def ListP (l : List Int) (w : World) (e : Ending) (w' : World) : Prop := ∃ v,e = .returned v ∧ Rd I64 w' v l ∧ Below w.heap.size w w'
theorem ListF.p {l : List Int} {w w' : World} {e : Ending} (h : ListF l w e w') : ListP l w e w' := by
 obtain ⟨v,h1,h2,-,h4⟩ := h
 exact ⟨v,h1,h2,h4⟩
theorem elemInts : Tryz.prog.underlying 27 = some (.slice (Tryz.prog.elem 27)) := by kernel_rfl
theorem sizeEI : ∀ w,(sizeOf (Tryz.prog.elem 27)).run Tryz.prog w = .ok 1 w := fun w => by kernel_rfl
theorem take_snoc3 {α : Type} (l : List α) (k : Nat) (h : k < l.length) : l.take (k + 1) = l.take k ++ [l[k]] := by rw [List.take_succ_eq_append_getElem h]
attribute [local go_sem ↓] Go.wp_at_zero Go.wp_at_succ
set_option maxHeartbeats 2000000 in
set_option maxRecDepth 100000 in
theorem canon1_any (v : Value) (l : List Int) (w : World) (h : Rd I64 w v l) (hl : l.length ≤ 1000) :
  Calls Tryz.prog 84 #[v] w (ListF (sortI l) w) := by
 go_enter Tryz.func84,Tryz.ntmps84
 obtain ⟨ao,n,cap,rfl⟩ := Rd.shape h
 go_wp2_with (with_reducible refine wpList_append_rd _ rfl _ _ 27 rfl (V := I64) (fun _ => rfl) w.heap.size 3 (.int .i64 0) 8 Tryz.underlying27 infoInt rfl _ [] rfl ?_ _ l rfl ?_ ?_ ?_ ?_ ?_)
 case refine_1 => exact Own.nil _ _ _
 case refine_2 => exact h
 case refine_3 => simp;omega
 case refine_4 => simp;omega
 case refine_5 => simp
 intro v2 w2 hown2 hg2 hv2
 have bw2 : Below w.heap.size w w2 := (Below.refl _ _).grown hg2 (by simp) (fun g hg => by simp [Value.ownBlock] at hg)
 obtain ⟨ao2,n2,cap2,rfl⟩ := Rd.shape hown2.rd
 have hs := hide (sort_own _ l w.heap.size w2 hown2 (by omega))
 clear hg2 hv2 h
 go_wp2_with fail
 refine hs.out.mono ?_
 rintro e w3 ⟨rfl,hown3,hg3⟩
 have bw3 : Below w.heap.size w w3 := bw2.grown hg3 bw2.size (fun g hg => (hown2.lt g hg).1)
 have hrd := hown3.rd
 have hfr := hide hown3.fr
 clear hown3 hown2 hg3
 go_wp2
 go_ret
 exact ⟨_,rfl,hrd,hfr.out,bw3⟩
def LineF (a b : List Int) (w : World) (e : Ending) (w' : World) : Prop := ∃ u v,e = .returned (lineVal u v) ∧ LineR w' u v a b ∧ Fr w.heap.size u a ∧ Fr w.heap.size v b ∧ Below w.heap.size w w'
def LineB (a b : List Int) (w : World) (e : Ending) (w' : World) : Prop := ∃ u v,e = .returned (lineVal u v) ∧ LineR w' u v a b ∧ Below w.heap.size w w'
theorem LineF.p {a b : List Int} {w w' : World} {e : Ending} (h : LineF a b w e w') : LineB a b w e w' := by
 obtain ⟨u,v,h1,h2,-,-,h3⟩ := h
 exact ⟨u,v,h1,h2,h3⟩
set_option maxHeartbeats 4000000 in
set_option maxRecDepth 100000 in
theorem mcanon_fr (mv bv : Value) (a b : List Int) (w : World) (h : LineR w mv bv a b) (ha : a.length ≤ 1000) (hb : b.length ≤ 1000) :
  Calls Tryz.prog 56 #[lineVal mv bv] w (LineF (sortI a) (sortI b) w) := by
 have hh := hide h
 obtain ⟨ma,mc,rfl,hma,hmc,-⟩ := h.1.form
 obtain ⟨ba,bc,rfl,hba,hbc,-⟩ := h.2.form
 clear h
 have cA := hide (fun X (hX : LineR X (.slice ma a.length mc) (.slice ba b.length bc) a b) => canon1_any _ a X hX.1 ha)
 have cB := hide (fun X (hX : LineR X (.slice ma a.length mc) (.slice ba b.length bc) a b) => canon1_any _ b X hX.2 hb)
 clear ha hb
 unfold lineVal
 go_enter Tryz.func56,Tryz.ntmps56
 go_upto_region 2 with (fail)
 obtain ⟨W,hW⟩ : ∃ W,W = ((w.alloc (Obj.cells #[(.slice ma a.length mc),(.slice ba b.length bc)] 53)).alloc (Obj.cells #[(.slice none 0 0),(.slice none 0 0)] 53)) := ⟨_,rfl⟩
 have bW : Below w.heap.size w W := by rw [hW];exact Bel.al (Bel.al (Below.refl _ _) _) _
 have r0 : LineAt W (w.heap.size) ((.slice ma a.length mc)) ((.slice ba b.length bc)) := by rw [hW];exact Row.alloc (Row.new _ _ _) _
 have r1 : LineAt W (w.heap.size + 1) ((.slice none 0 0)) ((.slice none 0 0)) := by rw [hW];exact Row.at2 _ _ _ _
 have sW : w.heap.size + 1 < W.heap.size := by rw [hW];simp
 rw [← hW]
 clear hW
 have c0 := r0.main
 have c1 := r0.bonus
 have hl0 := hide (fun X (hX : Below w.heap.size w X) => hh.out.below hX)
 have k0 := hide (fun X (hX : Below W.heap.size W X) => (r0.keep hX).main)
 have k1 := hide (fun X (hX : Below W.heap.size W X) => (r0.keep hX).bonus)
 have k2 := hide (fun X (hX : Below W.heap.size W X) => (r1.keep hX).main)
 have k3 := hide (fun X (hX : Below W.heap.size W X) => (r1.keep hX).bonus)
 have k4 := hide (fun X (hX : Below W.heap.size W X) => Row.frozen (r1.keep hX) 0)
 have k5 := hide (fun X (hX : Below W.heap.size W X) => Row.frozen (r1.keep hX) 1)
 have bd : Below W.heap.size W W.drew := Below.drew (Below.refl _ _)
 go_region_held3 (fun X => X.cell? ⟨w.heap.size,0,none⟩ = some (.slice ma a.length mc) ∧ X.cell? ⟨w.heap.size,1,none⟩ = some (.slice ba b.length bc)) (go_keep) (first
  | (go_at_call 84;(with_reducible refine (cA.out _ ?_).mono ?_);(first | exact hl0.out _ (Bel.to bW bB) | exact hl0.out _ (Bel.to bW bd));rintro e wa ⟨ua,rfl,hua,fua,hba⟩;obtain ⟨xa,na,ka,rfl⟩ := Rd.shape hua;have bA : Below W.heap.size W wa := (by first | exact Bel.to bB hba | exact Bel.to bd hba);have c0 := k0.out _ bA;have c1 := k1.out _ bA;have c2 := k2.out _ bA;have c3 := k3.out _ bA;have c4 := k4.out _ bA;have c5 := k5.out _ bA;(try have hub := hub.below hba);have fua := hide (Fr.mono fua (by first | exact (Bel.to bW bB).size | exact (Bel.to bW bd).size)))
  | (go_at_call 84;(with_reducible refine (cB.out _ ?_).mono ?_);(first | exact hl0.out _ (Bel.to bW bA) | exact hl0.out _ (Bel.to bW bd));rintro e wb ⟨ub,rfl,hub,fub,hbb⟩;obtain ⟨xb,nb,kb,rfl⟩ := Rd.shape hub;have bB : Below W.heap.size W wb := (by first | exact Bel.to bA hbb | exact Bel.to bd hbb);have c0 := k0.out _ bB;have c1 := k1.out _ bB;have c2 := k2.out _ bB;have c3 := k3.out _ bB;have c4 := k4.out _ bB;have c5 := k5.out _ bB;(try have hua := hua.below hbb);have fub := hide (Fr.mono fub (by first | exact (Bel.to bW bA).size | exact (Bel.to bW bd).size))))
 have hua2 := (hua.setNe c2 (fun _ h => by cases h) (.slice xa na ka)).setNe (p := ⟨w.heap.size + 1,1,none⟩) (c := .slice none 0 0) (by go_simp) (fun _ h => by cases h) (.slice xb nb kb)
 have hub2 := (hub.setNe c2 (fun _ h => by cases h) (.slice xa na ka)).setNe (p := ⟨w.heap.size + 1,1,none⟩) (c := .slice none 0 0) (by go_simp) (fun _ h => by cases h) (.slice xb nb kb)
 have bfin : Below w.heap.size w ((wb.setCell ⟨w.heap.size + 1,0,none⟩ (.slice xa na ka)).setCell ⟨w.heap.size + 1,1,none⟩ (.slice xb nb kb)) := Bel.st (Bel.st (Bel.to bW bB) (by simp) _) (by simp) _
 go_wp2
 exact bodyPost_ret (v := .agg #[.slice xa na ka,.slice xb nb kb]) (by simp [results,Tryz.results56,go_sem,c2,c3]) rfl ⟨_,_,rfl,⟨hua2,hub2⟩,fua.out,fub.out,bfin⟩
end Go.Proofs.YtelgllgaofjgjaaGreat
end
section
namespace Go.Proofs
open Go.Shelf
def Tryz.sortWin_ren : Go.Shelf.Ren := ⟨fun | 6 => 36 | 15 => 66 | 14 => 65 | 28 => 96 | 29 => 97 | 20 => 88 | 21 => 89 | 22 => 90 | 23 => 91 | 24 => 92 | 25 => 93 | 26 => 94 | 27 => 95 | 46 => 111 | 47 => 112 | 48 => 113 | 49 => 114 | 50 => 115 | 57 => 136 | n => n,fun | 22 => 35 | 24 => 67 | 25 => 98 | 3 => 3 | 39 => 132 | 0 => 0 | 53 => 166 | 55 => 150 | 4 => 4 | 46 => 159 | 45 => 158 | 50 => 163 | 5 => 5 | 9 => 9 | 66 => 181 | 70 => 185 | 76 => 202 | 77 => 203 | n => n,fun | n => n⟩
theorem Tryz.sortWin : Go.Proofs.SlLaysF0.n6 Tryz.prog Tryz.sortWin_ren := {
 mixed := by kernel_rfl
 f6 := ⟨Tryz.f36.name,by decide,Tryz.func36.trans (congrArg some (by kernel_rfl))⟩
 f14 := ⟨Tryz.f65.name,by decide,Tryz.func65.trans (congrArg some (by kernel_rfl))⟩
 f15 := Tryz.func66.trans (congrArg some (by kernel_rfl))
 f20 := ⟨Tryz.f88.name,by decide,Tryz.func88.trans (congrArg some (by kernel_rfl))⟩
 f21 := ⟨Tryz.f89.name,by decide,Tryz.func89.trans (congrArg some (by kernel_rfl))⟩
 f22 := ⟨Tryz.f90.name,by decide,Tryz.func90.trans (congrArg some (by kernel_rfl))⟩
 f23 := ⟨Tryz.f91.name,by decide,Tryz.func91.trans (congrArg some (by kernel_rfl))⟩
 f24 := ⟨Tryz.f92.name,by decide,Tryz.func92.trans (congrArg some (by kernel_rfl))⟩
 f25 := ⟨Tryz.f93.name,by decide,Tryz.func93.trans (congrArg some (by kernel_rfl))⟩
 f26 := ⟨Tryz.f94.name,by decide,Tryz.func94.trans (congrArg some (by kernel_rfl))⟩
 f27 := ⟨Tryz.f95.name,by decide,Tryz.func95.trans (congrArg some (by kernel_rfl))⟩
 f28 := Tryz.func96.trans (congrArg some (by kernel_rfl))
 f29 := Tryz.func97.trans (congrArg some (by kernel_rfl))
 f46 := ⟨Tryz.f111.name,by decide,Tryz.func111.trans (congrArg some (by kernel_rfl))⟩
 f47 := Tryz.func112.trans (congrArg some (by kernel_rfl))
 f48 := Tryz.func113.trans (congrArg some (by kernel_rfl))
 f49 := ⟨Tryz.f114.name,by decide,Tryz.func114.trans (congrArg some (by kernel_rfl))⟩
 f50 := ⟨Tryz.f115.name,by decide,Tryz.func115.trans (congrArg some (by kernel_rfl))⟩
 f57 := ⟨Tryz.f136.name,by decide,Tryz.func136.trans (congrArg some (by kernel_rfl))⟩
 t0 := Tryz.underlying0
 a0 := Tryz.isAgg0
 z0 := Tryz.sizeOf0
 v0 := Tryz.zeroValue0
 t3 := Tryz.underlying3
 a3 := Tryz.isAgg3
 z3 := Tryz.sizeOf3
 v3 := Tryz.zeroValue3
 t4 := Tryz.underlying4
 a4 := Tryz.isAgg4
 z4 := Tryz.sizeOf4
 v4 := Tryz.zeroValue4
 t5 := Tryz.underlying5
 a5 := Tryz.isAgg5
 z5 := Tryz.sizeOf5
 v5 := Tryz.zeroValue5
 t9 := Tryz.underlying9
 a9 := Tryz.isAgg9
 z9 := Tryz.sizeOf9
 v9 := Tryz.zeroValue9
 t22 := Tryz.underlying35
 a22 := Tryz.isAgg35
 z22 := Tryz.sizeOf35
 v22 := Tryz.zeroValue35
 t25 := Tryz.underlying98
 a25 := Tryz.isAgg98
 z25 := Tryz.sizeOf98
 v25 := Tryz.zeroValue98
 t39 := Tryz.underlying132
 a39 := Tryz.isAgg132
 z39 := Tryz.sizeOf132
 v39 := Tryz.zeroValue132
 t45 := Tryz.underlying158
 a45 := Tryz.isAgg158
 z45 := Tryz.sizeOf158
 v45 := Tryz.zeroValue158
 t46 := Tryz.underlying159
 a46 := Tryz.isAgg159
 z46 := Tryz.sizeOf159
 v46 := Tryz.zeroValue159
 t50 := Tryz.underlying163
 a50 := Tryz.isAgg163
 z50 := Tryz.sizeOf163
 v50 := Tryz.zeroValue163
 t53 := Tryz.underlying166
 a53 := Tryz.isAgg166
 z53 := Tryz.sizeOf166
 v53 := Tryz.zeroValue166
 t55 := Tryz.underlying150
 a55 := Tryz.isAgg150
 z55 := Tryz.sizeOf150
 v55 := Tryz.zeroValue150
 t66 := Tryz.underlying181
 a66 := Tryz.isAgg181
 z66 := Tryz.sizeOf181
 v66 := Tryz.zeroValue181
 t70 := Tryz.underlying185
 a70 := Tryz.isAgg185
 z70 := Tryz.sizeOf185
 v70 := Tryz.zeroValue185
 t76 := Tryz.underlying202
 a76 := Tryz.isAgg202
 z76 := Tryz.sizeOf202
 v76 := Tryz.zeroValue202
 t77 := Tryz.underlying203
 a77 := Tryz.isAgg203
 z77 := Tryz.sizeOf203
 v77 := Tryz.zeroValue203 }
def Tryz.idxTier_ren : Go.Shelf.Ren := ⟨fun | 6 => 62 | n => n,fun | 22 => 23 | 23 => 72 | 25 => 126 | 3 => 3 | 0 => 0 | 4 => 4 | n => n,fun | n => n⟩
theorem Tryz.idxTier : Go.Proofs.SlLaysH0.n6 Tryz.prog Tryz.idxTier_ren := {
 mixed := by kernel_rfl
 f6 := ⟨Tryz.f62.name,by decide,Tryz.func62.trans (congrArg some (by kernel_rfl))⟩
 t0 := Tryz.underlying0
 a0 := Tryz.isAgg0
 z0 := Tryz.sizeOf0
 v0 := Tryz.zeroValue0
 t3 := Tryz.underlying3
 a3 := Tryz.isAgg3
 z3 := Tryz.sizeOf3
 v3 := Tryz.zeroValue3
 t4 := Tryz.underlying4
 a4 := Tryz.isAgg4
 z4 := Tryz.sizeOf4
 v4 := Tryz.zeroValue4
 t22 := Tryz.underlying23
 a22 := Tryz.isAgg23
 z22 := Tryz.sizeOf23
 v22 := Tryz.zeroValue23
 t25 := Tryz.underlying126
 a25 := Tryz.isAgg126
 z25 := Tryz.sizeOf126
 v25 := Tryz.zeroValue126 }
end Go.Proofs
end

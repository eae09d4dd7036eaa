/- Lemmas, merged out of smaller texts (wip/tools/mergedce.py). No condition. -/
import Derived.Deep.Cut
import Derived.Deep.DeepCutAuto
import Derived.Outline
import Derived.Laws.Bits64
import Derived.Lib.SliceRun
import Derived.BigQuiet
import Derived.Deep.MidRow
import Derived.Test.YtmocomkobbiflaaGreatHLine
import Derived.Test.YtmocomkobbiflaaGreatHRef
import Derived.Test.YtmocomkobbiflaaGreatHCore
import Derived.Test.YtmocomkobbiflaaGreatHNat
import Derived.Test.YtmocomkobbiflaaGreatHRule
section
set_option linter.unusedVariables false
set_option linter.unusedSimpArgs false
namespace Go.Proofs.YtmocomkobbiflaaGreat
def L64 (x : Nat) : Prop := x < 18446744073709551616
theorem L64.lt {x : Nat} (h : L64 x) : x < 18446744073709551616 := h
abbrev LineD := List Int × List Int
end Go.Proofs.YtmocomkobbiflaaGreat
end
section
open Go.RowKit
set_option linter.unusedVariables false
set_option linter.unusedSimpArgs false
namespace Go.Proofs.YtmocomkobbiflaaGreat
def LnV (p : Value × Value) : List Value := [p.1,p.2]
def LinesR (w : World) (v : Value) (ls : List LineD) : Prop := ∃ vs : List (Value × Value),RdS 2 LnV w v vs ∧ vs.length = ls.length ∧ ∀ (i : Nat) p x,vs[i]? = some p → ls[i]? = some x → LineR w p.1 p.2 x.1 x.2
def Ap (u v : Value) (l : List Int) : Prop := l = [] ∨ u.ownBlock ≠ v.ownBlock
def OwnLn (w : World) (base : Nat) (v : Value) (ls : List LineD) : Prop := ∃ vs : List (Value × Value),w.ownsRow base 41 2 v vs.length (vs.flatMap LnV) ∧ vs.length = ls.length ∧
 ∀ (i : Nat) p x,vs[i]? = some p → ls[i]? = some x → LineR w p.1 p.2 x.1 x.2 ∧ Fr base p.1 x.1 ∧ Fr base p.2 x.2 ∧ Ap p.1 v x.1 ∧ Ap p.2 v x.2
theorem Rd.grownA {w w' : World} {u : Value} {l : List Int} {row : Option Nat} (h : Rd I64 w u l) (hg : w.grownBy w' row) (ha : l = [] ∨ u.ownBlock ≠ row) : Rd I64 w' u l := by
 rcases ha with rfl | ha
 ·obtain ⟨ao,cap,rfl,h1,h2,h3⟩ := h
  exact ⟨ao,cap,rfl,h1,h2,fun h => absurd h (by simp)⟩
 ·exact h.grown hg (.inl ha)
section
variable {w w' : World} {base : Nat} {v : Value} {ls : List LineD}
theorem LinesR.nil : LinesR w (.slice none 0 0) [] := ⟨[],⟨none,0,rfl,Nat.le_refl _,Nat.zero_le _,fun h => absurd h (by simp)⟩,rfl,fun i p x h => by simp at h⟩
theorem LinesR.below (h : LinesR w v ls) (hb : Below w.heap.size w w') : LinesR w' v ls := by
 obtain ⟨vs,h1,h2,h3⟩ := h
 exact ⟨vs,h1.below hb,h2,fun i p x hp hx => (h3 i p x hp hx).below hb⟩
theorem LinesR.shape (h : LinesR w v ls) : ∃ ao cap,v = .slice ao ls.length cap ∧ ls.length ≤ cap ∧ cap ≤ maxLen := by
 obtain ⟨vs,h1,h2,h3⟩ := h
 obtain ⟨ao,cap,e,a,b⟩ := h1.shape
 rw [h2] at e a
 exact ⟨ao,cap,e,a,b⟩
theorem LinesR.at_ {ao : Option Addr} {n cap i : Nat} (h : LinesR w (.slice ao n cap) ls) (hi : i < ls.length) :
  ∃ b off mv bv,ao = some ⟨b,off,none⟩ ∧ b < w.heap.size ∧ w.cell? ⟨b,off + i * 2,none⟩ = some mv ∧ w.cell? ⟨b,off + i * 2 + 1,none⟩ = some bv ∧ LineR w mv bv ls[i].1 ls[i].2 := by
 obtain ⟨vs,h1,h2,h3⟩ := h
 obtain ⟨b,off,e,hb,hc⟩ := h1.at_ (i := i) (by omega)
 have hv : vs[i]? = some (vs[i]'(by omega)) := List.getElem?_eq_getElem (by omega)
 exact ⟨b,off,_,_,e,hb,hc i _ hv 0 _ rfl,hc i _ hv 1 _ rfl,h3 i _ _ hv (List.getElem?_eq_getElem hi)⟩
theorem LinesR.take (h : LinesR w v ls) {ao : Option Addr} {cap n c : Nat} (hv : v = .slice ao ls.length cap) (hn : n ≤ ls.length) (hnc : n ≤ c) (hc : c ≤ maxLen) : LinesR w (.slice ao n c) (ls.take n) := by
 obtain ⟨vs,h1,h2,h3⟩ := h
 refine ⟨vs.take n,h1.take (by rw [h2];exact hv) (by omega) hnc hc,by simp [h2],fun i p x hp hx => ?_⟩
 rw [List.getElem?_take] at hp hx
 split at hp
 ·rename_i hin
  rw [if_pos hin] at hx
  exact h3 i p x hp hx
 ·cases hp
theorem OwnLn.nil (w : World) (base : Nat) : OwnLn w base (.slice none 0 0) [] := ⟨[],World.ownsRow_nil w base _ 2,rfl,fun i p x h => by simp at h⟩
theorem OwnLn.lt (h : OwnLn w base v ls) : ∀ k,v.ownBlock = some k → base ≤ k ∧ k < w.heap.size := by
 obtain ⟨vs,h1,-⟩ := h
 exact World.ownsRow.lt h1
theorem OwnLn.shape (h : OwnLn w base v ls) : ∃ ao cap,v = .slice ao ls.length cap := by
 obtain ⟨vs,h1,h2,-⟩ := h
 rcases h1.2 with ⟨rfl,h0⟩ | ⟨g,cap,cur,rfl,_⟩
 ·exact ⟨none,0,by rw [← h2,h0]⟩
 ·exact ⟨_,cap,by rw [h2]⟩
theorem OwnLn.grown {row : Option Nat} (h : OwnLn w base v ls) (hg : w.grownBy w' row) (hr : ∀ k,row = some k → k < base) : OwnLn w' base v ls := by
 obtain ⟨vs,h1,h2,h3⟩ := h
 have hlt := World.ownsRow.lt h1
 have hne : ∀ {u : Value} {l : List Int},Fr base u l → l = [] ∨ u.ownBlock ≠ row := by
  intro u l hf
  rcases hf with rfl | ⟨k,hk,hk2⟩
  ·exact .inl rfl
  ·refine .inr (fun e => ?_)
   rw [hk] at e
   have := hr k e.symm
   omega
 refine ⟨vs,World.ownsRow.kept h1 hg ?_,h2,fun i p x hp hx => ?_⟩
 ·cases hv : v.ownBlock with
  | none => exact .inl rfl
  | some k => exact .inr (fun e => by have := hr k e.symm;have := hlt k hv;omega)
 ·obtain ⟨⟨a1,a2⟩,b1,b2,c1,c2⟩ := h3 i p x hp hx
  exact ⟨⟨a1.grownA hg (hne b1),a2.grownA hg (hne b2)⟩,b1,b2,c1,c2⟩
theorem OwnLn.keep (h : OwnLn w base v ls) (hb : Below w.heap.size w w') : OwnLn w' base v ls :=
 h.grown (row := none) ⟨hb.os,hb.tape,hb.output,hb.size,fun k hk _ => hb.block k hk⟩ (fun k hk => by cases hk)
theorem flat_at (vs : List (Value × Value)) (i j : Nat) (p : Value × Value) (u : Value) (hp : vs[i]? = some p) (hu : (LnV p)[j]? = some u) : (vs.flatMap LnV)[i * 2 + j]? = some u := by
 induction vs generalizing i with
 | nil => simp at hp
 | cons q r ih =>
  have hj : j < 2 := by have := (List.getElem?_eq_some_iff.1 hu).1;simpa [LnV] using this
  rw [List.flatMap_cons]
  cases i with
  | zero =>
   simp at hp
   subst hp
   rw [Nat.zero_mul,Nat.zero_add,List.getElem?_append_left (by simp [LnV];omega)]
   exact hu
  | succ i =>
   rw [List.getElem?_append_right (by simp [LnV];omega)]
   have := ih i (by simpa using hp)
   rw [show (LnV q).length = 2 from rfl,show (i + 1) * 2 + j - 2 = i * 2 + j by omega]
   exact this
theorem OwnLn.rd (h : OwnLn w base v ls) : LinesR w v ls := by
 obtain ⟨vs,h1,h2,h3⟩ := h
 refine ⟨vs,?_,h2,fun i p x hp hx => (h3 i p x hp hx).1⟩
 have hlt := World.ownsRow.lt h1
 have h1' := h1
 rcases h1.2 with ⟨rfl,h0⟩ | ⟨g,cap,cur,rfl,hb,hh,hnc,hcm,hsz,ht⟩
 ·have : vs = [] := List.eq_nil_of_length_eq_zero h0
  subst this
  exact ⟨none,0,rfl,Nat.le_refl _,Nat.zero_le _,fun h => absurd h (by simp)⟩
 ·refine ⟨_,cap,rfl,hnc,hcm,fun hp => ⟨g,0,rfl,(hlt g rfl).2,fun i x hx j u hu => ?_⟩⟩
  have hj : j < 2 := by have := (List.getElem?_eq_some_iff.1 hu).1;simpa [LnV] using this
  have hi : i < vs.length := (List.getElem?_eq_some_iff.1 hx).1
  have hf := flat_at vs i j x u hx hu
  rw [Nat.zero_add,h1'.cellAt (i * 2 + j) (by omega)]
  exact hf
end
section
variable {P : Program} (w : World)
end
end Go.Proofs.YtmocomkobbiflaaGreat
end
section
set_option linter.unusedVariables false
set_option linter.unusedSimpArgs false
namespace Go.Proofs.YtmocomkobbiflaaGreat
def formG (g : GameD) (l : LineD) : LineD := if g.kind = 2 then l else (sortI l.1,sortI l.2)
structure BetD where
 lines : List LineD
 sys : Bool
 draws : Int
 addons : Int
theorem addonsGo_ok {seen l : List AddonD} (h : addonsGo seen l = 0) : ∀ a ∈ l,addonE a = 0 := by
 induction l generalizing seen with
 | nil => intro a ha;cases ha
 | cons x r ih =>
  rw [addonsGo] at h
  by_cases h1 : addonE x = 0
  ·rw [if_neg (by simpa using h1)] at h
   split at h
   ·exact absurd h (by simp)
   ·intro a ha
    rcases List.mem_cons.1 ha with rfl | ha
    ·exact h1
    ·exact ih h a ha
  ·rw [if_pos (by simpa using h1)] at h;exact absurd h h1
theorem game_addons {g : GameD} (h : gameE g = 0) : g.addons.length ≤ 4 ∧ ∀ a ∈ g.addons,addonE a = 0 := by
 unfold gameE at h
 repeat (split at h;· exact absurd h (by simp))
 split at h
 ·rename_i h1;exact absurd h h1
 ·rename_i h1
  have h2 : addonsE g.addons = 0 := by simpa using h1
  unfold addonsE at h2
  split at h2
  ·exact absurd h2 (by simp)
  ·exact ⟨by omega,addonsGo_ok h2⟩
end Go.Proofs.YtmocomkobbiflaaGreat
end
section
open Go.RowKit
set_option linter.unusedVariables false
set_option linter.unusedSimpArgs false
namespace Go.Proofs.YtmocomkobbiflaaGreat
set_option maxHeartbeats 2000000 in
set_option maxRecDepth 100000 in
theorem sclone15_any (v : Value) (l : List Int) (w : World) (h : Rd I64 w v l) (hl : l.length ≤ 1000) :
  Calls Tryz.prog 39 #[v] w (ListF l w) := by
 have q22 : ∀ (w : World) (a : Option Addr) (n c n' c' : Nat),(binOp .eql 27 (.slice a n c) (.slice none n' c')).run Tryz.prog w = .ok (.bool a.isNone) w := fun w a n c n' c' => Lib.run_eql_slice_nil w _ _ a n c n' c' Tryz.underlying27
 have hh := hide h
 obtain ⟨ao,cap,rfl,hle,hmax,hrd⟩ := Rd.form h
 have hns := hide hl
 have hz : ao = none → l = [] := by
  intro e
  rcases Nat.eq_zero_or_pos l.length with h0 | h0
  ·exact List.eq_nil_of_length_eq_zero h0
  ·obtain ⟨b,off,e2,-⟩ := hrd.at_ h0
   rw [e] at e2
   cases e2
 clear h hrd hl
 cases ao with
 | none =>
  have hnil := hz rfl
  subst hnil
  have hrd := hh.out
  rw [List.length_nil]
  rw [List.length_nil] at hrd
  clear hz hle hns
  go_enter Tryz.func39,Tryz.ntmps39
  go_wp2
  go_ret
  exact ⟨_,rfl,Rd.nil,.inl rfl,Below.refl _ _⟩
 | some ad =>
  clear hz
  go_enter Tryz.func39,Tryz.ntmps39
  go_wp2_with (with_reducible refine wpList_append_rd _ rfl _ _ 27 rfl (V := I64) (fun _ => rfl) w.heap.size 3 (.int .i64 0) 8 Tryz.underlying27 infoInt rfl _ [] rfl ?_ _ l rfl ?_ ?_ ?_ ?_ ?_)
  case refine_1 => exact Own.ofRow (m := 0) (z := .int .i64 0) (Row.new _ _ _) (Nat.le_refl _) (by omega)
  case refine_2 => exact hh.out.alloc _
  case refine_3 => have := hns.out;simp;omega
  case refine_4 => have := hns.out;simp;omega
  case refine_5 => simp
  intro v2 w2 hown2 hg2w hv2
  have bw2 : Below w.heap.size w w2 := (Bel.al (Below.refl _ _) _).grown hg2w (by simp) (fun g hg => by simp [Value.ownBlock] at hg;omega)
  have hrd : Rd I64 w2 v2 l := by have := hown2.rd;simpa using this
  have hfr : Fr w.heap.size v2 l := by have := hown2.fr;simpa using this
  obtain ⟨a2,n2,c2,rfl⟩ := Rd.shape hrd
  clear hg2w hv2 hown2 hh
  go_wp2
  go_ret
  exact ⟨_,rfl,hrd,hfr,bw2⟩
section
variable {α : Type} {V : α → Value} {w : World} {g : Nat} {t : TypeId} {P : List α} {rest : List Value}
end
theorem Own.row {α : Type} {V : α → Value} {w : World} {base e : Nat} {v : Value} {l : List α} (h : Own V w base e v l) (hl : 0 < l.length) : ∃ g cap rest,v = .slice (some ⟨g,0,none⟩) l.length cap ∧ base ≤ g ∧ Row w g e (l.map V ++ rest) ∧ l.length ≤ cap ∧ cap ≤ maxLen := by
 rcases h.2 with ⟨rfl,h0⟩ | ⟨g,cap,cur,rfl,hb,hh,hnc,hcm,hsz,ht⟩
 ·omega
 ·refine ⟨g,cap,cur.toList.drop (l.length * 1),rfl,hb,?_,hnc,hcm⟩
  rw [← ht,List.take_append_drop]
  exact hh
set_option maxHeartbeats 1000000 in
set_option maxRecDepth 100000 in
theorem sequal_any (va vb : Value) (la lb : List Int) (w : World) (ha : Rd I64 w va la) (hb : Rd I64 w vb lb) :
  Calls Tryz.prog 101 #[va,vb] w (BoolB (decide (la = lb)) w) := by
 obtain ⟨aa,ca,rfl,hla,hca,hra⟩ := Rd.form ha
 obtain ⟨ab,cb,rfl,hlb,hcb,hrb⟩ := Rd.form hb
 have hca' : ca ≤ 9223372036854775807 := by unfold maxLen at hca;omega
 have hcb' : cb ≤ 9223372036854775807 := by unfold maxLen at hcb;omega
 by_cases hl : la.length = lb.length
 ·have l3 : ((la.length : Int) != lb.length) = false := by simp;omega
  have l1 : la.length ≤ lb.length := by omega
  have l2 : lb.length ≤ la.length := by omega
  replace hl := hide hl
  go_enter Tryz.func101,Tryz.ntmps101
  go_wp2
  go_loopw [5,13] (fun _ i wr => ∃ (k d : Nat),k ≤ la.length ∧ i = .int .i64 k ∧ wr = w.drewN d ∧ Hid (la.take k = lb.take k)) (fun _ i _ => la.length - (intOf i).toNat)
  case atStart => exact ⟨0,0,Nat.zero_le _,rfl,rfl,rfl⟩
  case round =>
   obtain ⟨k,d,hk,rfl,rfl,htk⟩ := hrel
   by_cases hkl : k < la.length
   ·have hk2 : k < lb.length := by omega
    obtain ⟨ba,offa,rfl,hba,hcella⟩ := hra.at_ hkl
    obtain ⟨bb,offb,rfl,hbb,hcellb⟩ := hrb.at_ hk2
    have c1 := hcella _ hkl
    have c2 := hcellb _ hk2
    clear hcella hcellb
    have i1 : (0 : Int) ≤ (k : Int) := by omega
    have i2 : (k : Int) < (la.length : Int) := by omega
    have i3 : (k : Int) < (lb.length : Int) := by omega
    by_cases he : la[k] = lb[k]
    ·have hb1 : (la[k] != lb[k]) = false := by simpa using he
     replace he := hide he
     go_wp2
     go_quiet (fail)
     go_wp2
     go_roundw
     case rel =>
      refine ⟨k + 1,_,by omega,by go_num,rfl,?_⟩
      show _ = _
      rw [take_snoc3 la k hkl,take_snoc3 lb k hk2,he.out,htk.out]
     case measure => simp [intOf];omega
    ·have hb1 : (la[k] != lb[k]) = true := by simpa using he
     have hne : decide (la = lb) = false := by
      apply decide_eq_false
      intro h
      subst h
      exact he rfl
     replace hne := hide hne
     go_wp2
     go_quiet (fail)
     go_wp2
     go_ret
     exact ⟨by rw [hne.out];rfl,Bel.drN (Bel.drN (Below.refl _ _) _) _⟩
   ·have hkk : k = la.length := by omega
    have heq : decide (la = lb) = true := by
     apply decide_eq_true
     have := htk.out
     rw [List.take_of_length_le (by omega),List.take_of_length_le (by omega)] at this
     exact this
    replace heq := hide heq
    replace hkk := hide hkk
    go_wp2
    go_ret
    exact ⟨by rw [heq.out];rfl,Bel.drN (Below.refl _ _) _⟩
 ·have l3 : ((la.length : Int) != lb.length) = true := by simp;omega
  have hne : decide (la = lb) = false := by
   apply decide_eq_false
   intro h
   exact hl (by rw [h])
  rw [hne]
  clear hl hne
  go_enter Tryz.func101,Tryz.ntmps101
  go_wp2
  go_ret
  exact ⟨rfl,Below.refl _ _⟩
end Go.Proofs.YtmocomkobbiflaaGreat
end

/- Lemmas, merged out of smaller texts (wip/tools/mergedce.py). No condition. -/
import Derived.Laws.Bits64
import Derived.Lib.SliceRun
import Derived.BigQuiet
import Derived.RangeFuncNested
import Derived.RangeFuncBound
import Derived.RangeFuncCalls
import Derived.RangeFuncLeaves
import Derived.Shelf.Abstract
import Derived.Shelf.RegionOpen
import Derived.WalkKit
import Derived.OwnWalkIn
import Derived.TacticsInMore
import Derived.LoopNIn
import Derived.LoopIn
import Derived.Sort.LoopGhostIn
import Derived.Sort.CutIn
import Derived.Test.YtelgllgaofjgjaaGreatHLine
import Derived.Test.YtelgllgaofjgjaaGreatHCore
import Derived.Test.YtelgllgaofjgjaaGreatHNat
import Derived.Test.YtelgllgaofjgjaaGreatHSysA
section
set_option linter.unusedVariables false
set_option linter.unusedSimpArgs false
namespace Go.Proofs.YtelgllgaofjgjaaGreat
def L64 (x : Nat) : Prop := x < 18446744073709551616
theorem L64.lt {x : Nat} (h : L64 x) : x < 18446744073709551616 := h
abbrev LineD := List Int × List Int
end Go.Proofs.YtelgllgaofjgjaaGreat
end
section
open Go.RowKit
set_option linter.unusedVariables false
set_option linter.unusedSimpArgs false
namespace Go.Proofs.YtelgllgaofjgjaaGreat
def LnV (p : Value × Value) : List Value := [p.1,p.2]
def LinesR (w : World) (v : Value) (ls : List LineD) : Prop := ∃ vs : List (Value × Value),RdS 2 LnV w v vs ∧ vs.length = ls.length ∧ ∀ (i : Nat) p x,vs[i]? = some p → ls[i]? = some x → LineR w p.1 p.2 x.1 x.2
def Ap (u v : Value) (l : List Int) : Prop := l = [] ∨ u.ownBlock ≠ v.ownBlock
def OwnLn (w : World) (base : Nat) (v : Value) (ls : List LineD) : Prop := ∃ vs : List (Value × Value),w.ownsRow base 53 2 v vs.length (vs.flatMap LnV) ∧ vs.length = ls.length ∧
 ∀ (i : Nat) p x,vs[i]? = some p → ls[i]? = some x → LineR w p.1 p.2 x.1 x.2 ∧ Fr base p.1 x.1 ∧ Fr base p.2 x.2 ∧ Ap p.1 v x.1 ∧ Ap p.2 v x.2
theorem rd_lt {w : World} {u : Value} {l : List Int} (h : Rd I64 w u l) (hl : l ≠ []) : ∃ b,u.ownBlock = some b ∧ b < w.heap.size := by
 obtain ⟨ao,cap,rfl,h1,h2,h3⟩ := h
 obtain ⟨b,off,rfl,hb,-⟩ := h3 (List.length_pos_iff.2 hl)
 exact ⟨b,rfl,hb⟩
theorem Rd.grownA {w w' : World} {u : Value} {l : List Int} {row : Option Nat} (h : Rd I64 w u l) (hg : w.grownBy w' row) (ha : l = [] ∨ u.ownBlock ≠ row) : Rd I64 w' u l := by
 rcases ha with rfl | ha
 ·obtain ⟨ao,cap,rfl,h1,h2,h3⟩ := h
  exact ⟨ao,cap,rfl,h1,h2,fun h => absurd h (by simp)⟩
 ·exact h.grown hg (.inl ha)
section
variable {w w' : World} {base : Nat} {v : Value} {ls : List LineD}
theorem LinesR.nil : LinesR w (.slice none 0 0) [] := ⟨[],⟨none,0,rfl,Nat.le_refl _,Nat.zero_le _,fun h => absurd h (by simp)⟩,rfl,fun i p x h => by simp at h⟩
theorem LinesR.below (h : LinesR w v ls) (hb : Below w.heap.size w w') : LinesR w' v ls := by
 obtain ⟨vs,h1,h2,h3⟩ := h
 exact ⟨vs,h1.below hb,h2,fun i p x hp hx => (h3 i p x hp hx).below hb⟩
theorem LinesR.shape (h : LinesR w v ls) : ∃ ao cap,v = .slice ao ls.length cap ∧ ls.length ≤ cap ∧ cap ≤ maxLen := by
 obtain ⟨vs,h1,h2,h3⟩ := h
 obtain ⟨ao,cap,e,a,b⟩ := h1.shape
 rw [h2] at e a
 exact ⟨ao,cap,e,a,b⟩
theorem LinesR.at_ {ao : Option Addr} {n cap i : Nat} (h : LinesR w (.slice ao n cap) ls) (hi : i < ls.length) :
  ∃ b off mv bv,ao = some ⟨b,off,none⟩ ∧ b < w.heap.size ∧ w.cell? ⟨b,off + i * 2,none⟩ = some mv ∧ w.cell? ⟨b,off + i * 2 + 1,none⟩ = some bv ∧ LineR w mv bv ls[i].1 ls[i].2 := by
 obtain ⟨vs,h1,h2,h3⟩ := h
 obtain ⟨b,off,e,hb,hc⟩ := h1.at_ (i := i) (by omega)
 have hv : vs[i]? = some (vs[i]'(by omega)) := List.getElem?_eq_getElem (by omega)
 exact ⟨b,off,_,_,e,hb,hc i _ hv 0 _ rfl,hc i _ hv 1 _ rfl,h3 i _ _ hv (List.getElem?_eq_getElem hi)⟩
theorem LinesR.take (h : LinesR w v ls) {ao : Option Addr} {cap n c : Nat} (hv : v = .slice ao ls.length cap) (hn : n ≤ ls.length) (hnc : n ≤ c) (hc : c ≤ maxLen) : LinesR w (.slice ao n c) (ls.take n) := by
 obtain ⟨vs,h1,h2,h3⟩ := h
 refine ⟨vs.take n,h1.take (by rw [h2];exact hv) (by omega) hnc hc,by simp [h2],fun i p x hp hx => ?_⟩
 rw [List.getElem?_take] at hp hx
 split at hp
 ·rename_i hin
  rw [if_pos hin] at hx
  exact h3 i p x hp hx
 ·cases hp
theorem OwnLn.nil (w : World) (base : Nat) : OwnLn w base (.slice none 0 0) [] := ⟨[],World.ownsRow_nil w base _ 2,rfl,fun i p x h => by simp at h⟩
theorem OwnLn.lt (h : OwnLn w base v ls) : ∀ k,v.ownBlock = some k → base ≤ k ∧ k < w.heap.size := by
 obtain ⟨vs,h1,-⟩ := h
 exact World.ownsRow.lt h1
theorem OwnLn.shape (h : OwnLn w base v ls) : ∃ ao cap,v = .slice ao ls.length cap := by
 obtain ⟨vs,h1,h2,-⟩ := h
 rcases h1.2 with ⟨rfl,h0⟩ | ⟨g,cap,cur,rfl,_⟩
 ·exact ⟨none,0,by rw [← h2,h0]⟩
 ·exact ⟨_,cap,by rw [h2]⟩
theorem OwnLn.grown {row : Option Nat} (h : OwnLn w base v ls) (hg : w.grownBy w' row) (hr : ∀ k,row = some k → k < base) : OwnLn w' base v ls := by
 obtain ⟨vs,h1,h2,h3⟩ := h
 have hlt := World.ownsRow.lt h1
 have hne : ∀ {u : Value} {l : List Int},Fr base u l → l = [] ∨ u.ownBlock ≠ row := by
  intro u l hf
  rcases hf with rfl | ⟨k,hk,hk2⟩
  ·exact .inl rfl
  ·refine .inr (fun e => ?_)
   rw [hk] at e
   have := hr k e.symm
   omega
 refine ⟨vs,World.ownsRow.kept h1 hg ?_,h2,fun i p x hp hx => ?_⟩
 ·cases hv : v.ownBlock with
  | none => exact .inl rfl
  | some k => exact .inr (fun e => by have := hr k e.symm;have := hlt k hv;omega)
 ·obtain ⟨⟨a1,a2⟩,b1,b2,c1,c2⟩ := h3 i p x hp hx
  exact ⟨⟨a1.grownA hg (hne b1),a2.grownA hg (hne b2)⟩,b1,b2,c1,c2⟩
theorem OwnLn.keep (h : OwnLn w base v ls) (hb : Below w.heap.size w w') : OwnLn w' base v ls :=
 h.grown (row := none) ⟨hb.os,hb.tape,hb.output,hb.size,fun k hk _ => hb.block k hk⟩ (fun k hk => by cases hk)
theorem flat_at (vs : List (Value × Value)) (i j : Nat) (p : Value × Value) (u : Value) (hp : vs[i]? = some p) (hu : (LnV p)[j]? = some u) : (vs.flatMap LnV)[i * 2 + j]? = some u := by
 induction vs generalizing i with
 | nil => simp at hp
 | cons q r ih =>
  have hj : j < 2 := by have := (List.getElem?_eq_some_iff.1 hu).1;simpa [LnV] using this
  rw [List.flatMap_cons]
  cases i with
  | zero =>
   simp at hp
   subst hp
   rw [Nat.zero_mul,Nat.zero_add,List.getElem?_append_left (by simp [LnV];omega)]
   exact hu
  | succ i =>
   rw [List.getElem?_append_right (by simp [LnV];omega)]
   have := ih i (by simpa using hp)
   rw [show (LnV q).length = 2 from rfl,show (i + 1) * 2 + j - 2 = i * 2 + j by omega]
   exact this
theorem OwnLn.rd (h : OwnLn w base v ls) : LinesR w v ls := by
 obtain ⟨vs,h1,h2,h3⟩ := h
 refine ⟨vs,?_,h2,fun i p x hp hx => (h3 i p x hp hx).1⟩
 have hlt := World.ownsRow.lt h1
 have h1' := h1
 rcases h1.2 with ⟨rfl,h0⟩ | ⟨g,cap,cur,rfl,hb,hh,hnc,hcm,hsz,ht⟩
 ·have : vs = [] := List.eq_nil_of_length_eq_zero h0
  subst this
  exact ⟨none,0,rfl,Nat.le_refl _,Nat.zero_le _,fun h => absurd h (by simp)⟩
 ·refine ⟨_,cap,rfl,hnc,hcm,fun hp => ⟨g,0,rfl,(hlt g rfl).2,fun i x hx j u hu => ?_⟩⟩
  have hj : j < 2 := by have := (List.getElem?_eq_some_iff.1 hu).1;simpa [LnV] using this
  have hi : i < vs.length := (List.getElem?_eq_some_iff.1 hx).1
  have hf := flat_at vs i j x u hx hu
  rw [Nat.zero_add,h1'.cellAt (i * 2 + j) (by omega)]
  exact hf
end
theorem ap_of {w : World} {u v : Value} {l : List Int} {k : Nat} (h : Rd I64 w u l) (hk : v.ownBlock = some w.heap.size) : Ap u v l := by
 by_cases hl : l = []
 ·exact .inl hl
 ·obtain ⟨b,hb,hlt⟩ := rd_lt h hl
  exact .inr (by rw [hb,hk];intro e;injection e with e;omega)
section
variable {P : Program} (w : World)
theorem run_append_ln (base : Nat) (t ty : TypeId) (z : Value) (bytes : Nat) (ht : P.underlying t = some (.slice 53)) (hi : (P.info? 53).map (fun i => (i.zero,i.size,i.bytes)) = some (some z,2,bytes)) (hzs : z.cells.size = 2)
  (v : Value) (ls : List LineD) (hown : OwnLn w base v ls) (h : Nat) (c : Nat) (mv bv : Value) (a b : List Int) (hc0 : w.cell? ⟨h,0,none⟩ = some mv) (hc1 : w.cell? ⟨h,1,none⟩ = some bv)
  (hm1 : mv.oneCell' = true) (hb1 : bv.oneCell' = true)
  (hl : LineR w mv bv a b) (f1 : Fr base mv a) (f2 : Fr base bv b) (p1 : Ap mv v a) (p2 : Ap bv v b)
  (h63 : ls.length + 1 ≤ 9223372036854775807) (hbytes : (ls.length + 1) * bytes ≤ 140737488355328) (hbase : base ≤ w.heap.size) :
  ∃ v' w',(Builtin.append_ #[t,t] ty #[v,.slice (some ⟨h,0,none⟩) 1 c]).run P w = .ok v' w' ∧ OwnLn w' base v' (ls ++ [(a,b)]) ∧ w.grownBy w' v.ownBlock := by
 obtain ⟨i,hi,hz,hs,hby⟩ := info_parts hi
 obtain ⟨vs,h1,h2,h3⟩ := hown
 obtain ⟨v',w',e1,e2,e3,_,e5⟩ := run_append_own_at (P := P) w base t ty _ i z 2 bytes ht hi hz hs hby hzs (by omega) v vs.length (vs.flatMap LnV) h1 ⟨h,0,none⟩ 1 c [mv,bv] rfl
  (by
   intro j u hj
   match j,hj with
   | 0,hj => simp at hj;subst hj;simpa [Addr.add] using hc0
   | 1,hj => simp at hj;subst hj;simpa [Addr.add] using hc1)
  (by intro u hu;simp at hu;rcases hu with rfl | rfl <;> assumption)
  (by unfold maxLen;omega) (by rw [h2];exact hbytes) hbase
 have hap : ∀ {u : Value} {l : List Int},Rd I64 w u l → Ap u v l → Rd I64 w' u l ∧ Ap u v' l := by
  intro u l hr ha
  refine ⟨hr.grownA e3 ha,?_⟩
  rcases e5 with e5 | e5
  ·unfold Ap;rw [e5];exact ha
  ·exact ap_of (k := 0) hr e5
 refine ⟨v',w',e1,⟨vs ++ [(mv,bv)],?_,by simp [h2],fun i p x hp hx => ?_⟩,e3⟩
 ·rw [List.flatMap_append]
  simpa [LnV] using e2
 ·by_cases hiv : i < vs.length
  ·rw [List.getElem?_append_left hiv] at hp
   rw [List.getElem?_append_left (by omega)] at hx
   obtain ⟨⟨a1,a2⟩,b1,b2,c1,c2⟩ := h3 i p x hp hx
   obtain ⟨q1,q2⟩ := hap a1 c1
   obtain ⟨q3,q4⟩ := hap a2 c2
   exact ⟨⟨q1,q3⟩,b1,b2,q2,q4⟩
  ·rw [List.getElem?_append_right (by omega)] at hp hx
   have hi0 : i - vs.length = 0 := by
    have := (List.getElem?_eq_some_iff.1 hp).1
    simpa using this
   rw [hi0] at hp
   rw [show i - ls.length = 0 by omega] at hx
   simp at hp hx
   subst hp hx
   obtain ⟨q1,q2⟩ := hap hl.1 p1
   obtain ⟨q3,q4⟩ := hap hl.2 p2
   exact ⟨⟨q1,q3⟩,f1,f2,q2,q4⟩
theorem wpList_append_ln {ops : Array Oper} {rest : List Oper} {o : Oper} {A : Act} {Q : Exit → Act → World → Prop} (hgd : o.guard = none) (s x : Operand) (t : TypeId)
  (ho : o.op = .call { callee := .builtin .append,args := #[s,x],argTypes := #[t,t] })
  (base : Nat) (z : Value) (bytes : Nat) (ht : P.underlying t = some (.slice 53)) (hi : (P.info? 53).map (fun i => (i.zero,i.size,i.bytes)) = some (some z,2,bytes)) (hzs : z.cells.size = 2)
  (v : Value) (ls : List LineD) (hs : A.eval s = v) (hown : OwnLn w base v ls) (h : Nat) (c : Nat) (hx : A.eval x = .slice (some ⟨h,0,none⟩) 1 c) (mv bv : Value) (a b : List Int) (hc0 : w.cell? ⟨h,0,none⟩ = some mv) (hc1 : w.cell? ⟨h,1,none⟩ = some bv)
  (hm1 : mv.oneCell' = true) (hb1 : bv.oneCell' = true)
  (hl : LineR w mv bv a b) (f1 : Fr base mv a) (f2 : Fr base bv b) (p1 : Ap mv v a) (p2 : Ap bv v b)
  (h63 : ls.length + 1 ≤ 9223372036854775807) (hbytes : (ls.length + 1) * bytes ≤ 140737488355328) (hbase : base ≤ w.heap.size)
  (hK : ∀ v' w',OwnLn w' base v' (ls ++ [(a,b)]) → w.grownBy w' v.ownBlock → wpList P ops Q rest (A.put o.dst v') w') : wpList P ops Q (o :: rest) A w := by
 refine wpList_plain hgd fun K hK' => ?_
 obtain ⟨v',w',hr,h2,h3⟩ := run_append_ln (P := P) w base t o.type z bytes ht hi hzs v ls hown h c mv bv a b hc0 hc1 hm1 hb1 hl f1 f2 p1 p2 h63 hbytes hbase
 unfold Oper.wp execOp
 simp only [ho,resolve,invoke,builtin,Sem.run_bind,Sem.run_pure,Result.andThen_ok,List.map_toArray,List.map_cons,List.map_nil,hs,hx,hr]
 exact hK' _ _ (hK v' w' h2 h3)
end
end Go.Proofs.YtelgllgaofjgjaaGreat
end
section
set_option linter.unusedVariables false
set_option linter.unusedSimpArgs false
namespace Go.Proofs.YtelgllgaofjgjaaGreat
theorem next_mid {n k r : Nat} (hk : k ≤ n) (hr : r + 1 < choose n k) (hn : n ≤ 80) : nextV (unrankL n 1 r k) n = (unrankL n 1 (r + 1) k,true) := by
 obtain ⟨h1,h2⟩ := next_unrank hk (by omega : r < choose n k) hn
 obtain ⟨a,b,c⟩ := h2 hr
 have h3 := unrank_rankL (n := n) (last := 0) (by omega) a
 rw [b,c] at h3
 refine Prod.ext h3.symm ?_
 rw [h1]
 exact decide_eq_true hr
theorem next_end {n k r : Nat} (hk : k ≤ n) (hr : r < choose n k) (he : ¬ r + 1 < choose n k) (hn : n ≤ 80) : nextV (unrankL n 1 r k) n = ([],false) := by
 obtain ⟨h1,-⟩ := next_unrank hk hr hn
 have h2 : (nextV (unrankL n 1 r k) n).2 = false := by rw [h1];exact decide_eq_false he
 unfold nextV at h2 ⊢
 split
 ·rename_i hc
  rw [if_pos hc] at h2
  generalize nextI (unrankL n 1 r k) n (unrankL n 1 r k).length (unrankL n 1 r k).length = o at h2
  cases o with
  | none => rfl
  | some i => cases h2
 ·rfl
def pickL (S : List Int) (p : List Int) : List Int := p.map fun x => S.getD (x - 1).toNat 0
theorem pickL_len (S p : List Int) : (pickL S p).length = p.length := by unfold pickL;simp
def combS (S : List Int) (k r : Nat) : List Int := pickL S (unrankL S.length 1 r k)
theorem combS_len {S : List Int} {k r : Nat} (h : r < choose S.length k) : (combS S k r).length = k := by
 unfold combS;rw [pickL_len];exact unrankL_len h
theorem places_at {n k r : Nat} (h : r < choose n k) : ∀ x ∈ unrankL n 1 r k,1 ≤ x ∧ x ≤ n := by
 intro x hx
 have h2 := check_unrankL (n := n) (m := n) (w := 1) (r := r) (j := k) (by omega) (by omega) h 0 (by omega)
 have := (checkL_pair h2).2 x hx
 omega
def expL (S b : List Int) (k : Nat) : List LineD := (List.range (choose S.length k)).map fun r => (combS S k r,b)
theorem expL_len (S b : List Int) (k : Nat) : (expL S b k).length = choose S.length k := by unfold expL;simp
theorem expL_step (S b : List Int) (k r : Nat) : ((List.range (r + 1)).map fun r => (combS S k r,b)) = ((List.range r).map fun r => (combS S k r,b)) ++ [(combS S k r,b)] := by
 rw [List.range_succ,List.map_append];rfl
theorem unrankL_first (n k w : Nat) (h : k ≤ n) : unrankL n w 0 k = bump (w : Int) k := by
 induction k generalizing n w with
 | zero => rw [unrankL_zero];rfl
 | succ k ih =>
  obtain ⟨n,rfl⟩ := Nat.exists_eq_succ_of_ne_zero (show n ≠ 0 by omega)
  rw [unrankL_succ,if_pos (choose_pos (by omega)),ih n (w + 1) (by omega),bump_cons]
  rfl
end Go.Proofs.YtelgllgaofjgjaaGreat
end
section
open Go.RowKit
set_option linter.unusedVariables false
set_option linter.unusedSimpArgs false
namespace Go.Proofs.YtelgllgaofjgjaaGreat
set_option maxHeartbeats 2000000 in
set_option maxRecDepth 100000 in
theorem sclone15_any (v : Value) (l : List Int) (w : World) (h : Rd I64 w v l) (hl : l.length ≤ 1000) :
  Calls Tryz.prog 25 #[v] w (ListF l w) := by
 have q22 : ∀ (w : World) (a : Option Addr) (n c n' c' : Nat),(binOp .eql 27 (.slice a n c) (.slice none n' c')).run Tryz.prog w = .ok (.bool a.isNone) w := fun w a n c n' c' => Lib.run_eql_slice_nil w _ _ a n c n' c' Tryz.underlying27
 have hh := hide h
 obtain ⟨ao,cap,rfl,hle,hmax,hrd⟩ := Rd.form h
 have hns := hide hl
 have hz : ao = none → l = [] := by
  intro e
  rcases Nat.eq_zero_or_pos l.length with h0 | h0
  ·exact List.eq_nil_of_length_eq_zero h0
  ·obtain ⟨b,off,e2,-⟩ := hrd.at_ h0
   rw [e] at e2
   cases e2
 clear h hrd hl
 cases ao with
 | none =>
  have hnil := hz rfl
  subst hnil
  have hrd := hh.out
  rw [List.length_nil]
  rw [List.length_nil] at hrd
  clear hz hle hns
  go_enter Tryz.func25,Tryz.ntmps25
  go_wp2
  go_ret
  exact ⟨_,rfl,Rd.nil,.inl rfl,Below.refl _ _⟩
 | some ad =>
  clear hz
  go_enter Tryz.func25,Tryz.ntmps25
  go_wp2_with (with_reducible refine wpList_append_rd _ rfl _ _ 27 rfl (V := I64) (fun _ => rfl) w.heap.size 3 (.int .i64 0) 8 Tryz.underlying27 infoInt rfl _ [] rfl ?_ _ l rfl ?_ ?_ ?_ ?_ ?_)
  case refine_1 => exact Own.ofRow (m := 0) (z := .int .i64 0) (Row.new _ _ _) (Nat.le_refl _) (by omega)
  case refine_2 => exact hh.out.alloc _
  case refine_3 => have := hns.out;simp;omega
  case refine_4 => have := hns.out;simp;omega
  case refine_5 => simp
  intro v2 w2 hown2 hg2w hv2
  have bw2 : Below w.heap.size w w2 := (Bel.al (Below.refl _ _) _).grown hg2w (by simp) (fun g hg => by simp [Value.ownBlock] at hg;omega)
  have hrd : Rd I64 w2 v2 l := by have := hown2.rd;simpa using this
  have hfr : Fr w.heap.size v2 l := by have := hown2.fr;simpa using this
  obtain ⟨a2,n2,c2,rfl⟩ := Rd.shape hrd
  clear hg2w hv2 hown2 hh
  go_wp2
  go_ret
  exact ⟨_,rfl,hrd,hfr,bw2⟩
section
variable {α : Type} {V : α → Value} {w : World} {g : Nat} {t : TypeId} {P : List α} {rest : List Value}
end
theorem Own.row {α : Type} {V : α → Value} {w : World} {base e : Nat} {v : Value} {l : List α} (h : Own V w base e v l) (hl : 0 < l.length) : ∃ g cap rest,v = .slice (some ⟨g,0,none⟩) l.length cap ∧ base ≤ g ∧ Row w g e (l.map V ++ rest) ∧ l.length ≤ cap ∧ cap ≤ maxLen := by
 rcases h.2 with ⟨rfl,h0⟩ | ⟨g,cap,cur,rfl,hb,hh,hnc,hcm,hsz,ht⟩
 ·omega
 ·refine ⟨g,cap,cur.toList.drop (l.length * 1),rfl,hb,?_,hnc,hcm⟩
  rw [← ht,List.take_append_drop]
  exact hh
section
variable {F : Fence} {n : Nat} {P : Program} (w : World) {ops : Array Oper} {rest : List Oper} {o : Oper} {a : Act} {Q : Exit → Act → World → Prop}
theorem wpListIn_make_row
  (hg : o.guard = none) (l c : Operand) (t : TypeId) (hop : o.op = Op.makeSlice t l c)
  (e : TypeId) (z : Value) (bytes : Nat) (h1 : P.underlying t = some (.slice e)) (h2 : (P.info? e).map (fun i => (i.zero,i.size,i.bytes)) = some (some z,1,bytes)) (hzc : z.cells = #[z])
  (kl kc : IntKind) (L C : Int) (k m : Nat) (hl : a.eval l = .int kl L) (hc : a.eval c = .int kc C) (hL : L = (k : Int)) (hC : C = (m : Int)) (hnm : k ≤ m) (b2 : bytes * m ≤ 281474976710656) (b3 : m ≤ 9223372036854775807)
  (hK : ∀ w',Row w' w.heap.size e (List.replicate m z) → Below w.heap.size w w' → w'.heap.size = w.heap.size + 1 → wpListIn F n P ops Q rest (a.put o.dst (.slice (some ⟨w.heap.size,0,none⟩) k m)) w') :
  wpListIn F n P ops Q (o :: rest) a w := by
 obtain ⟨i,hi,hz,hs,hb⟩ := info_parts h2
 refine wpListIn_plain hg fun K hK' => ?_
 subst hL hC
 have hrun := run_make (P := P) w t e i z h1 hi hz kl kc k m (by omega) (by omega) (by rw [hb];omega) (by omega)
 simp only [Int.toNat_natCast,hs,Nat.mul_one,hzc] at hrun
 unfold Oper.wpIn
 refine ⟨by simp [Oper.about,hop],?_⟩
 rw [Oper.semAt_plain F _ _ (by rw [hop];intro c hc';cases hc')]
 simp [execOp,hop,hl,hc,hrun,Result.andThen]
 exact hK' _ _ (hK _ (Row.newOf e (toList_madeCells_one z m)) (Bel.al (Below.refl _ _) _) (by simp))
end
theorem wpListIn_load_row {F : Fence} {n : Nat} {P : Program} {ops : Array Oper} {rest : List Oper} {o : Oper} {a : Act} {w : World} {Q : Exit → Act → World → Prop} (hgd : o.guard = none) (ty : TypeId) (x : Operand) (ho : o.op = .load ty x)
  (g : Nat) (hx : a.eval x = .pointer (some ⟨g,0,none⟩)) (t : TypeId) (cs : Array Value) (fr : Nat × Nat) (d : TypeDesc) (hg : w.heap[g]? = some (.cells cs t fr))
  (hu : P.underlying ty = some d) (hd : (match d with | .struct _ | .array _ _ => true | _ => false) = true) (hi : (P.info? ty).map (·.size) = some cs.size)
  (h : wpListIn F n P ops Q rest (a.put o.dst (.agg cs)) w) : wpListIn F n P ops Q (o :: rest) a w := by
 refine wpListIn_plain hgd fun K hK => ?_
 unfold Oper.wpIn
 refine ⟨by simp [Oper.about,ho],?_⟩
 rw [Oper.semAt_plain F _ _ (by rw [ho];intro c hc';cases hc')]
 unfold execOp
 simp only [ho,hx,Instr.loadAt,Instr.sureAddr,Sem.run_bind,Sem.run_pure,Result.andThen_ok,run_loadVar_row w g t ty cs fr d hg hu hd hi]
 exact hK _ _ h
structure Kp15 (B : Nat) (Sf : Nat → Prop) (W W' : World) : Prop where
 size : W.heap.size ≤ W'.heap.size
 blk : ∀ b,b < W.heap.size → (Sf b ∨ B ≤ b) → W'.heap[b]? = W.heap[b]?
theorem Kp15.refl (B : Nat) (Sf : Nat → Prop) (W : World) : Kp15 B Sf W W := ⟨Nat.le_refl _,fun _ _ _ => rfl⟩
theorem Kp15.trans {B : Nat} {Sf : Nat → Prop} {W X Y : World} (h : Kp15 B Sf W X) (k : Kp15 B Sf X Y) : Kp15 B Sf W Y :=
 ⟨Nat.le_trans h.size k.size,fun b hb hs => (k.blk b (Nat.lt_of_lt_of_le hb h.size) hs).trans (h.blk b hb hs)⟩
theorem Kp15.grown {B : Nat} {Sf : Nat → Prop} {W X : World} {row : Option Nat} (h : W.grownBy X row) (hr : ∀ k,row = some k → ¬ Sf k ∧ k < B) : Kp15 B Sf W X :=
 ⟨h.size,fun b hb hs => h.block b hb (by intro e;obtain ⟨h1,h2⟩ := hr b e.symm;rcases hs with hs | hs;exact h1 hs;omega)⟩
theorem Kp15.below {B : Nat} {Sf : Nat → Prop} {W X : World} (h : Below W.heap.size W X) : Kp15 B Sf W X := ⟨h.size,fun b hb _ => h.block b hb⟩
theorem Kp15.put {B l : Nat} {Sf : Nat → Prop} {W : World} (o : Obj) (h1 : ¬ Sf l) (h2 : l < B) : Kp15 B Sf W (W.putObj l o) :=
 ⟨by simp,fun b hb hs => World.putObj_heap_other (by intro e;subst e;rcases hs with hs | hs;exact h1 hs;omega)⟩
theorem Kp15.cell {B : Nat} {Sf : Nat → Prop} {W X : World} (h : Kp15 B Sf W X) {p : Addr} {v : Value} (hp : Sf p.block ∨ B ≤ p.block) (hc : W.cell? p = some v) : X.cell? p = some v := by
 have hb := h.blk p.block (World.block_lt_of_cell? W p hc) hp
 rw [← hc]
 unfold World.cell?
 rw [hb]
theorem Kp15.rd {B : Nat} {Sf : Nat → Prop} {W X : World} (h : Kp15 B Sf W X) {α : Type} {V : α → Value} {v : Value} {l : List α} (hr : Rd V W v l) (hs : ∀ b,v.ownBlock = some b → Sf b ∨ B ≤ b) : Rd V X v l :=
 hr.keep h.size (fun p hp ho => by
  have hb := h.blk p.block hp (hs _ ho)
  unfold World.cell?
  rw [hb])
attribute [local go_sem] Oper.semAt_some
def LaidP (P : List Int) (k i : Nat) : Prop := P.length = k ∧ ∀ t,t < i → P.getD t 0 = (t : Int) + 1
theorem laidP_set {P : List Int} {k i : Nat} (h : LaidP P k i) (hi : i < k) : LaidP (P.set i ((i : Int) + 1)) k (i + 1) := by
 obtain ⟨h1,h2⟩ := h
 refine ⟨by rw [List.length_set];exact h1,fun t ht => ?_⟩
 rw [List.getD_eq_getElem?_getD,List.getElem?_set]
 by_cases e : i = t
 ·subst e
  rw [if_pos rfl,if_pos (by omega)]
  rfl
 ·rw [if_neg e,← List.getD_eq_getElem?_getD]
  exact h2 t (by omega)
theorem laidP_all {P : List Int} {k : Nat} (h : LaidP P k k) : P = bump 1 k := by
 obtain ⟨h1,h2⟩ := h
 apply List.ext_getElem
 ·rw [h1,length_bump]
 ·intro i hi1 hi2
  have := h2 i (by omega)
  rw [List.getD_eq_getElem?_getD,List.getElem?_eq_getElem hi1] at this
  rw [getElem_bump]
  have h3 : P[i] = (i : Int) + 1 := this
  omega
def LaidQ (Q L : List Int) (i : Nat) : Prop := Q.length = L.length ∧ ∀ t,t < i → Q.getD t 0 = L.getD t 0
theorem laidQ_set {Q L : List Int} {i : Nat} (h : LaidQ Q L i) (hi : i < L.length) : LaidQ (Q.set i (L.getD i 0)) L (i + 1) := by
 obtain ⟨h1,h2⟩ := h
 refine ⟨by rw [List.length_set];exact h1,fun t ht => ?_⟩
 rw [List.getD_eq_getElem?_getD,List.getElem?_set]
 by_cases e : i = t
 ·subst e
  rw [if_pos rfl,if_pos (by omega)]
  rfl
 ·rw [if_neg e,← List.getD_eq_getElem?_getD]
  exact h2 t (by omega)
theorem laidQ_all {Q L : List Int} (h : LaidQ Q L L.length) : Q = L := by
 obtain ⟨h1,h2⟩ := h
 apply List.ext_getElem h1
 intro i hi1 hi2
 have := h2 i hi2
 rw [List.getD_eq_getElem?_getD,List.getD_eq_getElem?_getD,List.getElem?_eq_getElem hi1,List.getElem?_eq_getElem hi2] at this
 exact this
theorem combS_at {S : List Int} {k r i q : Nat} (hi : i < (unrankL S.length 1 r k).length) (hq : (unrankL S.length 1 r k)[i] = (q : Int) + 1) : (combS S k r).getD i 0 = S.getD q 0 := by
 unfold combS pickL
 rw [List.getD_eq_getElem?_getD,List.getElem?_map,List.getElem?_eq_getElem hi,hq]
 show S.getD ((q : Int) + 1 - 1).toNat 0 = _
 rw [show ((q : Int) + 1 - 1).toNat = q by omega]
theorem zeros_I64 (k : Nat) : List.replicate k (Value.int .i64 0) = (List.replicate k (0 : Int)).map I64 := by rw [List.map_replicate]
theorem next_midC {n k r : Nat} (v : Value) (w : World) (h : Rd I64 w v (unrankL n 1 r k)) (hk : k ≤ n) (hr : r + 1 < choose n k) (hn : n ≤ 80) :
  Calls Tryz.prog 86 #[v,.int .i64 (n : Int)] w (ListBF (unrankL n 1 (r + 1) k) true w) := by
 have := nextF_any v (unrankL n 1 r k) n w h
 rw [next_mid hk hr hn] at this
 exact this
theorem next_endC {n k r : Nat} (v : Value) (w : World) (h : Rd I64 w v (unrankL n 1 r k)) (hk : k ≤ n) (hr : r < choose n k) (he : ¬ r + 1 < choose n k) (hn : n ≤ 80) :
  Calls Tryz.prog 86 #[v,.int .i64 (n : Int)] w (ListBF [] false w) := by
 have := nextF_any v (unrankL n 1 r k) n w h
 rw [next_end hk hr he hn] at this
 exact this
set_option maxHeartbeats 1000000 in
theorem choices_in (a : Option Addr) (n c : Nat) (k : Int) (w : World) :
  Calls Tryz.prog 57 #[.slice a n c,.int .i64 k] w fun e w' => e = .returned (.func (.func 85) #[] #[.pointer (some ⟨w.heap.size + 1,0,none⟩),.pointer (some ⟨w.heap.size,0,none⟩)]) ∧
   w' = (w.alloc (.cells #[.slice a n c] 27)).alloc (.cells #[.int .i64 k] 3) := by
 go_enter Tryz.func57,Tryz.ntmps57
 go_wp2
 go_ret
 exact ⟨rfl,rfl⟩
set_option maxRecDepth 100000 in
set_option maxHeartbeats 4000000 in
theorem choices1_in (n : Nat) (hn : 4 ≤ n) (l Bk Bm k : Nat) (S : List Int) (sv : Value) (hk : 1 ≤ k) (hk2 : k ≤ 10) (hkS : k ≤ S.length) (hS : S.length ≤ 80) (Sf : Nat → Prop) (J : Nat → World → Prop)
  (hJb : ∀ r X Y,J r X → Below X.heap.size X Y → J r Y)
  (hY : ∀ (r : Nat) (v : Value) (W0 W : World),r < choose S.length k → J r W0 → Below W0.heap.size W0 W → Rd I64 W v (combS S k r) → (∃ a c,v = .slice (some ⟨a,0,none⟩) k c ∧ W0.heap.size ≤ a) →
   YieldAt Fence.wide (n - 1) Tryz.prog l #[v] W fun e W' => e = .returned (.bool true) ∧ J (r + 1) W' ∧ Kp15 W0.heap.size Sf W W')
  (W : World) (h0 : J 0 W) (fk : Sf Bk) (fm : Sf Bm) (fs : ∀ b,sv.ownBlock = some b → Sf b)
  (hBk : W.cell? ⟨Bk,0,none⟩ = some (.int .i64 (k : Int))) (hBm : W.cell? ⟨Bm,0,none⟩ = some sv) (hsv : Rd I64 W sv S) :
  CallsIn Fence.wide n Tryz.prog 85 #[.func (.yield l) #[] #[],.pointer (some ⟨Bk,0,none⟩),.pointer (some ⟨Bm,0,none⟩)] W fun e W' => (∃ v,e = .returned v) ∧ J (choose S.length k) W' := by
 have n1 : 1 ≤ n - 1 := by omega
 obtain ⟨C,hC⟩ : ∃ C,C = choose S.length k := ⟨_,rfl⟩
 have hCp := choose_pos hkS
 have hC2 := hide hC.symm
 rw [← hC] at hY hCp ⊢
 obtain ⟨sa,sc,rfl,hs1,hs2,-⟩ := Rd.form hsv
 have hS2 := hide hS
 have hkS2 := hide hkS
 have hYh := hide hY
 have hsvh := hide hsv
 have fsh := hide fs
 have k0 : (0 : Int) ≤ (k : Int) := by omega
 clear hY hsv fs hC
 refine callsIn_of_wp Tryz.func85 rfl trivial ?_ rfl
 simp only [Tryz.ntmps85,List.size_toArray,List.length_cons,List.length_nil,Nat.reduceAdd,Nat.reduceSub,Array.replicate_succ,Array.replicate_zero,List.push_toArray,List.append_toArray,List.nil_append,List.cons_append]
 gi_wp2_with (with_reducible refine wpListIn_make_row _ rfl _ _ 27 rfl 3 (.int .i64 0) 8 Tryz.underlying27 infoInt rfl .i64 .i64 _ _ k k rfl rfl rfl rfl (Nat.le_refl _) (by omega) (by omega) ?_;intro w2 hrow hb2 hz2)
 rw [zeros_I64] at hrow
 gi_loopg [14] k (fun gh t wr => ∃ (i : Nat) (P : List Int),gh = k - i ∧ i ≤ k ∧ t = .int .i64 (i : Int) ∧ Row wr W.heap.size 3 (P.map I64) ∧ Hid (LaidP P k i) ∧ Below W.heap.size W wr)
 case atStart => exact ⟨0,_,rfl,Nat.zero_le _,rfl,hrow,⟨by simp,fun t ht => by omega⟩,hb2⟩
 case round =>
  obtain ⟨i,P,hgh,hi,rfl,hP,hLaid,hB⟩ := hrel
  replace hgh := hide hgh
  by_cases hlt : i < k
  ·have hlt2 := hide hlt
   have hiP : i < P.length := by rw [hLaid.out.1];exact hlt
   have c1 := hP.cellV hiP
   have c2 := hP.frozen i
   have i1 : (0 : Int) ≤ (i : Int) := by omega
   have i2 : (i : Int) < (k : Int) := by omega
   have hP2 := hP.setV (V := I64) i ((i : Int) + 1)
   have hL2 := hide (laidP_set hLaid.out hlt)
   have hB2 := Bel.st hB (p := ⟨W.heap.size,i,none⟩) (Nat.le_refl _) (I64 ((i : Int) + 1))
   gi_wp2
   gi_roundg (k - (i + 1))
   case measure => have := hgh.out;have := hlt2.out;omega
   case rel => exact ⟨i + 1,_,rfl,by have := hlt2.out;omega,by go_num,hP2,hL2,hB2⟩
  ·have hik : i = k := by omega
   subst hik
   have hPb := laidP_all hLaid.out
   subst hPb
   have hrd0 : Rd I64 wr (.slice (some ⟨W.heap.size,0,none⟩) i i) (bump 1 i) := hP.rdAll (length_bump 1 i).symm (Nat.le_refl _) (by omega)
   have hun : unrankL S.length 1 0 i = bump 1 i := by have := unrankL_first S.length i 1 hkS2.out;exact this
   rw [← hun] at hrd0
   have d1 : wr.cell? ⟨Bk,0,none⟩ = some (.int .i64 (i : Int)) := Bel.cellOf hB hBk
   have d2 : wr.cell? ⟨Bm,0,none⟩ = some (.slice sa S.length sc) := Bel.cellOf hB hBm
   have hsv1 := hsvh.out.below hB
   clear hun hP hLaid hgh hlt hrow hb2
   gi_wp2
   have hst : ∀ b,(Value.slice (some ⟨W.heap.size,0,none⟩) i i).ownBlock = some b → W.heap.size ≤ b := by
    intro b hb
    have h9 : W.heap.size = b := by simpa [Value.ownBlock] using hb
    omega
   gi_loopg [4,6] C (fun gh p m wr => ∃ (r : Nat) (W0 : World) (pa : Option Addr) (pn pc : Nat) (b : Bool),gh = C - r ∧ r ≤ C ∧ p = .slice pa pn pc ∧ m = .bool b ∧ Hid (b = decide (r < C)) ∧ Hid (r < C → Rd I64 wr (.slice pa pn pc) (unrankL S.length 1 r i) ∧ ∀ b,(Value.slice pa pn pc).ownBlock = some b → W0.heap.size ≤ b) ∧ Hid (J r W0) ∧ Below W0.heap.size W0 wr ∧
    wr.cell? ⟨Bk,0,none⟩ = some (.int .i64 (i : Int)) ∧ wr.cell? ⟨Bm,0,none⟩ = some (.slice sa S.length sc) ∧ Rd I64 wr (.slice sa S.length sc) S)
   case atStart => exact ⟨0,W,_,_,_,true,rfl,Nat.zero_le _,rfl,rfl,(decide_eq_true hCp).symm,fun _ => ⟨hrd0,hst⟩,h0,hB,d1,d2,hsv1⟩
   case round =>
    clear hB d1 d2 hsv1 hrd0
    obtain ⟨r,W0,pa,pn,pc,b,hgh,hr,rfl,rfl,hb,hpl,hJ,hB,d1,d2,hsv1⟩ := hrel
    replace hgh := hide hgh
    cases b with
    | false =>
     have hrC : r = C := by have h3 : ¬ r < C := of_decide_eq_false hb.out.symm;omega
     subst hrC
     gi_wp2
     go_end0
     exact ⟨⟨_,rfl⟩,hJb _ _ _ hJ.out hB⟩
    | true =>
     obtain ⟨wo,hwo⟩ : ∃ wo,wo = wr := ⟨_,rfl⟩
     subst hwo
     have hlt : r < C := of_decide_eq_true hb.out.symm
     have hlt2 := hide hlt
     obtain ⟨hrd,hfp⟩ := hpl.out hlt
     have hUl : (unrankL S.length 1 r i).length = i := unrankL_len (by rw [hC2.out];exact hlt)
     obtain ⟨pa',pc',e,hp1,hp2,hprd⟩ := Rd.form hrd
     injection e with e1 e2 e3
     subst e1 e3
     rw [hUl] at e2 hp1
     subst e2
     have hfph := hide hfp
     have hUl2 := hide hUl
     have hpc : pc ≤ 9223372036854775807 := by unfold maxLen at hp2;omega
     clear hpl hb hfp hUl
     gi_wp2_with (with_reducible refine wpListIn_make_row _ rfl _ _ 27 rfl 3 (.int .i64 0) 8 Tryz.underlying27 infoInt rfl .i64 .i64 _ _ pn pn rfl rfl rfl rfl (Nat.le_refl _) (by omega) (by omega) ?_;intro w4 hrow4 hb4 hz4)
     rw [zeros_I64] at hrow4
     obtain ⟨L,hL⟩ : ∃ L,L = combS S pn r := ⟨_,rfl⟩
     have hLl : L.length = pn := by rw [hL];exact combS_len (by rw [hC2.out];exact hlt)
     have hLl2 := hide hLl
     have hpla : ∀ (t : Nat) (ht : t < pn),∃ (q : Nat) (b off : Nat),q < S.length ∧ pa = some ⟨b,off,none⟩ ∧ b < wo.heap.size ∧ wo.cell? ⟨b,off + t,none⟩ = some (.int .i64 ((q : Int) + 1)) ∧ L.getD t 0 = S.getD q 0 := by
      intro t ht
      have ht2 : t < (unrankL S.length 1 r pn).length := by rw [hUl2.out];exact ht
      obtain ⟨b,off,e,hbb,hcell⟩ := hprd.at_ ht2
      have hm := places_at (n := S.length) (k := pn) (r := r) (by rw [hC2.out];exact hlt) _ (List.getElem_mem ht2)
      obtain ⟨q,hq⟩ := Int.eq_ofNat_of_zero_le (show 0 ≤ (unrankL S.length 1 r pn)[t] - 1 by omega)
      have hq1 : (unrankL S.length 1 r pn)[t] = (q : Int) + 1 := by omega
      refine ⟨q,b,off,by omega,e,hbb,?_,?_⟩
      ·rw [← hq1];exact hcell _ ht2
      ·rw [hL];exact combS_at ht2 hq1
     have hplah := hide hpla
     have hBr := hide hB
     replace hL := hide hL
     have hBmlt := hide (World.block_lt_of_cell? wo _ d2)
     have hBklt := hide (World.block_lt_of_cell? wo _ d1)
     have d1h := hide d1
     have hrdh := hide hrd
     have e1 : w4.cell? ⟨Bk,0,none⟩ = some (.int .i64 (pn : Int)) := Bel.cellOf hb4 d1
     have e2 : w4.cell? ⟨Bm,0,none⟩ = some (.slice sa S.length sc) := Bel.cellOf hb4 d2
     clear hpla d1 d2 hprd hB hLl
     gi_loopg [28] pn (fun gh t wr => ∃ (j : Nat) (Q : List Int),gh = pn - j ∧ j ≤ pn ∧ t = .int .i64 (j : Int) ∧ Row wr wo.heap.size 3 (Q.map I64) ∧ Hid (LaidQ Q L j) ∧ Below wo.heap.size wo wr ∧ wr.cell? ⟨Bm,0,none⟩ = some (.slice sa S.length sc))
     case atStart => exact ⟨0,_,rfl,Nat.zero_le _,rfl,hrow4,⟨by rw [hLl2.out];simp,fun t ht => by omega⟩,hb4,e2⟩
     case round =>
      obtain ⟨j,Q,hgj,hj,rfl,hQ,hLaid,hB5,e3⟩ := hrel
      replace hgj := hide hgj
      by_cases hjn : j < pn
      ·have hjn2 := hide hjn
       obtain ⟨q,pb,poff,hqS,rfl,hpb,cp,hval⟩ := hplah.out j hjn
       obtain ⟨sb,soff,rfl,hsb,hscell⟩ := (hsv1.below (hB5)).at_ hqS
       have cs : wr.cell? ⟨sb,soff + q,none⟩ = some (.int .i64 S[q]) := hscell _ hqS
       have cp5 : wr.cell? ⟨pb,poff + j,none⟩ = some (.int .i64 ((q : Int) + 1)) := (hB5.cell (p := ⟨pb,poff + j,none⟩) (hpb)).trans cp
       have hjQ : j < Q.length := by rw [hLaid.out.1,hLl2.out];exact hjn
       have cq := hQ.cellV hjQ
       have cf := hQ.frozen j
       have j1 : (0 : Int) ≤ (j : Int) := by omega
       have j2 : (j : Int) < (pn : Int) := by omega
       have q1 : (0 : Int) ≤ (q : Int) := by omega
       have q2 : (q : Int) < (S.length : Int) := by omega
       have q3 : (q : Int) ≤ 80 := by have := hS2.out;omega
       have hset := laidQ_set hLaid.out (by rw [hLl2.out];exact hjn)
       have hv2 : L.getD j 0 = S[q] := by rw [hval,List.getD_eq_getElem?_getD,List.getElem?_eq_getElem hqS];rfl
       rw [hv2] at hset
       obtain ⟨x,hx⟩ : ∃ x,x = S[q] := ⟨_,rfl⟩
       rw [← hx] at hset cs
       replace hset := hide hset
       have hQ2 := hQ.setV (V := I64) j x
       have hB6 : Below wo.heap.size wo (wr.setCell ⟨wo.heap.size,j,none⟩ (I64 x)) := hB5.setCell (p := ⟨wo.heap.size,j,none⟩) (Nat.le_refl _) _
       have e4 : (wr.setCell ⟨wo.heap.size,j,none⟩ (I64 x)).cell? ⟨Bm,0,none⟩ = some (.slice (some ⟨sb,soff,none⟩) S.length sc) := cell_far e3 (by
        have h8 : Bm < wo.heap.size := hBmlt.out
        show Bm ≠ wo.heap.size
        omega) _
       clear hx hv2 hval hscell cp hpb hsb hqS
       gi_wp2
       gi_roundg (pn - (j + 1))
       case measure => have := hgj.out;have := hjn2.out;omega
       case rel => exact ⟨j + 1,_,rfl,by have := hjn2.out;omega,by go_num,hQ2,hset,hB6,e4⟩
      ·have hjk : j = pn := by omega
       subst hjk
       have hLQ : Q = L := laidQ_all (by rw [hLl2.out];exact hLaid.out)
       subst hLQ
       have hrdQ : Rd I64 wr (.slice (some ⟨wo.heap.size,0,none⟩) j j) Q := hQ.rdAll hLl2.out.symm (Nat.le_refl _) (by omega)
       rw [hL.out] at hrdQ
       have hb50 : Below W0.heap.size W0 wr := Below.trans hBr.out (hB5.mono (hBr.out.size))
       obtain ⟨fn,tmps,assign,body,hy,hR⟩ := hYh.out r (.slice (some ⟨wo.heap.size,0,none⟩) j j) W0 wr hlt2.out hJ.out hb50 hrdQ ⟨wo.heap.size,j,rfl,hBr.out.size⟩
       have f1 : wr.cell? ⟨Bk,0,none⟩ = some (.int .i64 (j : Int)) := (hB5.cell (p := ⟨Bk,0,none⟩) hBklt.out).trans d1h.out
       have hsv5 := hsv1.below hB5
       have hpl5 := hrdh.out.below hB5
       clear hplah hLaid hrdQ
       gi_wp2
       refine ⟨fun _ => by omega,?_⟩
       refine hR.mono ?_
       rintro e W3 ⟨rfl,hJ3,hK3⟩
       have g1 := hK3.cell (p := ⟨Bk,0,none⟩) (.inl fk) f1
       have g2 := hK3.cell (p := ⟨Bm,0,none⟩) (.inl fm) e3
       have sv3 := hK3.rd hsv5 (fun b hb => .inl (fsh.out b hb))
       have pl3 := hK3.rd hpl5 (fun b hb => .inr (hfph.out b hb))
       replace hJ3 := hide hJ3
       clear f1 e3 hsv5 hpl5 hK3 hQ hB5 hb50 hR hsv1
       by_cases hrn : r + 1 < C
       ·have cN := hide (next_midC _ W3 pl3 hkS2.out (by rw [hC2.out];exact hrn) hS2.out)
        have hlen6 : (unrankL S.length 1 (r + 1) j).length = j := unrankL_len (by rw [hC2.out];exact hrn)
        have hb6d : true = decide (r + 1 < C) := (decide_eq_true hrn).symm
        replace hrn := hide hrn
        replace hlen6 := hide hlen6
        replace hb6d := hide hb6d
        clear pl3
        gi_wp2_with fail
        refine ⟨trivial,fun _ => by omega,?_⟩
        refine (callsIn_wide.2 cN.out).mono ?_
        rintro e w6 ⟨u,rfl,hrd6,hfr6,hb6⟩
        obtain ⟨u1,u2,u3,rfl⟩ := Rd.shape hrd6
        have g3 := Bel.cellOf hb6 g1
        have g4 := Bel.cellOf hb6 g2
        have sv6 := sv3.below hb6
        have hpl6 : Hid (r + 1 < C → Rd I64 w6 (.slice u1 u2 u3) (unrankL S.length 1 (r + 1) j) ∧ ∀ b,(Value.slice u1 u2 u3).ownBlock = some b → W3.heap.size ≤ b) := fun _ => ⟨hrd6,fun b hb => by
         rcases hfr6 with h9 | ⟨k9,h9,h8⟩
         ·have := hlen6.out;rw [h9] at this;simp at this;omega
         ·rw [hb] at h9;injection h9 with h9;omega⟩
        clear hrd6 hfr6 g1 g2 sv3
        gi_wp2
        gi_roundg (C - (r + 1))
        case measure => have := hgh.out;have := hlt2.out;omega
        case rel => exact ⟨r + 1,W3,u1,u2,u3,true,rfl,by have := hlt2.out;omega,rfl,rfl,hb6d,hpl6,hJ3,hb6,g3,g4,sv6⟩
       ·have cN := hide (next_endC _ W3 pl3 hkS2.out (by rw [hC2.out];exact hlt2.out) (by rw [hC2.out];exact hrn) hS2.out)
        have hb6d : false = decide (r + 1 < C) := (decide_eq_false hrn).symm
        have hpl0 : ∀ (X : World) (v : Value),Hid (r + 1 < C → Rd I64 X v (unrankL S.length 1 (r + 1) j) ∧ ∀ b,v.ownBlock = some b → W3.heap.size ≤ b) := fun X v h => absurd h hrn
        replace hrn := hide hrn
        replace hb6d := hide hb6d
        replace hpl0 := hide hpl0
        clear pl3
        gi_wp2_with fail
        refine ⟨trivial,fun _ => by omega,?_⟩
        refine (callsIn_wide.2 cN.out).mono ?_
        rintro e w6 ⟨u,rfl,hrd6,hfr6,hb6⟩
        obtain ⟨u1,u2,u3,rfl⟩ := Rd.shape hrd6
        have g3 := Bel.cellOf hb6 g1
        have g4 := Bel.cellOf hb6 g2
        have sv6 := sv3.below hb6
        have hpl6 := hpl0.out w6 (.slice u1 u2 u3)
        clear hrd6 hfr6 g1 g2 sv3
        gi_wp2
        gi_roundg (C - (r + 1))
        case measure => have := hgh.out;have := hlt2.out;omega
        case rel => exact ⟨r + 1,W3,u1,u2,u3,false,rfl,by have := hlt2.out;omega,rfl,rfl,hb6d,hpl6,hJ3,hb6,g3,g4,sv6⟩
theorem cell_put {W : World} {l : Nat} {o : Obj} (o' : Obj) (hl : W.heap[l]? = some o) (ho : o.isCells = false) {p : Addr} {v : Value} (h : W.cell? p = some v) : (W.putObj l o').cell? p = some v := by
 have hne : p.block ≠ l := by
  intro e
  obtain ⟨o2,h2,h3⟩ := cells_of_cell h
  rw [e,hl] at h2
  cases h2
  rw [ho] at h3
  cases h3
 have hb := World.putObj_heap_other (w := W) (o := o') hne
 rw [← h]
 unfold World.cell?
 rw [hb]
theorem Rd.put {α : Type} {V : α → Value} {W : World} {u : Value} {xs : List α} (h : Rd V W u xs) {l : Nat} {o : Obj} (o' : Obj) (hl : W.heap[l]? = some o) (ho : o.isCells = false) : Rd V (W.putObj l o') u xs := by
 obtain ⟨ao,cap,rfl,h1,h2,h3⟩ := h
 refine ⟨ao,cap,rfl,h1,h2,fun hp => ?_⟩
 obtain ⟨b,off,e,hb,hc⟩ := h3 hp
 exact ⟨b,off,e,by simpa using hb,fun i x hx => cell_put o' hl ho (hc i x hx)⟩
theorem Row.put {W : World} {g : Nat} {t : TypeId} {cs : List Value} (h : Row W g t cs) {l : Nat} {o : Obj} (o' : Obj) (hl : W.heap[l]? = some o) (ho : o.isCells = false) : Row (W.putObj l o') g t cs := by
 refine (World.putObj_heap_other (w := W) (o := o') ?_).trans h
 intro e
 subst e
 have h9 : W.heap[g]? = some (.cells cs.toArray t (0,0)) := h
 rw [hl] at h9
 cases h9
 cases ho
theorem OwnLn.put {W : World} {base : Nat} {v : Value} {ls : List LineD} (h : OwnLn W base v ls) {l : Nat} {o : Obj} (o' : Obj) (hl : W.heap[l]? = some o) (ho : o.isCells = false) : OwnLn (W.putObj l o') base v ls := by
 obtain ⟨vs,h1,h2,h3⟩ := h
 refine ⟨vs,ownsRow_putObj h1 o' hl ho,h2,fun i p x hp hx => ?_⟩
 obtain ⟨⟨a1,a2⟩,b⟩ := h3 i p x hp hx
 exact ⟨⟨a1.put o' hl ho,a2.put o' hl ho⟩,b⟩
theorem OwnLn.ne {W : World} {base : Nat} {v : Value} {ls : List LineD} (h : OwnLn W base v ls) {b c : Nat} {t : TypeId} {cs : List Value} (hb : v.ownBlock = some b) (hr : Row W c t cs) (ht : 53 ≠ t) : b ≠ c := by
 obtain ⟨vs,h1,-⟩ := h
 rcases h1.2 with ⟨rfl,h0⟩ | ⟨g,cap,cur,rfl,hg,hh,-⟩
 ·cases hb
 ·intro e
  subst e
  have h9 : W.heap[b]? = some (.cells cs.toArray t (0,0)) := hr
  have hgb : g = b := by simpa [Value.ownBlock] using hb
  subst hgb
  rw [h9] at hh
  injection hh with hh
  injection hh with _ h8
  exact ht h8.symm
theorem OwnLn.neObj {W : World} {base : Nat} {v : Value} {ls : List LineD} (h : OwnLn W base v ls) {b c : Nat} {o : Obj} (hb : v.ownBlock = some b) (hr : W.heap[c]? = some o) (ho : o.isCells = false) : b ≠ c := by
 obtain ⟨vs,h1,-⟩ := h
 rcases h1.2 with ⟨rfl,h0⟩ | ⟨g,cap,cur,rfl,hg,hh,-⟩
 ·cases hb
 ·intro e
  subst e
  have hgb : g = b := by simpa [Value.ownBlock] using hb
  subst hgb
  rw [hr] at hh
  cases hh
  cases ho
theorem OwnLn.setBox {W : World} {base : Nat} {v : Value} {ls : List LineD} (h : OwnLn W base v ls) {c : Nat} {t : TypeId} {u : Value} (hr : Row W c t [u]) (ht : 53 ≠ t) (hu : ∀ x,I64 x ≠ u) (u' : Value) : OwnLn (W.setCell ⟨c,0,none⟩ u') base v ls := by
 have hne := fun b hb => h.ne (b := b) hb hr ht
 obtain ⟨vs,h1,h2,h3⟩ := h
 have hc : W.cell? ⟨c,0,none⟩ = some u := (hr.cell? 0).trans rfl
 refine ⟨vs,World.ownsRow.kept h1 (Gb.set (g := c) (Gb.refl W (some c)) (p := ⟨c,0,none⟩) (.inl rfl) u') ?_,h2,fun i p x hp hx => ?_⟩
 ·cases hv : v.ownBlock with
  | none => exact .inl rfl
  | some k => exact .inr (by intro e;injection e with e;exact hne k hv e)
 ·obtain ⟨⟨a1,a2⟩,b⟩ := h3 i p x hp hx
  exact ⟨⟨a1.setNe hc hu u',a2.setNe hc hu u'⟩,b⟩
theorem below_put {n₀ : Nat} {w W : World} (h : Below n₀ w W) (hn : n₀ ≤ w.heap.size) {c : Nat} (hc : n₀ ≤ c) (o' : Obj) : Below n₀ w (W.putObj c o') :=
 h.grown (grownBy_putObj' W c o') (Nat.le_trans hn h.size) (fun k e => by cases e;exact hc)
theorem wpIn_range_rounds {P : Program} {n : Nat} (h1 : 2 ≤ n) {g : Operand} {p : Tmp} {assign body : Code} {Q : Exit → Act → World → Prop} {a : Act} {w : World} {gf : Nat} {lb : Array Value}
  (hg : a.eval g = .func (.func gf) #[] lb) (eg : ∀ args w,(callFunc gf args).run P w = .ok (.enter gf args) w)
  (C : Nat) (J : Nat → World → Prop) (Pre : Nat → Value → World → World → Prop) (Sf : Nat → Prop)
  (hSf : ¬ Sf (w.heap.size + 1))
  (hJb : ∀ r X Y,J r X → Below X.heap.size X Y → J r Y)
  (hJp : ∀ r X c o o',w.heap.size ≤ c → J r X → X.heap[c]? = some o → o.isCells = false → J r (X.putObj c o'))
  (hPre : ∀ r v W0 W c o o',Pre r v W0 W → W.heap[c]? = some o → o.isCells = false → Pre r v W0 (W.putObj c o'))
  (h0 : J 0 w)
  (hseq : ∀ (J' : Nat → World → Prop),(∀ r X Y,J' r X → Below X.heap.size X Y → J' r Y) →
   (∀ r v W0 W,r < C → J' r W0 → Below W0.heap.size W0 W → Pre r v W0 W → YieldAt Fence.wide (n - 1 - 1) P (w.heap.size + 1) #[v] W fun e W' => e = .returned (.bool true) ∧ J' (r + 1) W' ∧ Kp15 W0.heap.size Sf W W') →
   ∀ W1,Below w.heap.size w W1 → J' 0 W1 → CallsIn Fence.wide (n - 1) P gf (#[.func (.yield (w.heap.size + 1)) #[] #[]] ++ lb) W1 fun e W' => (∃ v,e = .returned v) ∧ J' C W')
  (a₁ : Value → Act)
  (hassign : ∀ (v : Value) (W : World) (K : Act → World → Prop),K (a₁ v) W → assign.wpIn (Fence.wide.inRound (w.heap.size + 1)) (n - 1 - 1) P (Exit.then K (fun _ _ _ => False)) { tmps := (#[p].zip #[v]).foldl (fun t (p,v) => t.setIfInBounds p v) a.tmps,defers := [] } W)
  (hbody : ∀ r v W0 X o o2,r < C → J r W0 → W0.heap.size ≤ X.heap.size → w.heap.size + 1 < W0.heap.size → J r X → Pre r v W0 X → X.heap[w.heap.size + 1]? = some o → o.isCells = false → X.heap[w.heap.size]? = some o2 → o2.isCells = false → (∀ c,c < W0.heap.size → c ≠ w.heap.size + 1 → X.heap[c]? = W0.heap[c]?) →
   body.wpIn (Fence.wide.inRound (w.heap.size + 1)) (n - 1 - 1) P (fun e _ X' => e = .normal ∧ X'.heap[w.heap.size + 1]? = X.heap[w.heap.size + 1]? ∧ X'.heap[w.heap.size]? = X.heap[w.heap.size]? ∧ J (r + 1) X' ∧ Kp15 W0.heap.size Sf X X') (a₁ v) X)
  (hdone : ∀ D W,w.heap.size ≤ D → J C W → W.heap[D]? = some (.deferred (some [])) → Q .normal { a with defers := { target := .collected D,args := #[] } :: a.defers } W) :
  (Code.rangeFunc g #[p] assign body).wpIn Fence.wide n P Q a w := by
 refine wpIn_rangeFunc ?_
 intro fn hfn
 obtain ⟨l,hl⟩ : ∃ l,l = w.heap.size + 1 := ⟨_,rfl⟩
 obtain ⟨rec,hrec⟩ : ∃ rec : LoopState → Option Code → Loop,rec = fun st pe => { state := st,pending := pe,fn,tmps := a.tmps,params := #[p],assign,body,defers := w.heap.size } := ⟨_,rfl⟩
 obtain ⟨W1,hW1⟩ : ∃ W1,W1 = (w.alloc (.deferred (some []))).alloc (.loop (rec .ready none)) := ⟨_,rfl⟩
 have hL1 : W1.heap[w.heap.size + 1]? = some (.loop (rec .ready none)) := by
  rw [hW1]
  have := World.alloc_heap_new (w.alloc (.deferred (some []))) (.loop (rec .ready none))
  rwa [World.size_alloc] at this
 have hK1 : W1.heap[w.heap.size]? = some (.deferred (some [])) := by
  rw [hW1]
  exact (Below.heap_alloc _ _ _ (by simp)).trans (World.alloc_heap_new w _)
 have hb1 : Below w.heap.size w W1 := by rw [hW1];exact ((Below.refl _ w).alloc (Nat.le_refl _) _).alloc (by simp) _
 have hJ1 : J 0 W1 := hJb _ _ _ h0 hb1
 refine ⟨w.heap.size + 1,[{ target := .collected w.heap.size,args := #[] }],W1,{ target := .fn (.func gf) lb,args := #[.func (.yield (w.heap.size + 1)) #[] #[]] },W1,gf,
  #[.func (.yield (w.heap.size + 1)) #[] #[]] ++ lb,W1,?_,?_,fun _ _ => trivial,?_,fun _ => by omega,?_⟩
 ·rw [hW1,hrec];exact run_enterLoop_outer _ _ _ _ _
 ·simp only [resolve,hg]
  simp [go_sem]
 ·simp [invoke,go_sem,eg]
 ·refine (hseq (fun r W => J r W ∧ W.heap[w.heap.size + 1]? = some (.loop (rec .ready none)) ∧ W.heap[w.heap.size]? = some (.deferred (some []))) ?_ ?_ W1 hb1 ⟨hJ1,hL1,hK1⟩).mono ?_
  ·rintro r X Y ⟨q1,q2,q3⟩ hb
   exact ⟨hJb _ _ _ q1 hb,(hb.block _ (Array.getElem?_eq_some_iff.1 q2).1).trans q2,(hb.block _ (Array.getElem?_eq_some_iff.1 q3).1).trans q3⟩
  ·rintro r v W0 W hr ⟨q1,q2,q3⟩ hb hp
   have hlt0 := (Array.getElem?_eq_some_iff.1 q2).1
   have hlt1 := (Array.getElem?_eq_some_iff.1 q3).1
   have e2 : W.heap[w.heap.size + 1]? = some (.loop (rec .ready none)) := (hb.block _ hlt0).trans q2
   have e3 : W.heap[w.heap.size]? = some (.deferred (some [])) := (hb.block _ hlt1).trans q3
   have hlW := (Array.getElem?_eq_some_iff.1 e2).1
   have hy := run_yield (P := P) (args := #[v]) e2 (by rw [hrec];rfl)
   rw [hrec] at hy
   obtain ⟨X,hX⟩ : ∃ X,X = W.putObj (w.heap.size + 1) (.loop { rec .ready none with state := .busy }) := ⟨_,rfl⟩
   have x2 : X.heap[w.heap.size + 1]? = some (.loop { rec .ready none with state := .busy }) := by rw [hX];exact World.putObj_heap_same hlW
   have x3 : X.heap[w.heap.size]? = some (.deferred (some [])) := by rw [hX];exact (World.putObj_heap_other (by omega)).trans e3
   have xJ : J r X := by rw [hX];exact hJp _ _ _ _ _ (by omega) (hJb _ _ _ q1 hb) e2 rfl
   have xP : Pre r v W0 X := by rw [hX];exact hPre _ _ _ _ _ _ _ hp e2 rfl
   have xs : W0.heap.size ≤ X.heap.size := by rw [hX];simp;exact hb.size
   have hB := hbody r v W0 X _ _ hr q1 xs hlt0 xJ xP x2 rfl x3 rfl (fun c hc hne => by rw [hX];exact (World.putObj_heap_other hne).trans (hb.block c hc))
   refine ⟨fn,_,assign,body,hy,roundIn_of_wpIn hfn ?_⟩
   refine hassign v W _ ?_
   refine ⟨X,by rw [hX];exact run_beginRound e2 (by rw [hrec]),?_⟩
   refine wpIn_mono hB ?_
   rintro e a3 X' ⟨rfl,y2,y3,yJ,yK⟩
   rw [x2] at y2
   rw [x3] at y3
   have hend := run_endRound (P := P) none y2
   have hlY := (Array.getElem?_eq_some_iff.1 y2).1
   have hdone2 : (X'.putObj (w.heap.size + 1) (.loop (rec .ready none))).heap[w.heap.size + 1]? = some (.loop (rec .ready none)) := World.putObj_heap_same hlY
   refine ⟨_,_,hend,rfl,⟨hJp _ _ _ _ _ (by omega) yJ y2 rfl,?_,?_⟩,?_⟩
   ·rw [hrec] at hdone2 ⊢;exact hdone2
   ·exact (World.putObj_heap_other (by omega)).trans y3
   ·have k1 : Kp15 W0.heap.size Sf W X := by rw [hX];exact Kp15.put _ hSf hlt0
    exact (k1.trans yK).trans (Kp15.put _ hSf hlt0)
  ·rintro e W2 ⟨⟨v,rfl⟩,z1,z2,z3⟩
   have hend := run_endLoop (P := P) z2 (by rw [hrec];simp)
   refine ⟨none,_,by rw [hrec] at hend;exact hend,?_⟩
   exact hdone _ _ (Nat.le_refl _) (hJp _ _ _ _ _ (by omega) z1 z2 rfl) ((World.putObj_heap_other (by omega)).trans z3)
attribute [local go_sem] Oper.semAt_some
theorem infoLine15 : (Tryz.prog.info? 53).map (fun i => (i.zero,i.size,i.bytes)) = some (some (.agg #[.slice none 0 0,.slice none 0 0]),2,48) := by kernel_rfl
theorem lineZ15 : (Value.agg #[.slice none 0 0,.slice none 0 0]).cells.size = 2 := rfl
theorem slice_one15 (a : Option Addr) (n c : Nat) : (Value.slice a n c).oneCell' = true := rfl
theorem ap_fr15 {u v : Value} {l : List Int} {B : Nat} (h : Fr B u l) (hv : ∀ k,v.ownBlock = some k → k < B) : Ap u v l := by
 rcases h with h | ⟨k,h1,h2⟩
 ·exact .inl h
 ·exact .inr (fun e => by rw [h1] at e;have := hv k e.symm;omega)
def LinesX (ls : List LineD) (c : Int) (w : World) (e : Ending) (w' : World) : Prop := ∃ v,e = .returned (.tuple #[v,.int .i64 c]) ∧ LinesR w' v ls ∧ Below w.heap.size w w'
def LinesO (ls : List LineD) (c : Int) (w : World) (e : Ending) (w' : World) : Prop := ∃ v,e = .returned (.tuple #[v,.int .i64 c]) ∧ OwnLn w' w.heap.size v ls ∧ Below w.heap.size w w'
theorem LinesO.x {ls : List LineD} {c : Int} {w : World} {e : Ending} {w' : World} (h : LinesO ls c w e w') : LinesX ls c w e w' := by
 obtain ⟨v,h1,h2,h3⟩ := h
 exact ⟨v,h1,h2.rd,h3⟩
theorem OwnLn.lower {w : World} {base base' : Nat} {v : Value} {ls : List LineD} (h : OwnLn w base v ls) (hb : base' ≤ base) : OwnLn w base' v ls := by
 obtain ⟨vs,h1,h2,h3⟩ := h
 refine ⟨vs,⟨h1.1,?_⟩,h2,fun i p x hp hx => ?_⟩
 ·rcases h1.2 with h | ⟨g,cap,cur,e,hg,hr⟩
  ·exact .inl h
  ·exact .inr ⟨g,cap,cur,e,by omega,hr⟩
 ·obtain ⟨a,b,c,d⟩ := h3 i p x hp hx
  exact ⟨a,b.mono hb,c.mono hb,d⟩
structure JX (w : World) (R0 bx sb Bm : Nat) (mu mv : Value) (SA SB : List Int) (k r : Nat) (W : World) : Prop where
 row : ∃ v,Row W bx 44 [v] ∧ OwnLn W R0 v ((List.range r).map fun r => (combS SA k r,SB))
 at_ : LineAt W sb mu mv
 rd : LineR W mu mv SA SB
 rM : Row W Bm 27 [mu]
 rK : Row W (Bm + 1) 3 [.int .i64 (k : Int)]
 bel : Below w.heap.size w W
theorem JX.below {w : World} {R0 bx sb Bm : Nat} {mu mv : Value} {SA SB : List Int} {k r : Nat} {X Y : World} (h : JX w R0 bx sb Bm mu mv SA SB k r X) (hb : Below X.heap.size X Y) : JX w R0 bx sb Bm mu mv SA SB k r Y := by
 obtain ⟨⟨v,h1,h2⟩,h3,h4,h5,h6,h7⟩ := h
 exact ⟨⟨v,h1.keep hb,h2.keep hb⟩,h3.keep hb,h4.below hb,h5.keep hb,h6.keep hb,Bel.to h7 hb⟩
theorem JX.put {w : World} {R0 bx sb Bm : Nat} {mu mv : Value} {SA SB : List Int} {k r : Nat} {X : World} (h : JX w R0 bx sb Bm mu mv SA SB k r X) {c : Nat} {o : Obj} (o' : Obj) (hc : w.heap.size ≤ c) (hl : X.heap[c]? = some o) (ho : o.isCells = false) : JX w R0 bx sb Bm mu mv SA SB k r (X.putObj c o') := by
 obtain ⟨⟨v,h1,h2⟩,h3,h4,h5,h6,h7⟩ := h
 exact ⟨⟨v,h1.put o' hl ho,h2.put o' hl ho⟩,Row.put h3 o' hl ho,⟨h4.1.put o' hl ho,h4.2.put o' hl ho⟩,h5.put o' hl ho,h6.put o' hl ho,below_put h7 (Nat.le_refl _) hc o'⟩
def PreX (SA : List Int) (k r : Nat) (v : Value) (W0 W : World) : Prop := Rd I64 W v (combS SA k r) ∧ ∃ a c,v = .slice (some ⟨a,0,none⟩) k c ∧ W0.heap.size ≤ a
def SfX (Bm : Nat) (mu : Value) (b : Nat) : Prop := b = Bm ∨ b = Bm + 1 ∨ mu.ownBlock = some b
theorem sl_ne15 (a : Option Addr) (n c : Nat) : ∀ x,I64 x ≠ Value.slice a n c := fun x h => by cases h
set_option maxHeartbeats 1000000 in
theorem round_step {w X w8 W0 : World} {R0 bx sb Bm l D k r a0 c0 : Nat} {mu mv : Value} {SA SB : List Int} {la : Option Addr} {ln lc : Nat} {n1 : Option Addr} {n2 n3 : Nat} {ol od : Obj}
  (hrow : Row X bx 44 [.slice la ln lc]) (hown : OwnLn X R0 (.slice la ln lc) ((List.range r).map fun r => (combS SA k r,SB)))
  (hat : LineAt X sb mu mv) (hrdL : LineR X mu mv SA SB) (hrM : Row X Bm 27 [mu]) (hrK : Row X (Bm + 1) 3 [.int .i64 (k : Int)]) (hbel : Below w.heap.size w X)
  (hb8 : Below X.heap.size X w8) (hrd8 : Rd I64 w8 (.slice n1 n2 n3) SB) (hfr8 : Fr X.heap.size (.slice n1 n2 n3) SB)
  (hv : Rd I64 X (.slice (some ⟨a0,0,none⟩) k c0) (combS SA k r)) (ha0 : W0.heap.size ≤ a0) (hs0 : W0.heap.size ≤ X.heap.size) (hrb : ∀ b,(Value.slice la ln lc).ownBlock = some b → b < W0.heap.size) (hR0 : R0 ≤ W0.heap.size) (hwR : w.heap.size ≤ R0) (hbx : w.heap.size ≤ bx) (hbx2 : bx < W0.heap.size)
  (hsb : sb < R0) (hmu : ∀ b,mu.ownBlock = some b → b < sb) (hmv : SB = [] ∨ ∀ b,mv.ownBlock = some b → b < sb) (hmuN : mu.ownBlock ≠ none) (hmvN : SB = [] ∨ mv.ownBlock ≠ none) (hBx : bx < Bm)
  (hl : X.heap[l]? = some ol) (hol : ol.isCells = false) (hD : X.heap[D]? = some od) (hod : od.isCells = false) (hr : r < 1024) (hlb : l ≠ bx) (hDb : D ≠ bx) (hsbx : sb ≠ bx) (hmub : ∀ b,mu.ownBlock = some b → b ≠ bx) :
  ∃ la7 lc7 w7,(Builtin.append_ #[44,44] 44 #[.slice la ln lc,.slice (some ⟨w8.heap.size,0,none⟩) 1 1]).run Tryz.prog (w8.alloc (Obj.cells #[.slice (some ⟨a0,0,none⟩) k c0,.slice n1 n2 n3] 53)) = .ok (.slice la7 (r + 1) lc7) w7 ∧
   w7.cell? ⟨bx,0,none⟩ = some (.slice la ln lc) ∧ w7.frozen? ⟨bx,0,none⟩ = false ∧
   ∀ Y,Y = w7.setCell ⟨bx,0,none⟩ (.slice la7 (r + 1) lc7) → Y.heap[l]? = X.heap[l]? ∧ Y.heap[D]? = X.heap[D]? ∧ JX w R0 bx sb Bm mu mv SA SB k (r + 1) Y ∧ Kp15 W0.heap.size (SfX Bm mu) X Y := by
 have hneL := fun b hb => hown.neObj (b := b) hb hl hol
 have hneD := fun b hb => hown.neObj (b := b) hb hD hod
 have hneX := fun b hb => hown.ne (b := b) hb hrow (by decide)
 have hneM := fun b hb => hown.ne (b := b) hb hrM (by decide)
 have hneK := fun b hb => hown.ne (b := b) hb hrK (by decide)
 have hltl := hown.lt
 have hlX := (Array.getElem?_eq_some_iff.1 hl).1
 have hDX := (Array.getElem?_eq_some_iff.1 hD).1
 obtain ⟨w9,hw9⟩ : ∃ w9,w9 = w8.alloc (Obj.cells #[.slice (some ⟨a0,0,none⟩) k c0,.slice n1 n2 n3] 53) := ⟨_,rfl⟩
 have rT : LineAt w9 w8.heap.size (.slice (some ⟨a0,0,none⟩) k c0) (.slice n1 n2 n3) := by rw [hw9];exact Row.new _ _ _
 have b89 : Below w8.heap.size w8 w9 := by rw [hw9];exact Bel.al (Below.refl _ _) _
 have b9 := Bel.to hb8 b89
 rw [← hw9]
 have hs9 : X.heap.size ≤ w9.heap.size := b9.size
 have fr1 : Fr R0 (.slice (some ⟨a0,0,none⟩) k c0) (combS SA k r) := .inr ⟨a0,rfl,Nat.le_trans hR0 ha0⟩
 have fr2 : Fr R0 (.slice n1 n2 n3) SB := hfr8.mono (Nat.le_trans hR0 hs0)
 have ap1 : Ap (.slice (some ⟨a0,0,none⟩) k c0) (.slice la ln lc) (combS SA k r) := .inr (by intro e;have h9 := hrb a0 (by rw [← e];rfl);omega)
 have ap2 : Ap (.slice n1 n2 n3) (.slice la ln lc) SB := ap_fr15 hfr8 (fun b hb => (hltl b hb).2)
 obtain ⟨v7,w7,hrun,hown7,hg7⟩ := run_append_ln (P := Tryz.prog) w9 R0 44 44 (.agg #[.slice none 0 0,.slice none 0 0]) 48 Tryz.underlying44 infoLine15 lineZ15 (.slice la ln lc) _ (hown.keep b9) w8.heap.size 1 (.slice (some ⟨a0,0,none⟩) k c0) (.slice n1 n2 n3) (combS SA k r) SB
  rT.main rT.bonus (slice_one15 _ _ _) (slice_one15 _ _ _) ⟨hv.below b9,hrd8.below b89⟩ fr1 fr2 ap1 ap2 (by simp;omega) (by simp;omega) (by omega)
 rw [← expL_step] at hown7
 obtain ⟨la7,lc7,rfl⟩ := hown7.shape
 rw [List.length_map,List.length_range] at hrun hown7
 have hgX : ∀ c,c < X.heap.size → (∀ b,(Value.slice la ln lc).ownBlock = some b → b ≠ c) → w7.heap[c]? = X.heap[c]? := fun c hc hne =>
  (hg7.block c (by omega) (by intro e;exact hne c e.symm rfl)).trans (b9.block c hc)
 have row7 : Row w7 bx 44 [.slice la ln lc] := (hgX bx hrow.lt hneX).trans hrow
 refine ⟨la7,lc7,w7,hrun,(row7.cell? 0).trans rfl,row7.frozen 0,?_⟩
 rintro Y rfl
 have hY : ∀ c,c < X.heap.size → c ≠ bx → (∀ b,(Value.slice la ln lc).ownBlock = some b → b ≠ c) → (w7.setCell ⟨bx,0,none⟩ (.slice la7 (r + 1) lc7)).heap[c]? = X.heap[c]? := fun c hc hne h2 =>
  (Below.heap_setCell w7 ⟨bx,0,none⟩ _ c hne).trans (hgX c hc h2)
 have hsY : X.heap.size ≤ (w7.setCell ⟨bx,0,none⟩ (.slice la7 (r + 1) lc7)).heap.size := by have := hg7.size;simp [World.setCell];omega
 have hK : Kp15 W0.heap.size (SfX Bm mu) X (w7.setCell ⟨bx,0,none⟩ (.slice la7 (r + 1) lc7)) := ⟨hsY,fun b hb hs => by
  refine hY b hb ?_ ?_
  ·intro e
   subst e
   rcases hs with hs | hs
   ·rcases hs with h | h | h
    ·omega
    ·omega
    ·exact hmub _ h rfl
   ·omega
  ·intro b2 hb2 e
   subst e
   rcases hs with hs | hs
   ·rcases hs with h | h | h
    ·exact hneM _ hb2 h
    ·exact hneK _ hb2 h
    ·have := hmu _ h;have := (hltl _ hb2).1;omega
   ·have := hrb _ hb2;omega⟩
 have hrb0 : ∀ b,(Value.slice la ln lc).ownBlock = some b → R0 ≤ b := fun b hb => (hltl b hb).1
 refine ⟨hY l hlX hlb hneL,hY D hDX hDb hneD,⟨⟨_,row7.set 0 _,hown7.setBox row7 (by decide) (sl_ne15 _ _ _) _⟩,?_,?_,?_,?_,?_⟩,hK⟩
 ·exact (hY sb (Row.lt hat) hsbx (fun b hb e => by have := hrb0 b hb;omega)).trans hat
 ·have hr7 : LineR w7 mu mv SA SB := by
   have h9 := hrdL.below b9
   refine ⟨Rd.grownA h9.1 hg7 (.inr (fun e => ?_)),Rd.grownA h9.2 hg7 ?_⟩
   ·cases hb : mu.ownBlock with
    | none =>
     rw [hb] at e
     cases hla : (Value.slice la ln lc).ownBlock with
     | none => exact hmuN hb
     | some b => rw [hla] at e;cases e
    | some b =>
     rw [hb] at e
     have := hmu b hb
     have := hrb0 b e.symm
     omega
   ·rcases hmv with h | h
    ·exact .inl h
    ·rcases hmvN with h2 | h2
     ·exact .inl h2
     ·refine .inr (fun e => ?_)
      cases hb : mv.ownBlock with
      | none => exact h2 hb
      | some b =>
       rw [hb] at e
       have := h b hb
       have := hrb0 b e.symm
       omega
  exact ⟨hr7.1.setNe ((row7.cell? 0).trans rfl) (sl_ne15 _ _ _) _,hr7.2.setNe ((row7.cell? 0).trans rfl) (sl_ne15 _ _ _) _⟩
 ·exact (hK.blk Bm hrM.lt (.inl (.inl rfl))).trans hrM
 ·exact (hK.blk (Bm + 1) hrK.lt (.inl (.inr (.inl rfl)))).trans hrK
 ·exact (((Bel.to hbel b9).grown hg7 (Bel.to hbel b9).size (fun b hb => Nat.le_trans hwR (hrb0 b hb))).setCell (p := ⟨bx,0,none⟩) hbx _)
def appShut (ts : Array TypeId) (t : TypeId) (vs : Array Value) : Sem Value := Builtin.append_ ts t vs
theorem app_shut (ts : Array TypeId) (t : TypeId) (vs : Array Value) : Builtin.append_ ts t vs = appShut ts t vs := rfl
attribute [local go_sem ↓] app_shut
set_option maxHeartbeats 8000000 in
set_option maxRecDepth 100000 in
theorem sexpand_own (g : GameD) (av tv mv bv : Value) (ms : List AddonM) (a b : List Int) (w : World) (h : GameR w av tv ms g) (hl : LineR w mv bv a b) (he : sysE g a b = 0) (hm : choose a.length g.main.toNat ≤ 1024) :
  Calls Tryz.prog 29 #[gameVal g av tv,lineVal mv bv] w (LinesO (expL (sortI a) (sortI b) g.main.toNat) 0 w) := by
 have cV := hide (fun X (hX : Below w.heap.size w X) => scount15_any g av tv mv bv ms a b X (h.below hX) (hl.below hX))
 unfold sysP at cV
 rw [if_pos he] at cV
 obtain ⟨g1,g2,g3,g4,g5,g6,g7,g8⟩ := sysE_ok he
 obtain ⟨f1,f2,f3,f4,f5,f6,f7,f8,f9⟩ := sys_bounds g1
 have hh := hide h
 have hl' := hide hl
 have cC := hide (fun X (hX : Below w.heap.size w X) => mcanon_fr mv bv a b X (hl.below hX) (by omega) (by omega))
 obtain ⟨k,hk⟩ := Int.eq_ofNat_of_zero_le (show 0 ≤ g.main by omega)
 rw [hk,Int.toNat_natCast] at cV hm ⊢
 have k1 : 1 ≤ k := by omega
 have k2 : k ≤ 10 := by omega
 have k3 : k ≤ a.length := by omega
 have a14 : a.length ≤ 14 := by omega
 have b4 : b.length ≤ 4 := by omega
 obtain ⟨q,hq⟩ : ∃ q,q = choose a.length k := ⟨_,rfl⟩
 rw [← hq] at cV hm
 have hq1 : (q : Int) ≤ 1024 := by omega
 have hq0 : (0 : Int) ≤ (q : Int) := by omega
 have hq2 := hide hq
 have a14h := hide a14
 have k3h := hide k3
 have b4h := hide b4
 have kh := hide hk
 obtain ⟨i0,hi,hz0,hz1,hz2⟩ := info_parts infoLine15
 obtain ⟨aa,ac,rfl,hal,ham⟩ := h.1.1.shape
 obtain ⟨ta,tc,rfl,htl,htm⟩ := h.2.2.shape
 obtain ⟨ma,mc,rfl,hma,hmc,-⟩ := hl.1.form
 obtain ⟨ba,bc,rfl,hba,hbc,-⟩ := hl.2.form
 clear h hl hq he g1 g2 g3 g4 g5 g6 g7 g8 f1 f2 f3 f4 f5 f6 f7 f8 f9 a14 b4 k3 hk
 unfold gameVal lineVal at cV ⊢
 refine (callsIn_wide (n := 9)).1 ?_
 refine callsIn_of_wp_marks Tryz.func29 rfl trivial ?_ rfl
 simp only [Tryz.ntmps29,List.size_toArray,List.length_cons,List.length_nil,Nat.reduceAdd,Nat.reduceSub,Array.replicate_succ,Array.replicate_zero,List.push_toArray,List.append_toArray,List.nil_append,List.cons_append]
 gi_upto_region 1 with (fail)
 obtain ⟨W,hW⟩ : ∃ W,W = ((w.alloc (Obj.cells #[.string g.name,.int .i64 g.kind,.int .i64 g.price,.int .i64 g.main,.int .i64 g.of,.int .i64 g.bonus,.int .i64 g.bonusOf,.int .i64 g.extra,.int .i64 g.draws,.int .i64 g.system,.int .i64 g.days,.int .i64 g.at_,.int .i64 g.close,.int .i64 g.cancel,.int .i64 g.expiry,.int .i64 g.pool,.int .i64 g.reserve,.int .i64 g.round,.int .i64 g.cap,.int .i64 g.rolls,(.slice aa ms.length ac),(.slice ta g.tiers.length tc)] 25)).alloc (Obj.cells #[(.slice ma a.length mc),(.slice ba b.length bc)] 53)) := ⟨_,rfl⟩
 have bW : Below w.heap.size w W := by rw [hW];exact Bel.al (Bel.al (Below.refl _ _) _) _
 have r0 : GameAt W (w.heap.size) g ((.slice aa ms.length ac)) ((.slice ta g.tiers.length tc)) := by rw [hW];exact Row.alloc (Row.new _ _ _) _
 have r1 : LineAt W (w.heap.size + 1) ((.slice ma a.length mc)) ((.slice ba b.length bc)) := by rw [hW];exact Row.at2 _ _ _ _
 have sW : w.heap.size + 1 < W.heap.size := by rw [hW];simp
 rw [← hW]
 clear hW
 gi_wp2_with (first | (refine wpListIn_load_row rfl 25 _ rfl _ rfl _ _ _ _ r0 Tryz.underlying25 rfl (by kernel_rfl) ?_) | (refine wpListIn_load_row rfl 53 _ rfl _ rfl _ _ _ _ r1 Tryz.underlying53 rfl (by kernel_rfl) ?_) | fail)
 refine ⟨trivial,?_⟩
 refine (callsIn_wide.2 (cV.out _ bW)).mono ?_
 rintro e w1 ⟨rfl,hb1⟩
 have B1 := Bel.to bW hb1
 have r0 := r0.keep hb1
 have r1 := r1.keep hb1
 clear hb1 bW
 gi_wp2_with (first | (refine wpListIn_load_row rfl 53 _ rfl _ rfl _ _ _ _ r1 Tryz.underlying53 rfl (by kernel_rfl) ?_) | fail)
 refine ⟨trivial,?_⟩
 refine (callsIn_wide.2 (cC.out _ B1)).mono ?_
 rintro e w2 ⟨u,v,rfl,hlr,fu,fv,hb2⟩
 have B2 := Bel.to B1 hb2
 have r0 := r0.keep hb2
 obtain ⟨ua,un,uc,rfl⟩ := Rd.shape hlr.1
 obtain ⟨va,vn,vc,rfl⟩ := Rd.shape hlr.2
 have hun := Rd.len_eq hlr.1
 have hvn := Rd.len_eq hlr.2
 subst hun hvn
 obtain ⟨SA,hSA⟩ : ∃ SA,SA = sortI a := ⟨_,rfl⟩
 obtain ⟨SB,hSB⟩ : ∃ SB,SB = sortI b := ⟨_,rfl⟩
 rw [← hSA,← hSB] at hlr ⊢
 have hSAl : SA.length = a.length := by rw [hSA];exact sortI_len a
 have hSBl : SB.length = b.length := by rw [hSB];exact sortI_len b
 replace hSAl := hide hSAl
 replace hSBl := hide hSBl
 rw [← hSA] at fu
 rw [← hSB] at fv
 replace hSA := hide hSA
 replace hSB := hide hSB
 unfold lineVal
 clear hb2 B1 r1
 have hmu : ∀ b,(Value.slice ua SA.length uc).ownBlock = some b → b < w2.heap.size := by
  obtain ⟨b0,h1,h2⟩ := rd_lt hlr.1 (by intro e;have := hSAl.out;rw [e] at this;simp at this;have := k3h.out;omega)
  intro b hb
  rw [h1] at hb
  injection hb with hb
  omega
 have hmuN : (Value.slice ua SA.length uc).ownBlock ≠ none := by
  obtain ⟨b0,h1,h2⟩ := rd_lt hlr.1 (by intro e;have := hSAl.out;rw [e] at this;simp at this;have := k3h.out;omega)
  rw [h1];simp
 have hmv : SB = [] ∨ ((∀ b,(Value.slice va SB.length vc).ownBlock = some b → b < w2.heap.size) ∧ (Value.slice va SB.length vc).ownBlock ≠ none) := by
  by_cases h9 : SB = []
  ·exact .inl h9
  ·obtain ⟨b0,h1,h2⟩ := rd_lt hlr.2 h9
   refine .inr ⟨fun b hb => ?_,by rw [h1];simp⟩
   rw [h1] at hb
   injection hb with hb
   omega
 have hwsb := B2.size
 gi_upto_region 7 with (fail)
 obtain ⟨W3,hW3⟩ : ∃ W3,W3 = w2.alloc (Obj.cells #[.slice ua SA.length uc,.slice va SB.length vc] 53) := ⟨_,rfl⟩
 have b3 : Below w2.heap.size w2 W3 := by rw [hW3];exact Bel.al (Below.refl _ _) _
 obtain ⟨sb,hsb⟩ : ∃ sb,sb = w2.heap.size := ⟨_,rfl⟩
 have rS : LineAt W3 sb (.slice ua SA.length uc) (.slice va SB.length vc) := by rw [hW3,hsb];exact Row.new _ _ _
 rw [← hW3,← hsb]
 rw [← hsb] at hmu hmv hwsb
 replace hmu := hide hmu
 replace hmv := hide hmv
 replace hmuN := hide hmuN
 have sS : sb < W3.heap.size := rS.lt
 have hlr := hlr.below b3
 have r0 := r0.keep b3
 have B3 := Bel.to B2 b3
 clear hW3 b3 B2 hsb
 obtain ⟨W3s,hW3s⟩ : ∃ W3s,W3s = W3.heap.size := ⟨_,rfl⟩
 gi_upto_region 8 with (with_reducible refine wpListIn_make_own _ rfl _ _ 44 rfl W3.heap.size 53 i0 _ 2 Tryz.underlying44 hi hz0 hz1 .i64 .i64 _ q rfl rfl rfl (by rw [hz2];omega) (by unfold maxLen;omega) (Nat.le_refl _) ?_;intro W4 hown0 hg0)
 have hown4 : OwnLn W4 W3.heap.size (.slice (some ⟨W3.heap.size,0,none⟩) 0 q) [] := ⟨[],hown0,rfl,fun i p x h => by simp at h⟩
 have b4 : Below W3.heap.size W3 W4 := (Below.refl _ _).grown hg0 (Nat.le_refl _) (fun k hk => by cases hk)
 obtain ⟨W5,hW5⟩ : ∃ W5,W5 = W4.alloc (Obj.cells #[.slice (some ⟨W3.heap.size,0,none⟩) 0 q] 44) := ⟨_,rfl⟩
 have b5 : Below W4.heap.size W4 W5 := by rw [hW5];exact Bel.al (Below.refl _ _) _
 obtain ⟨bx,hbx⟩ : ∃ bx,bx = W4.heap.size := ⟨_,rfl⟩
 have rX : Row W5 bx 44 [.slice (some ⟨W3.heap.size,0,none⟩) 0 q] := by rw [hW5,hbx];exact Row.new _ _ _
 rw [← hW5,← hbx]
 have sX : bx < W5.heap.size := rX.lt
 have sX3 : W3.heap.size ≤ bx := by rw [hbx];exact b4.size
 have hown5 := hown4.keep b5
 have hrb : W3.heap.size < W4.heap.size := (hown4.lt _ rfl).2
 have b35 := Bel.to b4 b5
 have hlr := hlr.below b35
 have r0 := r0.keep b35
 have rS := rS.keep b35
 have B5 := Bel.to B3 b35
 have d3 : W5.cell? ⟨w.heap.size,3,none⟩ = some (.int .i64 (k : Int)) := by have := r0.main;rw [kh.out] at this;exact this
 have x0 := rS.main
 rw [← hbx] at hrb
 clear hW5 hown4 hown0 hg0 b5 b4 B3 r0 hW3s hbx
 gi_wp2_with fail
 refine ⟨trivial,?_⟩
 refine (callsIn_wide.2 (choices_in _ _ _ _ _)).mono ?_
 rintro e w6 ⟨rfl,hw6⟩
 have rM : Row w6 W5.heap.size 27 [.slice ua SA.length uc] := by rw [hw6];exact Row.alloc (Row.new _ _ _) _
 have rK : Row w6 (W5.heap.size + 1) 3 [.int .i64 (k : Int)] := by rw [hw6];exact Row.at2 _ _ _ _
 have b6 : Below W5.heap.size W5 w6 := by rw [hw6];exact Bel.al (Bel.al (Below.refl _ _) _) _
 have s6 : w6.heap.size = W5.heap.size + 2 := by rw [hw6];simp
 have rX := rX.keep b6
 have rS := rS.keep b6
 have hlr := hlr.below b6
 have hown6 := hown5.keep b6
 have B6 := Bel.to B5 b6
 clear hw6 b6 hown5 B5 d3 x0
 gi_wp2
 have hSA80 : SA.length ≤ 80 := by have := hSAl.out;have := a14h.out;omega
 have hkSA : k ≤ SA.length := by have := hSAl.out;have := k3h.out;omega
 have hSB10 : SB.length ≤ 1000 := by have := hSBl.out;have := b4h.out;omega
 have hC : choose SA.length k = q := by rw [hSAl.out];exact hq2.out.symm
 have hSf : ¬ SfX W5.heap.size (.slice ua SA.length uc) (w6.heap.size + 1) := by
  intro h
  rcases h with h | h | h
  ·omega
  ·omega
  ·have := hmu.out _ h;omega
 replace s6 := hide s6
 refine' wpIn_range_rounds (gf := 85) (lb := #[.pointer (some ⟨W5.heap.size + 1,0,none⟩),.pointer (some ⟨W5.heap.size,0,none⟩)]) (by omega) rfl (enters_of Tryz.func85 (by kernel_rfl) rfl)
  (choose SA.length k) (JX w W3.heap.size bx sb W5.heap.size (.slice ua SA.length uc) (.slice va SB.length vc) SA SB k) (PreX SA k) (SfX W5.heap.size (.slice ua SA.length uc)) hSf
  (fun r X Y h hb => h.below hb) (fun r X c o o' hc h hl ho => h.put o' (Nat.le_trans B6.size hc) hl ho)
  (fun r v W0 W c o o' h hl ho => ⟨h.1.put o' hl ho,h.2⟩)
  ⟨⟨_,rX,hown6⟩,rS,hlr,rM,rK,B6⟩
  (fun J' hJ' hY W1 hb1 h0' => choices1_in 8 (by omega) (w6.heap.size + 1) (W5.heap.size + 1) W5.heap.size k SA _ k1 k2 hkSA hSA80 _ J' hJ' (fun r v W0 W hr hj hb hrd hv => hY r v W0 W hr hj hb ⟨hrd,hv⟩) W1 h0' (.inr (.inl rfl)) (.inl rfl) (fun b hb => .inr (.inr hb))
   (Bel.cellOf hb1 ((rK.cell? 0).trans rfl)) (Bel.cellOf hb1 ((rM.cell? 0).trans rfl)) (hlr.1.below hb1))
  _ ?assign ?body ?done
 case assign =>
  intro v W K hK
  gi_wp2
  exact hK
 case body =>
  intro r v W0 X o o2 hr hJ0 hs0 hl0 hJX hPre hxl hol hxd hod hsame
  obtain ⟨⟨lv,hrow,hown⟩,hat,hrdL,hrM,hrK,hbel⟩ := hJX
  obtain ⟨hv,a0,c0,rfl,ha0⟩ := hPre
  obtain ⟨la,lc,rfl⟩ := hown.shape
  rw [List.length_map,List.length_range] at hrow hown
  have s6' := s6.out
  have hrb : ∀ b,(Value.slice la r lc).ownBlock = some b → b < W0.heap.size := by
   obtain ⟨⟨v0,hrow0,hown0⟩,-⟩ := hJ0
   have h1 : W0.heap[bx]? = some (.cells [v0].toArray 44 (0,0)) := hrow0
   have h2 : X.heap[bx]? = some (.cells [Value.slice la r lc].toArray 44 (0,0)) := hrow
   rw [hsame bx hrow0.lt (by omega),h1] at h2
   injection h2 with h2
   injection h2 with h2
   have h3 : v0 = .slice la r lc := by simpa using h2
   rw [← h3]
   exact fun b hb => (hown0.lt b hb).2
  have hr1024 : r < 1024 := by rw [hC] at hr;omega
  have hmuo := hmu.out
  have cK := hide (fun (X : World) (hX : LineR X (.slice ua SA.length uc) (.slice va SB.length vc) SA SB) => CallsIn.inRound (n := 6) (w6.heap.size + 1) (callsIn_wide.2 (sclone15_any _ SB X hX.2 hSB10)))
  have hstep := hide (fun (w8 : World) (n1 : Option Addr) (n2 n3 : Nat) (hb8 : Below X.heap.size X w8) (hrd8 : Rd I64 w8 (.slice n1 n2 n3) SB) (hfr8 : Fr X.heap.size (.slice n1 n2 n3) SB) =>
   round_step (l := w6.heap.size + 1) (D := w6.heap.size) hrow hown hat hrdL hrM hrK hbel hb8 hrd8 hfr8 hv ha0 hs0 hrb (by omega) (by omega) (by omega) (by omega) sS hmuo (hmv.out.imp id (fun h => h.1)) hmuN.out (hmv.out.imp id (fun h => h.2)) sX hxl hol hxd hod hr1024 (by omega) (by omega) (by omega) (fun b hb => by have := hmuo b hb;omega))
  have c9 : X.cell? ⟨bx,0,none⟩ = some (.slice la r lc) := (hrow.cell? 0).trans rfl
  have f9 := hrow.frozen 0
  have c8 := hat.bonus
  have hrd9 := hrdL.below (Below.drew (Below.refl X.heap.size X))
  have hdr := Below.drew (Below.refl X.heap.size X)
  clear hJ0 hsame hrb hmuo s6' hv hown hrow hat hrM hrK hbel hxl hxd
  gi_wp2_with fail
  gi_region_with (first
   | (refine ⟨trivial,?_⟩;gi_at_call 25;refine (cK.out _ hrd9).mono ?_;rintro e w8 ⟨nv,rfl,hrd8,hfr8,hb8⟩;obtain ⟨n1,n2,n3,rfl⟩ := Rd.shape hrd8;have c9' := Bel.cellOf hb8 c9;have f9' := Bel.frozenOf hb8 c9 f9;have c8' := Bel.cellOf hb8 c8;have c9a := fun (o : Obj) => cell_alloc c9' o;obtain ⟨la7,lc7,w7,hr7,q1,q2,hfin⟩ := hstep.out w8 n1 n2 n3 (Bel.to hdr hb8) hrd8 hfr8;rw [app_shut] at hr7;replace hr7 := hide hr7;replace hfin := hide hfin)
   | (rw [hr7.out]))
  all_goals gi_wp2
  all_goals first | exact hfin.out _ rfl | exact ⟨rfl,hfin.out _ rfl⟩
 case done =>
  intro D W hD hJ hK
  obtain ⟨⟨lv,hrow,hown⟩,hat,hrdL,hrM,hrK,hbel⟩ := hJ
  obtain ⟨la,lc,rfl⟩ := hown.shape
  rw [List.length_map,List.length_range] at hrow hown
  have c9 : W.cell? ⟨bx,0,none⟩ = some (.slice la (choose SA.length k) lc) := (hrow.cell? 0).trans rfl
  gi_wp2
  have hn := hown.put (.deferred none) hK rfl
  have hB9 := below_put hbel (Nat.le_refl _) (Nat.le_trans B6.size hD) (.deferred none)
  have hx : (List.range (choose SA.length k)).map (fun r => (combS SA k r,SB)) = expL (sortI a) (sortI b) k := by rw [← hSA.out,← hSB.out];rfl
  rw [hx] at hn
  have hr9 := hn.lower (show w.heap.size ≤ W3.heap.size from Nat.le_trans hwsb (Nat.le_of_lt sS))
  refine ⟨by simp,.inl ⟨_,_,rfl,run_takeDeferred hK,?_⟩⟩
  rw [hC] at hr9
  exact ⟨_,results_tmp2 rfl _ _ _,_,rfl,hr9,hB9⟩
end Go.Proofs.YtelgllgaofjgjaaGreat
end

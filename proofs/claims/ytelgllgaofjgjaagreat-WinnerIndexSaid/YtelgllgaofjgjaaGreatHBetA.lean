/- Lemmas, merged out of smaller texts (wip/tools/mergedce.py). No condition. -/
import Derived.Deep.MidRow
import Derived.Test.YtelgllgaofjgjaaGreatHSysB
import Derived.Test.YtelgllgaofjgjaaGreatHLine
import Derived.Test.YtelgllgaofjgjaaGreatHRule
section
set_option linter.unusedVariables false
set_option linter.unusedSimpArgs false
namespace Go.Proofs.YtelgllgaofjgjaaGreat
def formG (g : GameD) (l : LineD) : LineD := if g.kind = 2 then l else (sortI l.1,sortI l.2)
def sizeB (g : GameD) (sys : Bool) (l : LineD) : Int × Int := if sys then sysP g l.1 l.2 else (1,lineE g l.1 l.2)
def scanB (g : GameD) (sys : Bool) : List LineD → List LineD → Int → Int × Int
 | [],_,t => (t,0)
 | l :: r,E,t => if (sizeB g sys l).2 ≠ 0 then (0,(sizeB g sys l).2) else if formG g l ∈ E then (0,6) else scanB g sys r (E ++ [formG g l]) (t + (sizeB g sys l).1)
structure BetD where
 lines : List LineD
 sys : Bool
 draws : Int
 addons : Int
def betP (g : GameD) (b : BetD) : Int × Int :=
 if gameE g ≠ 0 then (0,gameE g)
 else if b.lines.length < 1 ∨ 16 < b.lines.length then (0,3)
 else if (scanB g b.sys b.lines [] 0).2 ≠ 0 then (0,(scanB g b.sys b.lines [] 0).2)
 else if 1024 < (scanB g b.sys b.lines [] 0).1 then (0,3)
 else if b.draws < 1 ∨ g.draws < b.draws then (0,2)
 else if b.addons < 0 ∨ 2 ^ g.addons.length ≤ b.addons then (0,2)
 else ((scanB g b.sys b.lines [] 0).1,0)
def lineB (g : GameD) (sys : Bool) (l : LineD) : List LineD := if sys then expL (sortI l.1) (sortI l.2) g.main.toNat else [formG g l]
def linesB (g : GameD) (b : BetD) : List LineD := b.lines.flatMap (lineB g b.sys)
theorem size_lines {g : GameD} {sys : Bool} {l : LineD} (h : (sizeB g sys l).2 = 0) : (sizeB g sys l).1 = ((lineB g sys l).length : Int) ∧ (sizeB g sys l).1 ≤ 4000 := by
 unfold sizeB lineB at *
 cases sys with
 | false => exact ⟨rfl,by simp⟩
 | true =>
  simp only [if_true] at h ⊢
  unfold sysP at h ⊢
  by_cases he : sysE g l.1 l.2 = 0
  ·rw [if_pos he] at h ⊢
   rw [expL_len,sortI_len]
   refine ⟨rfl,?_⟩
   obtain ⟨g1,g2,g3,g4,g5,g6,g7,g8⟩ := sysE_ok he
   obtain ⟨f1,f2,f3,f4,f5,f6,f7,f8,f9⟩ := sys_bounds g1
   have hs := choose_small (n := l.1.length) (k := g.main.toNat) (by omega)
   show ((choose l.1.length g.main.toNat : Nat) : Int) ≤ 4000
   omega
  ·rw [if_neg he] at h;exact absurd h he
theorem scan_lines {g : GameD} {sys : Bool} {ls E : List LineD} {t : Int} (h : (scanB g sys ls E t).2 = 0) :
  (scanB g sys ls E t).1 = t + ((ls.flatMap (lineB g sys)).length : Int) ∧ ∀ l ∈ ls,(sizeB g sys l).2 = 0 := by
 induction ls generalizing E t with
 | nil => rw [scanB];exact ⟨by simp,fun l hl => by cases hl⟩
 | cons l r ih =>
  rw [scanB] at h ⊢
  by_cases h1 : (sizeB g sys l).2 = 0
  ·rw [if_neg (by simpa using h1)] at h ⊢
   by_cases h2 : formG g l ∈ E
   ·rw [if_pos h2] at h;exact absurd h (by simp)
   ·rw [if_neg h2] at h ⊢
    obtain ⟨a,b⟩ := ih h
    refine ⟨?_,fun x hx => ?_⟩
    ·rw [a,(size_lines h1).1,List.flatMap_cons,List.length_append];omega
    ·rcases List.mem_cons.1 hx with rfl | hx
     ·exact h1
     ·exact b x hx
  ·rw [if_pos (by simpa using h1)] at h
   exact absurd h h1
theorem betP_ok {g : GameD} {b : BetD} (h : (betP g b).2 = 0) : gameE g = 0 ∧ 1 ≤ b.lines.length ∧ b.lines.length ≤ 16 ∧ (betP g b).1 = ((linesB g b).length : Int) ∧ (linesB g b).length ≤ 1024 ∧ 1 ≤ b.draws ∧ b.draws ≤ g.draws ∧ 0 ≤ b.addons ∧ b.addons < 2 ^ g.addons.length ∧ ∀ l ∈ b.lines,(sizeB g b.sys l).2 = 0 := by
 unfold betP at h ⊢
 by_cases h1 : gameE g = 0
 ·rw [if_neg (by simpa using h1)] at h ⊢
  by_cases h2 : b.lines.length < 1 ∨ 16 < b.lines.length
  ·rw [if_pos h2] at h;exact absurd h (by simp)
  ·rw [if_neg h2] at h ⊢
   by_cases h3 : (scanB g b.sys b.lines [] 0).2 = 0
   ·rw [if_neg (by simpa using h3)] at h ⊢
    obtain ⟨a,c⟩ := scan_lines h3
    rw [Int.zero_add] at a
    by_cases h4 : 1024 < (scanB g b.sys b.lines [] 0).1
    ·rw [if_pos h4] at h;exact absurd h (by simp)
    ·rw [if_neg h4] at h ⊢
     by_cases h5 : b.draws < 1 ∨ g.draws < b.draws
     ·rw [if_pos h5] at h;exact absurd h (by simp)
     ·rw [if_neg h5] at h ⊢
      by_cases h6 : b.addons < 0 ∨ 2 ^ g.addons.length ≤ b.addons
      ·rw [if_pos h6] at h;exact absurd h (by simp)
      ·rw [if_neg h6]
       exact ⟨h1,by omega,by omega,a,by unfold linesB;omega,by omega,by omega,by omega,by omega,c⟩
   ·rw [if_pos (by simpa using h3)] at h;exact absurd h h3
 ·rw [if_pos (by simpa using h1)] at h;exact absurd h h1
theorem addonsGo_ok {seen l : List AddonD} (h : addonsGo seen l = 0) : ∀ a ∈ l,addonE a = 0 := by
 induction l generalizing seen with
 | nil => intro a ha;cases ha
 | cons x r ih =>
  rw [addonsGo] at h
  by_cases h1 : addonE x = 0
  ·rw [if_neg (by simpa using h1)] at h
   split at h
   ·exact absurd h (by simp)
   ·intro a ha
    rcases List.mem_cons.1 ha with rfl | ha
    ·exact h1
    ·exact ih h a ha
  ·rw [if_pos (by simpa using h1)] at h;exact absurd h h1
theorem game_addons {g : GameD} (h : gameE g = 0) : g.addons.length ≤ 4 ∧ ∀ a ∈ g.addons,addonE a = 0 := by
 unfold gameE at h
 repeat (split at h;· exact absurd h (by simp))
 split at h
 ·rename_i h1;exact absurd h h1
 ·rename_i h1
  have h2 : addonsE g.addons = 0 := by simpa using h1
  unfold addonsE at h2
  split at h2
  ·exact absurd h2 (by simp)
  ·exact ⟨by omega,addonsGo_ok h2⟩
theorem mask_shift {x : Int} {k m : Nat} (h0 : ¬ x < 0) (hm : m = k) (hk : k ≤ 4) : (2 ^ k ≤ x → (x / 2 ^ m != 0) = true) ∧ (¬ 2 ^ k ≤ x → (x / 2 ^ m != 0) = false) := by
 rw [hm]
 have hk2 : (0 : Int) < 2 ^ k := Int.pow_pos (by omega)
 refine ⟨fun h => ?_,fun h => ?_⟩
 ·have : x / 2 ^ k ≠ 0 := by
   have := (Int.le_ediv_iff_mul_le (a := 1) (b := x) hk2).2 (by omega)
   omega
  simpa using this
 ·have : x / 2 ^ k = 0 := Int.ediv_eq_zero_of_lt (by omega) (by omega)
  simpa using this
end Go.Proofs.YtelgllgaofjgjaaGreat
end
section
open Go.RowKit
set_option linter.unusedVariables false
set_option linter.unusedSimpArgs false
namespace Go.Proofs.YtelgllgaofjgjaaGreat
theorem flatMap_LnV_len (vs : List (Value × Value)) : (vs.flatMap LnV).length = vs.length * 2 := by
 induction vs with
 | nil => rfl
 | cons p r ih => rw [List.flatMap_cons,List.length_append,ih,List.length_cons];show 2 + _ = _;omega
section
variable {P : Program} (w : World)
theorem run_append_lns (base base2 : Nat) (t ty : TypeId) (z : Value) (bytes : Nat) (ht : P.underlying t = some (.slice 53)) (hi : (P.info? 53).map (fun i => (i.zero,i.size,i.bytes)) = some (some z,2,bytes)) (hzs : z.cells.size = 2)
  (v : Value) (ls : List LineD) (hown : OwnLn w base v ls) (u : Value) (ls2 : List LineD) (hown2 : OwnLn w base2 u ls2) (hne : ls2 ≠ []) (hb : base ≤ base2) (hv : ∀ k,v.ownBlock = some k → k < base2)
  (hone : ∀ vs : List (Value × Value),(∀ p ∈ vs,p.1.oneCell' = true ∧ p.2.oneCell' = true) → True)
  (h63 : ls.length + ls2.length ≤ 9223372036854775807) (hbytes : (ls.length + ls2.length) * bytes ≤ 140737488355328) (hbase : base ≤ w.heap.size) :
  ∃ v' w',(Builtin.append_ #[t,t] ty #[v,u]).run P w = .ok v' w' ∧ OwnLn w' base v' (ls ++ ls2) ∧ w.grownBy w' v.ownBlock := by
 obtain ⟨i,hi,hz,hs,hby⟩ := info_parts hi
 obtain ⟨vs,h1,h2,h3⟩ := hown
 obtain ⟨us,k1,k2,k3⟩ := hown2
 have hus : us.length ≠ 0 := by rw [k2];exact fun e => hne (List.eq_nil_of_length_eq_zero e)
 have hk := k1
 rcases k1.2 with ⟨rfl,h0⟩ | ⟨g,cap,cur,rfl,hg,hh,hnc,hcm,hsz,htk⟩
 ·exact absurd h0 hus
 ·have hall : ∀ (i : Nat) p,us[i]? = some p → p.1.oneCell' = true ∧ p.2.oneCell' = true := by
   intro i p hp
   have hil : i < ls2.length := by rw [← k2];exact (List.getElem?_eq_some_iff.1 hp).1
   obtain ⟨⟨⟨a1,c1,e1,_⟩,⟨a2,c2,e2,_⟩⟩,_⟩ := k3 i p _ hp (List.getElem?_eq_getElem hil)
   rw [e1,e2]
   exact ⟨rfl,rfl⟩
  obtain ⟨v',w',e1,e2,e3,_,e5⟩ := run_append_own_at (P := P) w base t ty _ i z 2 bytes ht hi hz hs hby hzs (by omega) v vs.length (vs.flatMap LnV) h1 ⟨g,0,none⟩ us.length cap (us.flatMap LnV) (by rw [flatMap_LnV_len])
   (by
    intro j x hj
    have hjl : j < us.length * 2 := by rw [← flatMap_LnV_len];exact (List.getElem?_eq_some_iff.1 hj).1
    have := (hk.cellAt j hjl).trans hj
    unfold Addr.add
    split
    ·next h0 => subst h0;exact this
    ·simpa using this)
   (by
    intro x hx
    obtain ⟨p,hp,hxp⟩ := List.mem_flatMap.1 hx
    obtain ⟨i,hil,rfl⟩ := List.getElem_of_mem hp
    obtain ⟨o1,o2⟩ := hall i _ (List.getElem?_eq_getElem hil)
    simp [LnV] at hxp
    rcases hxp with rfl | rfl <;> assumption)
   (by unfold maxLen;omega) (by rw [h2,k2];exact hbytes) hbase
  have hap : ∀ {u : Value} {l : List Int},Rd I64 w u l → Ap u v l → Rd I64 w' u l ∧ Ap u v' l := by
   intro u l hr ha
   refine ⟨hr.grownA e3 ha,?_⟩
   rcases e5 with e5 | e5
   ·unfold Ap;rw [e5];exact ha
   ·exact ap_of (k := 0) hr e5
  have hfr : ∀ {u : Value} {l : List Int},Fr base2 u l → Ap u v l := by
   intro u l hf
   rcases hf with hf | ⟨k,h8,h9⟩
   ·exact .inl hf
   ·exact .inr (fun e => by rw [h8] at e;have := hv k e.symm;omega)
  refine ⟨v',w',e1,⟨vs ++ us,?_,by simp [h2,k2],fun i p x hp hx => ?_⟩,e3⟩
  ·rw [List.flatMap_append]
   simpa using e2
  ·by_cases hiv : i < vs.length
   ·rw [List.getElem?_append_left hiv] at hp
    rw [List.getElem?_append_left (by omega)] at hx
    obtain ⟨⟨a1,a2⟩,b1,b2,c1,c2⟩ := h3 i p x hp hx
    obtain ⟨q1,q2⟩ := hap a1 c1
    obtain ⟨q3,q4⟩ := hap a2 c2
    exact ⟨⟨q1,q3⟩,b1,b2,q2,q4⟩
   ·rw [List.getElem?_append_right (by omega)] at hp hx
    rw [show i - ls.length = i - vs.length by omega] at hx
    obtain ⟨⟨a1,a2⟩,b1,b2,c1,c2⟩ := k3 _ p x hp hx
    obtain ⟨q1,q2⟩ := hap a1 (hfr b1)
    obtain ⟨q3,q4⟩ := hap a2 (hfr b2)
    exact ⟨⟨q1,q3⟩,b1.mono hb,b2.mono hb,q2,q4⟩
theorem wpList_append_lns {ops : Array Oper} {rest : List Oper} {o : Oper} {A : Act} {Q : Exit → Act → World → Prop} (hgd : o.guard = none) (s x : Operand) (t : TypeId)
  (ho : o.op = .call { callee := .builtin .append,args := #[s,x],argTypes := #[t,t] })
  (base base2 : Nat) (z : Value) (bytes : Nat) (ht : P.underlying t = some (.slice 53)) (hi : (P.info? 53).map (fun i => (i.zero,i.size,i.bytes)) = some (some z,2,bytes)) (hzs : z.cells.size = 2)
  (v : Value) (ls : List LineD) (hs : A.eval s = v) (hown : OwnLn w base v ls) (u : Value) (ls2 : List LineD) (hx : A.eval x = u) (hown2 : OwnLn w base2 u ls2) (hne : ls2 ≠ []) (hb : base ≤ base2) (hv : ∀ k,v.ownBlock = some k → k < base2)
  (h63 : ls.length + ls2.length ≤ 9223372036854775807) (hbytes : (ls.length + ls2.length) * bytes ≤ 140737488355328) (hbase : base ≤ w.heap.size)
  (hK : ∀ v' w',OwnLn w' base v' (ls ++ ls2) → w.grownBy w' v.ownBlock → wpList P ops Q rest (A.put o.dst v') w') : wpList P ops Q (o :: rest) A w := by
 refine wpList_plain hgd fun K hK' => ?_
 obtain ⟨v',w',hr,h2,h3⟩ := run_append_lns (P := P) w base base2 t o.type z bytes ht hi hzs v ls hown u ls2 hown2 hne hb hv (fun _ _ => trivial) h63 hbytes hbase
 unfold Oper.wp execOp
 simp only [ho,resolve,invoke,builtin,Sem.run_bind,Sem.run_pure,Result.andThen_ok,List.map_toArray,List.map_cons,List.map_nil,hs,hx,hr]
 exact hK' _ _ (hK v' w' h2 h3)
end
theorem rangeAt_keep15 {X Y : World} {b off : Nat} {cs : List Value} (h : X.rangeAt b off cs) (hb : Below X.heap.size X Y) : Y.rangeAt b off cs := fun j v hv => Bel.cellOf hb (h j v hv)
set_option maxHeartbeats 1000000 in
set_option maxRecDepth 100000 in
theorem sequal_any (va vb : Value) (la lb : List Int) (w : World) (ha : Rd I64 w va la) (hb : Rd I64 w vb lb) :
  Calls Tryz.prog 77 #[va,vb] w (BoolB (decide (la = lb)) w) := by
 obtain ⟨aa,ca,rfl,hla,hca,hra⟩ := Rd.form ha
 obtain ⟨ab,cb,rfl,hlb,hcb,hrb⟩ := Rd.form hb
 have hca' : ca ≤ 9223372036854775807 := by unfold maxLen at hca;omega
 have hcb' : cb ≤ 9223372036854775807 := by unfold maxLen at hcb;omega
 by_cases hl : la.length = lb.length
 ·have l3 : ((la.length : Int) != lb.length) = false := by simp;omega
  have l1 : la.length ≤ lb.length := by omega
  have l2 : lb.length ≤ la.length := by omega
  replace hl := hide hl
  go_enter Tryz.func77,Tryz.ntmps77
  go_wp2
  go_loopw [5,13] (fun _ i wr => ∃ (k d : Nat),k ≤ la.length ∧ i = .int .i64 k ∧ wr = w.drewN d ∧ Hid (la.take k = lb.take k)) (fun _ i _ => la.length - (intOf i).toNat)
  case atStart => exact ⟨0,0,Nat.zero_le _,rfl,rfl,rfl⟩
  case round =>
   obtain ⟨k,d,hk,rfl,rfl,htk⟩ := hrel
   by_cases hkl : k < la.length
   ·have hk2 : k < lb.length := by omega
    obtain ⟨ba,offa,rfl,hba,hcella⟩ := hra.at_ hkl
    obtain ⟨bb,offb,rfl,hbb,hcellb⟩ := hrb.at_ hk2
    have c1 := hcella _ hkl
    have c2 := hcellb _ hk2
    clear hcella hcellb
    have i1 : (0 : Int) ≤ (k : Int) := by omega
    have i2 : (k : Int) < (la.length : Int) := by omega
    have i3 : (k : Int) < (lb.length : Int) := by omega
    by_cases he : la[k] = lb[k]
    ·have hb1 : (la[k] != lb[k]) = false := by simpa using he
     replace he := hide he
     go_wp2
     go_quiet (fail)
     go_wp2
     go_roundw
     case rel =>
      refine ⟨k + 1,_,by omega,by go_num,rfl,?_⟩
      show _ = _
      rw [take_snoc3 la k hkl,take_snoc3 lb k hk2,he.out,htk.out]
     case measure => simp [intOf];omega
    ·have hb1 : (la[k] != lb[k]) = true := by simpa using he
     have hne : decide (la = lb) = false := by
      apply decide_eq_false
      intro h
      subst h
      exact he rfl
     replace hne := hide hne
     go_wp2
     go_quiet (fail)
     go_wp2
     go_ret
     exact ⟨by rw [hne.out];rfl,Bel.drN (Bel.drN (Below.refl _ _) _) _⟩
   ·have hkk : k = la.length := by omega
    have heq : decide (la = lb) = true := by
     apply decide_eq_true
     have := htk.out
     rw [List.take_of_length_le (by omega),List.take_of_length_le (by omega)] at this
     exact this
    replace heq := hide heq
    replace hkk := hide hkk
    go_wp2
    go_ret
    exact ⟨by rw [heq.out];rfl,Bel.drN (Below.refl _ _) _⟩
 ·have l3 : ((la.length : Int) != lb.length) = true := by simp;omega
  have hne : decide (la = lb) = false := by
   apply decide_eq_false
   intro h
   exact hl (by rw [h])
  rw [hne]
  clear hl hne
  go_enter Tryz.func77,Tryz.ntmps77
  go_wp2
  go_ret
  exact ⟨rfl,Below.refl _ _⟩
set_option maxHeartbeats 2000000 in
set_option maxRecDepth 100000 in
theorem bequal_any (m1 b1 m2 b2 : Value) (a b c d : List Int) (w : World) (h1 : LineR w m1 b1 a b) (h2 : LineR w m2 b2 c d) :
  Calls Tryz.prog 54 #[lineVal m1 b1,lineVal m2 b2] w (BoolB (decide (a = c ∧ b = d)) w) := by
 have cA := hide (fun X (hX : Below w.heap.size w X) => sequal_any m1 m2 a c X (h1.1.below hX) (h2.1.below hX))
 have cB := hide (fun X (hX : Below w.heap.size w X) => sequal_any b1 b2 b d X (h1.2.below hX) (h2.2.below hX))
 obtain ⟨s1,n1,k1,rfl⟩ := Rd.shape h1.1
 obtain ⟨s2,n2,k2,rfl⟩ := Rd.shape h1.2
 obtain ⟨s3,n3,k3,rfl⟩ := Rd.shape h2.1
 obtain ⟨s4,n4,k4,rfl⟩ := Rd.shape h2.2
 clear h1 h2
 obtain ⟨p,hp⟩ : ∃ p,p = decide (a = c) := ⟨_,rfl⟩
 obtain ⟨q,hq⟩ : ∃ q,q = decide (b = d) := ⟨_,rfl⟩
 have hr : decide (a = c ∧ b = d) = (p && q) := by rw [hp,hq,Bool.decide_and]
 rw [hr]
 rw [← hp] at cA
 rw [← hq] at cB
 clear hp hq hr
 unfold lineVal
 go_enter Tryz.func54,Tryz.ntmps54
 go_upto_region 1 with (fail)
 obtain ⟨W,hW⟩ : ∃ W,W = ((w.alloc (Obj.cells #[(.slice s1 n1 k1),(.slice s2 n2 k2)] 53)).alloc (Obj.cells #[(.slice s3 n3 k3),(.slice s4 n4 k4)] 53)) := ⟨_,rfl⟩
 have bW : Below w.heap.size w W := by rw [hW];exact Bel.al (Bel.al (Below.refl _ _) _) _
 have r0 : LineAt W (w.heap.size) ((.slice s1 n1 k1)) ((.slice s2 n2 k2)) := by rw [hW];exact Row.alloc (Row.new _ _ _) _
 have r1 : LineAt W (w.heap.size + 1) ((.slice s3 n3 k3)) ((.slice s4 n4 k4)) := by rw [hW];exact Row.at2 _ _ _ _
 have sW : w.heap.size + 1 < W.heap.size := by rw [hW];simp
 rw [← hW]
 clear hW
 have c0 := r0.main
 have c2 := r1.main
 go_wp2_with fail
 refine (cA.out _ bW).mono ?_
 rintro e w1 ⟨rfl,hb1⟩
 have d1 := (r0.keep hb1).bonus
 have d3 := (r1.keep hb1).bonus
 have B1 := Bel.to bW hb1
 clear c0 c2 r0 r1 hb1
 cases p
 ·go_wp2
  go_ret
  exact ⟨rfl,B1⟩
 ·go_wp2_with fail
  refine (cB.out _ B1).mono ?_
  rintro e w2 ⟨rfl,hb2⟩
  go_wp2
  go_ret
  exact ⟨rfl,Bel.to B1 hb2⟩
theorem same_closure (cb : Nat) (mv bv m1 b1 : Value) (a b c d : List Int) (w : World) (h : LineR w mv bv a b) (hb : LineAt w cb m1 b1) (h1 : LineR w m1 b1 c d) :
  Calls Tryz.prog 53 #[lineVal mv bv,.pointer (some ⟨cb,0,none⟩)] w (BoolB (decide (a = c ∧ b = d)) w) := by
 have hlt := Row.lt hb
 have cE := hide (fun X (hX : Below w.heap.size w X) => bequal_any mv bv m1 b1 a b c d X (h.below hX) (h1.below hX))
 obtain ⟨s1,n1,k1,rfl⟩ := Rd.shape h.1
 obtain ⟨s2,n2,k2,rfl⟩ := Rd.shape h.2
 obtain ⟨s3,n3,k3,rfl⟩ := Rd.shape h1.1
 obtain ⟨s4,n4,k4,rfl⟩ := Rd.shape h1.2
 obtain ⟨p,hp⟩ : ∃ p,p = decide (a = c ∧ b = d) := ⟨_,rfl⟩
 rw [← hp] at cE ⊢
 have hb := hide hb
 clear hp h h1
 unfold lineVal at cE ⊢
 go_enter Tryz.func53,Tryz.ntmps53
 go_upto_region 1 with (fail)
 obtain ⟨W,hW⟩ : ∃ W,W = w.alloc (Obj.cells #[(.slice s1 n1 k1),(.slice s2 n2 k2)] 53) := ⟨_,rfl⟩
 have bW : Below w.heap.size w W := by rw [hW];exact Bel.al (Below.refl _ _) _
 have r0 : LineAt W (w.heap.size) ((.slice s1 n1 k1)) ((.slice s2 n2 k2)) := by rw [hW];exact Row.new _ _ _
 have r1 : LineAt W cb (.slice s3 n3 k3) (.slice s4 n4 k4) := hb.out.keep bW
 rw [← hW]
 clear hW
 go_wp2_with (first | (refine wpList_load_row rfl 53 _ rfl _ rfl _ _ _ _ r0 Tryz.underlying53 rfl (by kernel_rfl) ?_) | (refine wpList_load_row rfl 53 _ rfl _ rfl _ _ _ _ r1 Tryz.underlying53 rfl (by kernel_rfl) ?_) | fail)
 refine (cE.out _ bW).mono ?_
 rintro e w1 ⟨rfl,hb1⟩
 go_wp2
 go_ret
 exact ⟨rfl,Bel.to bW hb1⟩
def idxL (c : LineD) : List LineD → Nat → Int
 | [],_ => -1
 | l :: r,k => if l.1 = c.1 ∧ l.2 = c.2 then (k : Int) else idxL c r (k + 1)
theorem idxL_mem (c : LineD) (ls : List LineD) (k : Nat) : decide (0 ≤ idxL c ls k) = decide (c ∈ ls) := by
 induction ls generalizing k with
 | nil => rw [idxL];simp
 | cons l r ih =>
  rw [idxL]
  by_cases h : l.1 = c.1 ∧ l.2 = c.2
  ·rw [if_pos h]
   have : c = l := (Prod.ext h.1 h.2).symm
   rw [decide_eq_true (by omega),decide_eq_true (by rw [this];exact List.mem_cons_self)]
  ·rw [if_neg h,ih (k + 1)]
   refine decide_eq_decide.2 ⟨fun hm => List.mem_cons_of_mem l hm,fun hm => ?_⟩
   rcases List.mem_cons.1 hm with e | e
   ·exact absurd ⟨by rw [e],by rw [e]⟩ h
   ·exact e
set_option maxHeartbeats 4000000 in
set_option maxRecDepth 100000 in
theorem index16_any (v : Value) (ls : List LineD) (cb : Nat) (m1 b1 : Value) (c : LineD) (w : World) (h : LinesR w v ls) (hb : LineAt w cb m1 b1) (h1 : LineR w m1 b1 c.1 c.2) :
  Calls Tryz.prog 83 #[v,.func (.func 53) #[] #[.pointer (some ⟨cb,0,none⟩)]] w (IntB (idxL c ls 0) w) := by
 obtain ⟨R,hR⟩ : ∃ R,R = idxL c ls 0 := ⟨_,rfl⟩
 rw [← hR]
 obtain ⟨a1,c1,rfl,hc1,hm1⟩ := h.shape
 unfold maxLen at hm1
 have hh := hide h
 have hc := hide (fun X (mv bv : Value) (l : LineD) (hX : Below w.heap.size w X) (hl : LineR X mv bv l.1 l.2) => same_closure cb mv bv m1 b1 l.1 l.2 c.1 c.2 X hl (hb.keep hX) (h1.below hX))
 have hR0 := hide (show idxL c (ls.drop 0) 0 = R by rw [List.drop_zero,hR])
 obtain ⟨n,hn⟩ : ∃ n,n = ls.length := ⟨_,rfl⟩
 rw [← hn] at hc1 hh ⊢
 have hn9 : n ≤ 9223372036854775807 := by omega
 replace hn := hide hn
 clear h hb h1 hR
 go_enter Tryz.func83,Tryz.ntmps83
 go_wp2
 go_loopg [5,8] n (fun gh _ t wr => ∃ k : Nat,gh = n - k ∧ k ≤ n ∧ t = .int .i64 (k : Int) ∧ Hid (idxL c (ls.drop k) k = R) ∧ Below w.heap.size w wr)
 case atStart => exact ⟨0,rfl,Nat.zero_le _,rfl,hR0,Below.refl _ _⟩
 case round =>
  obtain ⟨k,hgh,hk,rfl,hI,hB⟩ := hrel
  replace hgh := hide hgh
  by_cases hlt : k < n
  ·have hlt2 := hide hlt
   have hlk : k < ls.length := by rw [← hn.out];exact hlt
   obtain ⟨b0,off0,p,q,rfl,hb0,x1,y1,hl⟩ := (hh.out.below hB).at_ hlk
   have cC := hide (hc.out wr p q ls[k] hB hl)
   have hI2 := hI.out
   rw [List.drop_eq_getElem_cons hlk,idxL] at hI2
   obtain ⟨s1,n1,k1,rfl⟩ := Rd.shape hl.1
   obtain ⟨s2,n2,k2,rfl⟩ := Rd.shape hl.2
   have hrange : wr.rangeAt b0 (off0 + k * 2) [.slice s1 n1 k1,.slice s2 n2 k2] := by
    intro j v hv
    match j,hv with
    | 0,hv => simp at hv;subst hv;exact x1
    | 1,hv => simp at hv;subst hv;exact y1
   obtain ⟨p,hp⟩ : ∃ p,p = decide (ls[k].1 = c.1 ∧ ls[k].2 = c.2) := ⟨_,rfl⟩
   rw [← hp] at cC
   have j1 : (0 : Int) ≤ (k : Int) := by omega
   have j2 : (k : Int) < (n : Int) := by omega
   unfold lineVal at cC
   clear hl x1 y1
   go_wp2_with (first | (refine wpList_load_mid rfl 53 _ rfl b0 (off0 + k * 2) rfl [.slice s1 n1 k1,.slice s2 n2 k2] _ hrange Tryz.underlying53 rfl (by kernel_rfl) ?_) | fail)
   refine cC.out.mono ?_
   rintro e w3 ⟨rfl,hb3⟩
   have B3 := Bel.to hB hb3
   clear hb3 hB cC
   cases p
   ·rw [if_neg (of_decide_eq_false hp.symm)] at hI2
    replace hI2 := hide hI2
    replace hp := hide hp
    go_wp2
    go_roundg (n - (k + 1))
    case measure => have := hgh.out;have := hlt2.out;omega
    case rel => exact ⟨k + 1,rfl,by have := hlt2.out;omega,by go_num,hI2,B3⟩
   ·rw [if_pos (of_decide_eq_true hp.symm)] at hI2
    replace hI2 := hide hI2
    replace hp := hide hp
    go_wp2
    go_ret
    exact ⟨by rw [← hI2.out];rfl,B3⟩
  ·have hk2 : k = ls.length := by have := hn.out;omega
   have hI2 := hI.out
   rw [hk2,List.drop_length,idxL] at hI2
   replace hI2 := hide hI2
   replace hk2 := hide hk2
   have j2 : ¬ (k : Int) < (n : Int) := by omega
   go_wp2
   go_ret
   exact ⟨by rw [← hI2.out];rfl,hB⟩
theorem contains16_any (v : Value) (ls : List LineD) (cb : Nat) (m1 b1 : Value) (c : LineD) (w : World) (h : LinesR w v ls) (hb : LineAt w cb m1 b1) (h1 : LineR w m1 b1 c.1 c.2) :
  Calls Tryz.prog 55 #[v,.func (.func 53) #[] #[.pointer (some ⟨cb,0,none⟩)]] w (BoolB (decide (c ∈ ls)) w) := by
 have hm := idxL_mem c ls 0
 have hc := hide (index16_any v ls cb m1 b1 c w h hb h1)
 obtain ⟨a1,c1,rfl,hc1,hm1⟩ := h.shape
 obtain ⟨R,hR⟩ : ∃ R,R = idxL c ls 0 := ⟨_,rfl⟩
 rw [← hR] at hm hc
 rw [← hm]
 clear hm hR h hb h1
 go_enter Tryz.func55,Tryz.ntmps55
 go_wp2_with fail
 refine hc.out.mono ?_
 rintro e w1 ⟨rfl,hb1⟩
 go_wp2
 go_ret
 exact ⟨rfl,hb1⟩
set_option maxHeartbeats 4000000 in
set_option maxRecDepth 100000 in
theorem bcanon_digits (g : GameD) (av tv mv bv : Value) (ms : List AddonM) (a b : List Int) (w : World) (hg : GameR w av tv ms g) (h : LineR w mv bv a b) (ha : a.length ≤ 1000) (hb : b.length ≤ 1000) (hk : g.kind = 2) :
  Calls Tryz.prog 28 #[gameVal g av tv,lineVal mv bv] w (LineF a b w) := by
 have hh := hide h
 obtain ⟨aa,ac,rfl,hal,ham⟩ := hg.1.1.shape
 obtain ⟨ta,tc,rfl,htl,htm⟩ := hg.2.2.shape
 obtain ⟨ma,mc,rfl,hma,hmc,-⟩ := h.1.form
 obtain ⟨ba,bc,rfl,hba,hbc,-⟩ := h.2.form
 clear h hg
 have hkb : (g.kind == 2) = true := by simpa using hk
 replace hk := hide hk
 have cA := hide (fun X (hX : LineR X (.slice ma a.length mc) (.slice ba b.length bc) a b) => sclone15_any _ a X hX.1 ha)
 have cB := hide (fun X (hX : LineR X (.slice ma a.length mc) (.slice ba b.length bc) a b) => sclone15_any _ b X hX.2 hb)
 clear ha hb
 unfold lineVal gameVal
 go_enter Tryz.func28,Tryz.ntmps28
 go_upto_region 1 with (fail)
 obtain ⟨W,hW⟩ : ∃ W,W = (((w.alloc (Obj.cells #[.string g.name,.int .i64 g.kind,.int .i64 g.price,.int .i64 g.main,.int .i64 g.of,.int .i64 g.bonus,.int .i64 g.bonusOf,.int .i64 g.extra,.int .i64 g.draws,.int .i64 g.system,.int .i64 g.days,.int .i64 g.at_,.int .i64 g.close,.int .i64 g.cancel,.int .i64 g.expiry,.int .i64 g.pool,.int .i64 g.reserve,.int .i64 g.round,.int .i64 g.cap,.int .i64 g.rolls,(.slice aa ms.length ac),(.slice ta g.tiers.length tc)] 25)).alloc (Obj.cells #[(.slice ma a.length mc),(.slice ba b.length bc)] 53)).alloc (Obj.cells #[(.slice none 0 0),(.slice none 0 0)] 53)) := ⟨_,rfl⟩
 have bW : Below w.heap.size w W := by rw [hW];exact Bel.al (Bel.al (Bel.al (Below.refl _ _) _) _) _
 have r0 : GameAt W (w.heap.size) g ((.slice aa ms.length ac)) ((.slice ta g.tiers.length tc)) := by rw [hW];exact Row.alloc (Row.alloc (Row.new _ _ _) _) _
 have r1 : LineAt W (w.heap.size + 1) ((.slice ma a.length mc)) ((.slice ba b.length bc)) := by rw [hW];exact Row.alloc (Row.at2 _ _ _ _) _
 have r2 : LineAt W (w.heap.size + 1 + 1) ((.slice none 0 0)) ((.slice none 0 0)) := by rw [hW];exact Row.at3 _ _ _ _ _
 have sW : w.heap.size + 1 + 1 < W.heap.size := by rw [hW];simp
 rw [← hW]
 clear hW
 have d1 := r0.kind
 go_upto_region 2 with (fail)
 clear r0
 have c0 := r1.main
 have c1 := r1.bonus
 have hl0 := hide (fun X (hX : Below w.heap.size w X) => hh.out.below hX)
 have k0 := hide (fun X (hX : Below W.heap.size W X) => (r1.keep hX).main)
 have k1 := hide (fun X (hX : Below W.heap.size W X) => (r1.keep hX).bonus)
 have k2 := hide (fun X (hX : Below W.heap.size W X) => (r2.keep hX).main)
 have k3 := hide (fun X (hX : Below W.heap.size W X) => (r2.keep hX).bonus)
 have k4 := hide (fun X (hX : Below W.heap.size W X) => Row.frozen (r2.keep hX) 0)
 have k5 := hide (fun X (hX : Below W.heap.size W X) => Row.frozen (r2.keep hX) 1)
 have bd : Below W.heap.size W W.drew := Below.drew (Below.refl _ _)
 go_region_held3 (fun X => X.cell? ⟨w.heap.size + 1,0,none⟩ = some (.slice ma a.length mc) ∧ X.cell? ⟨w.heap.size + 1,1,none⟩ = some (.slice ba b.length bc)) (go_keep) (first
  | (go_at_call 25;(with_reducible refine (cA.out _ ?_).mono ?_);(first | exact hl0.out _ (Bel.to bW bB) | exact hl0.out _ (Bel.to bW bd));rintro e wa ⟨ua,rfl,hua,fua,hba⟩;obtain ⟨xa,na,ka,rfl⟩ := Rd.shape hua;have bA : Below W.heap.size W wa := (by first | exact Bel.to bB hba | exact Bel.to bd hba);have c0 := k0.out _ bA;have c1 := k1.out _ bA;have c2 := k2.out _ bA;have c3 := k3.out _ bA;have c4 := k4.out _ bA;have c5 := k5.out _ bA;(try have hub := hub.below hba);have fua := hide (Fr.mono fua (by first | exact (Bel.to bW bB).size | exact (Bel.to bW bd).size)))
  | (go_at_call 25;(with_reducible refine (cB.out _ ?_).mono ?_);(first | exact hl0.out _ (Bel.to bW bA) | exact hl0.out _ (Bel.to bW bd));rintro e wb ⟨ub,rfl,hub,fub,hbb⟩;obtain ⟨xb,nb,kb,rfl⟩ := Rd.shape hub;have bB : Below W.heap.size W wb := (by first | exact Bel.to bA hbb | exact Bel.to bd hbb);have c0 := k0.out _ bB;have c1 := k1.out _ bB;have c2 := k2.out _ bB;have c3 := k3.out _ bB;have c4 := k4.out _ bB;have c5 := k5.out _ bB;(try have hua := hua.below hbb);have fub := hide (Fr.mono fub (by first | exact (Bel.to bW bA).size | exact (Bel.to bW bd).size))))
 have hua2 := (hua.setNe c2 (fun _ h => by cases h) (.slice xa na ka)).setNe (p := ⟨w.heap.size + 2,1,none⟩) (c := .slice none 0 0) (by go_simp) (fun _ h => by cases h) (.slice xb nb kb)
 have hub2 := (hub.setNe c2 (fun _ h => by cases h) (.slice xa na ka)).setNe (p := ⟨w.heap.size + 2,1,none⟩) (c := .slice none 0 0) (by go_simp) (fun _ h => by cases h) (.slice xb nb kb)
 have bfin : Below w.heap.size w ((wb.setCell ⟨w.heap.size + 2,0,none⟩ (.slice xa na ka)).setCell ⟨w.heap.size + 2,1,none⟩ (.slice xb nb kb)) := Bel.st (Bel.st (Bel.to bW bB) (by simp) _) (by simp) _
 go_wp2
 exact bodyPost_ret (v := .agg #[.slice xa na ka,.slice xb nb kb]) (by simp [results,Tryz.results28,go_sem,c2,c3]) rfl ⟨_,_,rfl,⟨hua2,hub2⟩,fua.out,fub.out,bfin⟩
set_option maxHeartbeats 4000000 in
set_option maxRecDepth 100000 in
theorem bcanon_choose (g : GameD) (av tv mv bv : Value) (ms : List AddonM) (a b : List Int) (w : World) (hg : GameR w av tv ms g) (h : LineR w mv bv a b) (ha : a.length ≤ 1000) (hb : b.length ≤ 1000) (hk : g.kind ≠ 2) :
  Calls Tryz.prog 28 #[gameVal g av tv,lineVal mv bv] w (LineF (sortI a) (sortI b) w) := by
 have cC := hide (fun X (hX : Below w.heap.size w X) => mcanon_fr mv bv a b X (h.below hX) ha hb)
 obtain ⟨aa,ac,rfl,hal,ham⟩ := hg.1.1.shape
 obtain ⟨ta,tc,rfl,htl,htm⟩ := hg.2.2.shape
 obtain ⟨ma,mc,rfl,hma,hmc,-⟩ := h.1.form
 obtain ⟨ba,bc,rfl,hba,hbc,-⟩ := h.2.form
 clear h hg
 have hkb : (g.kind == 2) = false := by simpa using hk
 replace hk := hide hk
 unfold lineVal at cC
 unfold lineVal gameVal
 go_enter Tryz.func28,Tryz.ntmps28
 go_upto_region 1 with (fail)
 obtain ⟨W,hW⟩ : ∃ W,W = (((w.alloc (Obj.cells #[.string g.name,.int .i64 g.kind,.int .i64 g.price,.int .i64 g.main,.int .i64 g.of,.int .i64 g.bonus,.int .i64 g.bonusOf,.int .i64 g.extra,.int .i64 g.draws,.int .i64 g.system,.int .i64 g.days,.int .i64 g.at_,.int .i64 g.close,.int .i64 g.cancel,.int .i64 g.expiry,.int .i64 g.pool,.int .i64 g.reserve,.int .i64 g.round,.int .i64 g.cap,.int .i64 g.rolls,(.slice aa ms.length ac),(.slice ta g.tiers.length tc)] 25)).alloc (Obj.cells #[(.slice ma a.length mc),(.slice ba b.length bc)] 53)).alloc (Obj.cells #[(.slice none 0 0),(.slice none 0 0)] 53)) := ⟨_,rfl⟩
 have bW : Below w.heap.size w W := by rw [hW];exact Bel.al (Bel.al (Bel.al (Below.refl _ _) _) _) _
 have r0 : GameAt W (w.heap.size) g ((.slice aa ms.length ac)) ((.slice ta g.tiers.length tc)) := by rw [hW];exact Row.alloc (Row.alloc (Row.new _ _ _) _) _
 have r1 : LineAt W (w.heap.size + 1) ((.slice ma a.length mc)) ((.slice ba b.length bc)) := by rw [hW];exact Row.alloc (Row.at2 _ _ _ _) _
 have r2 : LineAt W (w.heap.size + 1 + 1) ((.slice none 0 0)) ((.slice none 0 0)) := by rw [hW];exact Row.at3 _ _ _ _ _
 have sW : w.heap.size + 1 + 1 < W.heap.size := by rw [hW];simp
 rw [← hW]
 clear hW
 have d1 := r0.kind
 go_wp2_with (first | (refine wpList_load_row rfl 53 _ rfl _ rfl _ _ _ _ r1 Tryz.underlying53 rfl (by kernel_rfl) ?_) | fail)
 refine (cC.out _ bW).mono ?_
 rintro e w1 ⟨u,v,rfl,hlr,fu,fv,hb1⟩
 obtain ⟨u1,u2,u3,rfl⟩ := Rd.shape hlr.1
 obtain ⟨v1,v2,v3,rfl⟩ := Rd.shape hlr.2
 have r2 := r2.keep hb1
 have x0 := LineAt.main r2
 have x1 := LineAt.bonus r2
 have x2 := Row.frozen r2 0
 have x3 := Row.frozen r2 1
 have B1 := Bel.to bW hb1
 have rL : LineAt ((w1.setCell ⟨w.heap.size + 2,0,none⟩ (.slice u1 u2 u3)).setCell ⟨w.heap.size + 2,1,none⟩ (.slice v1 v2 v3)) (w.heap.size + 2) (.slice u1 u2 u3) (.slice v1 v2 v3) := LineAt.store r2 _ _
 have y0 := hide rL.main
 have y1 := hide rL.bonus
 have B9 := Bel.st (Bel.st B1 (p := ⟨w.heap.size + 2,0,none⟩) (by simp) (.slice u1 u2 u3)) (p := ⟨w.heap.size + 2,1,none⟩) (by simp) (.slice v1 v2 v3)
 have c1' : (w1.setCell ⟨w.heap.size + 2,0,none⟩ (.slice u1 u2 u3)).cell? ⟨w.heap.size + 2,1,none⟩ = some (.slice none 0 0) := by go_simp
 have n1 : ∀ x,I64 x ≠ Value.slice none 0 0 := fun x h => by cases h
 have hl9 : LineR ((w1.setCell ⟨w.heap.size + 2,0,none⟩ (.slice u1 u2 u3)).setCell ⟨w.heap.size + 2,1,none⟩ (.slice v1 v2 v3)) (.slice u1 u2 u3) (.slice v1 v2 v3) (sortI a) (sortI b) :=
  ⟨(hlr.1.setNe x0 n1 _).setNe c1' n1 _,(hlr.2.setNe x0 n1 _).setNe c1' n1 _⟩
 have fu := hide (fu.mono bW.size)
 have fv := hide (fv.mono bW.size)
 clear rL hb1 hlr c1'
 unfold lineVal
 go_wp2
 exact bodyPost_ret (v := .agg #[.slice u1 u2 u3,.slice v1 v2 v3]) (by simp [results,Tryz.results28,go_sem,y0.out,y1.out]) rfl ⟨_,_,rfl,hl9,fu.out,fv.out,B9⟩
theorem bcanon_any (g : GameD) (av tv mv bv : Value) (ms : List AddonM) (l : LineD) (w : World) (hg : GameR w av tv ms g) (h : LineR w mv bv l.1 l.2) (ha : l.1.length ≤ 1000) (hb : l.2.length ≤ 1000) :
  Calls Tryz.prog 28 #[gameVal g av tv,lineVal mv bv] w (LineF (formG g l).1 (formG g l).2 w) := by
 unfold formG
 by_cases hk : g.kind = 2
 ·rw [if_pos hk];exact bcanon_digits g av tv mv bv ms l.1 l.2 w hg h ha hb hk
 ·rw [if_neg hk];exact bcanon_choose g av tv mv bv ms l.1 l.2 w hg h ha hb hk
def betVal (lv : Value) (b : BetD) : Value := .agg #[lv,.bool b.sys,.int .i64 b.draws,.int .i64 b.addons]
def betCells (lv : Value) (b : BetD) : List Value := [lv,.bool b.sys,.int .i64 b.draws,.int .i64 b.addons]
theorem size_small {g : GameD} {sys : Bool} {l : LineD} (h : (sizeB g sys l).2 = 0) : l.1.length ≤ 1000 ∧ l.2.length ≤ 1000 := by
 unfold sizeB at h
 cases sys with
 | false =>
  have hlok := lineE_ok.1 (show lineE g l.1 l.2 = 0 from h)
  have hf := mat_facts (game_mat hlok.1)
  have h1 := hlok.2.1
  have h2 := hlok.2.2.1
  omega
 | true =>
  have h' : (sysP g l.1 l.2).2 = 0 := h
  unfold sysP at h'
  by_cases he : sysE g l.1 l.2 = 0
  ·obtain ⟨g1,g2,g3,g4,g5,g6,g7,g8⟩ := sysE_ok he
   obtain ⟨f1,f2,f3,f4,f5,f6,f7,f8,f9⟩ := sys_bounds g1
   omega
  ·rw [if_neg he] at h';exact absurd h' he
set_option maxHeartbeats 4000000 in
set_option maxRecDepth 100000 in
theorem size_closure (g : GameD) (av tv mv bv lv : Value) (ms : List AddonM) (B : BetD) (bb gb : Nat) (l : LineD) (w : World) (hg : GameR w av tv ms g) (hG : GameAt w gb g av tv) (hB : Row w bb 48 (betCells lv B)) (hl : LineR w mv bv l.1 l.2) :
  Calls Tryz.prog 51 #[lineVal mv bv,.pointer (some ⟨bb,0,none⟩),.pointer (some ⟨gb,0,none⟩)] w (IntC (sizeB g B.sys l).1 (sizeB g B.sys l).2 w) := by
 have cS := hide (fun X (hX : Below w.heap.size w X) => scount15_any g av tv mv bv ms l.1 l.2 X (hg.below hX) (hl.below hX))
 have cM := hide (fun X (hX : Below w.heap.size w X) => mlcheck_any g av tv mv bv ms l.1 l.2 X (hg.below hX) (hl.below hX))
 have hs : B.sys = true → sizeB g B.sys l = sysP g l.1 l.2 := fun h => by unfold sizeB;rw [h];rfl
 have hn : B.sys = false → sizeB g B.sys l = (1,lineE g l.1 l.2) := fun h => by unfold sizeB;rw [h];rfl
 obtain ⟨aa,ac,rfl,hal,ham⟩ := hg.1.1.shape
 obtain ⟨ta,tc,rfl,htl,htm⟩ := hg.2.2.shape
 obtain ⟨s1,n1,k1,rfl⟩ := Rd.shape hl.1
 obtain ⟨s2,n2,k2,rfl⟩ := Rd.shape hl.2
 have cb : w.cell? ⟨bb,1,none⟩ = some (.bool B.sys) := (hB.cell? 1).trans rfl
 obtain ⟨Q,hQ⟩ : ∃ Q,Q = sizeB g B.sys l := ⟨_,rfl⟩
 rw [← hQ] at hs hn ⊢
 obtain ⟨y,hy⟩ : ∃ y,y = B.sys := ⟨_,rfl⟩
 rw [← hy] at cb hs hn
 clear hg hl hB hQ hy
 unfold lineVal gameVal at cS cM
 unfold lineVal
 cases y with
 | true =>
  have hs := hs rfl
  rw [← hs] at cS
  obtain ⟨n,c⟩ := Q
  simp only [] at cS ⊢
  clear hs hn cM
  go_enter Tryz.func51,Tryz.ntmps51
  go_upto_region 1 with (fail)
  obtain ⟨W,hW⟩ : ∃ W,W = (w.alloc (Obj.cells #[(.slice s1 n1 k1),(.slice s2 n2 k2)] 53)) := ⟨_,rfl⟩
  have bW : Below w.heap.size w W := by rw [hW];exact Bel.al (Below.refl _ _) _
  have r0 : LineAt W (w.heap.size) ((.slice s1 n1 k1)) ((.slice s2 n2 k2)) := by rw [hW];exact Row.new _ _ _
  have sW : w.heap.size < W.heap.size := by rw [hW];simp
  rw [← hW]
  clear hW
  have cb := Bel.cellOf bW cb
  have rG := hG.keep bW
  clear hG
  go_wp2_with (first | (refine wpList_load_row rfl 53 _ rfl _ rfl _ _ _ _ r0 Tryz.underlying53 rfl (by kernel_rfl) ?_) | (refine wpList_load_row rfl 25 _ rfl _ rfl _ _ _ _ rG Tryz.underlying25 rfl (by kernel_rfl) ?_) | fail)
  refine (cS.out _ bW).mono ?_
  rintro e w1 ⟨rfl,hb1⟩
  go_wp2
  go_ret2
  exact ⟨rfl,Bel.to bW hb1⟩
 | false =>
  have hn := hn rfl
  obtain ⟨n,c⟩ := Q
  obtain ⟨rfl,rfl⟩ := Prod.mk.inj hn
  obtain ⟨c,hc⟩ : ∃ c,c = lineE g l.1 l.2 := ⟨_,rfl⟩
  rw [← hc] at cM ⊢
  simp only []
  clear hs hn hc cS
  go_enter Tryz.func51,Tryz.ntmps51
  go_upto_region 1 with (fail)
  obtain ⟨W,hW⟩ : ∃ W,W = (w.alloc (Obj.cells #[(.slice s1 n1 k1),(.slice s2 n2 k2)] 53)) := ⟨_,rfl⟩
  have bW : Below w.heap.size w W := by rw [hW];exact Bel.al (Below.refl _ _) _
  have r0 : LineAt W (w.heap.size) ((.slice s1 n1 k1)) ((.slice s2 n2 k2)) := by rw [hW];exact Row.new _ _ _
  have sW : w.heap.size < W.heap.size := by rw [hW];simp
  rw [← hW]
  clear hW
  have cb := Bel.cellOf bW cb
  have rG := hG.keep bW
  clear hG
  go_wp2_with (first | (refine wpList_load_row rfl 53 _ rfl _ rfl _ _ _ _ r0 Tryz.underlying53 rfl (by kernel_rfl) ?_) | (refine wpList_load_row rfl 25 _ rfl _ rfl _ _ _ _ rG Tryz.underlying25 rfl (by kernel_rfl) ?_) | fail)
  refine (cM.out _ bW).mono ?_
  rintro e w1 ⟨rfl,hb1⟩
  go_wp2
  go_ret2
  exact ⟨rfl,Bel.to bW hb1⟩
set_option maxHeartbeats 4000000 in
set_option maxRecDepth 100000 in
theorem bcheck_bad (g : GameD) (av tv lv : Value) (ms : List AddonM) (B : BetD) (w : World) (hg : GameR w av tv ms g) (hl : LinesR w lv B.lines) (he : gameE g ≠ 0) :
  Calls Tryz.prog 27 #[gameVal g av tv,betVal lv B] w (IntC 0 (gameE g) w) := by
 have cC := hide (fun X (hX : Below w.heap.size w X) => mcount_bad g av tv ms X (hg.below hX) he)
 obtain ⟨aa,ac,rfl,hal,ham⟩ := hg.1.1.shape
 obtain ⟨ta,tc,rfl,htl,htm⟩ := hg.2.2.shape
 obtain ⟨la,lc,rfl,hlc,hlm⟩ := hl.shape
 obtain ⟨c,hcc⟩ : ∃ c,c = gameE g := ⟨_,rfl⟩
 rw [← hcc] at cC he ⊢
 have hcb : (c != 0) = true := by simpa using he
 clear hg hl hcc
 replace he := hide he
 unfold gameVal at cC ⊢
 unfold betVal
 go_enter Tryz.func27,Tryz.ntmps27
 go_upto_region 1 with (fail)
 obtain ⟨W,hW⟩ : ∃ W,W = ((w.alloc (Obj.cells #[.string g.name,.int .i64 g.kind,.int .i64 g.price,.int .i64 g.main,.int .i64 g.of,.int .i64 g.bonus,.int .i64 g.bonusOf,.int .i64 g.extra,.int .i64 g.draws,.int .i64 g.system,.int .i64 g.days,.int .i64 g.at_,.int .i64 g.close,.int .i64 g.cancel,.int .i64 g.expiry,.int .i64 g.pool,.int .i64 g.reserve,.int .i64 g.round,.int .i64 g.cap,.int .i64 g.rolls,(.slice aa ms.length ac),(.slice ta g.tiers.length tc)] 25)).alloc (Obj.cells #[(.slice la B.lines.length lc),.bool B.sys,.int .i64 B.draws,.int .i64 B.addons] 48)) := ⟨_,rfl⟩
 have bW : Below w.heap.size w W := by rw [hW];exact Bel.al (Bel.al (Below.refl _ _) _) _
 have r0 : GameAt W (w.heap.size) g ((.slice aa ms.length ac)) ((.slice ta g.tiers.length tc)) := by rw [hW];exact Row.alloc (Row.new _ _ _) _
 have r1 : Row W ((w.heap.size + 1)) 48 [(.slice la B.lines.length lc),.bool B.sys,.int .i64 B.draws,.int .i64 B.addons] := by rw [hW];exact Row.at2 _ _ _ _
 have sW : w.heap.size + 1 < W.heap.size := by rw [hW];simp
 rw [← hW]
 clear hW
 go_wp2_with (first | (refine wpList_load_row rfl 25 _ rfl _ rfl _ _ _ _ r0 Tryz.underlying25 rfl (by kernel_rfl) ?_) | fail)
 refine (cC.out _ bW).mono ?_
 rintro e w1 ⟨rfl,hb1⟩
 go_wp2
 go_ret2
 exact ⟨rfl,Bel.to bW hb1⟩
set_option maxHeartbeats 4000000 in
set_option maxRecDepth 100000 in
theorem bcheck_len (g : GameD) (av tv lv : Value) (ms : List AddonM) (B : BetD) (w : World) (hg : GameR w av tv ms g) (hl : LinesR w lv B.lines) (he : gameE g = 0) (hn : B.lines.length < 1 ∨ 16 < B.lines.length) :
  Calls Tryz.prog 27 #[gameVal g av tv,betVal lv B] w (IntC 0 3 w) := by
 have cC := hide (fun X (hX : Below w.heap.size w X) => mcount_ok g av tv ms X (hg.below hX) he)
 obtain ⟨aa,ac,rfl,hal,ham⟩ := hg.1.1.shape
 obtain ⟨ta,tc,rfl,htl,htm⟩ := hg.2.2.shape
 obtain ⟨la,lc,rfl,hlc,hlm⟩ := hl.shape
 obtain ⟨n,hnn⟩ : ∃ n,n = B.lines.length := ⟨_,rfl⟩
 rw [← hnn] at hn
 clear hg hl
 replace he := hide he
 unfold gameVal at cC ⊢
 unfold betVal
 rw [← hnn]
 clear hnn hlc
 rcases hn with hn | hn
 ·obtain rfl : n = 0 := by omega
  go_enter Tryz.func27,Tryz.ntmps27
  go_upto_region 1 with (fail)
  obtain ⟨W,hW⟩ : ∃ W,W = ((w.alloc (Obj.cells #[.string g.name,.int .i64 g.kind,.int .i64 g.price,.int .i64 g.main,.int .i64 g.of,.int .i64 g.bonus,.int .i64 g.bonusOf,.int .i64 g.extra,.int .i64 g.draws,.int .i64 g.system,.int .i64 g.days,.int .i64 g.at_,.int .i64 g.close,.int .i64 g.cancel,.int .i64 g.expiry,.int .i64 g.pool,.int .i64 g.reserve,.int .i64 g.round,.int .i64 g.cap,.int .i64 g.rolls,(.slice aa ms.length ac),(.slice ta g.tiers.length tc)] 25)).alloc (Obj.cells #[(.slice la 0 lc),.bool B.sys,.int .i64 B.draws,.int .i64 B.addons] 48)) := ⟨_,rfl⟩
  have bW : Below w.heap.size w W := by rw [hW];exact Bel.al (Bel.al (Below.refl _ _) _) _
  have r0 : GameAt W (w.heap.size) g ((.slice aa ms.length ac)) ((.slice ta g.tiers.length tc)) := by rw [hW];exact Row.alloc (Row.new _ _ _) _
  have r1 : Row W ((w.heap.size + 1)) 48 [(.slice la 0 lc),.bool B.sys,.int .i64 B.draws,.int .i64 B.addons] := by rw [hW];exact Row.at2 _ _ _ _
  have sW : w.heap.size + 1 < W.heap.size := by rw [hW];simp
  rw [← hW]
  clear hW
  go_wp2_with (first | (refine wpList_load_row rfl 25 _ rfl _ rfl _ _ _ _ r0 Tryz.underlying25 rfl (by kernel_rfl) ?_) | fail)
  refine (cC.out _ bW).mono ?_
  rintro e w1 ⟨rfl,hb1⟩
  have c0 : w1.cell? ⟨w.heap.size + 1,0,none⟩ = some (.slice la 0 lc) := ((Row.keep r1 hb1).cell? 0).trans rfl
  go_wp2
  go_ret2
  exact ⟨rfl,Bel.to bW hb1⟩
 ·have h1 : (16 : Int) < (n : Int) := by omega
  have h2 : ¬ (n : Int) < 1 := by omega
  go_enter Tryz.func27,Tryz.ntmps27
  go_upto_region 1 with (fail)
  obtain ⟨W,hW⟩ : ∃ W,W = ((w.alloc (Obj.cells #[.string g.name,.int .i64 g.kind,.int .i64 g.price,.int .i64 g.main,.int .i64 g.of,.int .i64 g.bonus,.int .i64 g.bonusOf,.int .i64 g.extra,.int .i64 g.draws,.int .i64 g.system,.int .i64 g.days,.int .i64 g.at_,.int .i64 g.close,.int .i64 g.cancel,.int .i64 g.expiry,.int .i64 g.pool,.int .i64 g.reserve,.int .i64 g.round,.int .i64 g.cap,.int .i64 g.rolls,(.slice aa ms.length ac),(.slice ta g.tiers.length tc)] 25)).alloc (Obj.cells #[(.slice la n lc),.bool B.sys,.int .i64 B.draws,.int .i64 B.addons] 48)) := ⟨_,rfl⟩
  have bW : Below w.heap.size w W := by rw [hW];exact Bel.al (Bel.al (Below.refl _ _) _) _
  have r0 : GameAt W (w.heap.size) g ((.slice aa ms.length ac)) ((.slice ta g.tiers.length tc)) := by rw [hW];exact Row.alloc (Row.new _ _ _) _
  have r1 : Row W ((w.heap.size + 1)) 48 [(.slice la n lc),.bool B.sys,.int .i64 B.draws,.int .i64 B.addons] := by rw [hW];exact Row.at2 _ _ _ _
  have sW : w.heap.size + 1 < W.heap.size := by rw [hW];simp
  rw [← hW]
  clear hW
  go_wp2_with (first | (refine wpList_load_row rfl 25 _ rfl _ rfl _ _ _ _ r0 Tryz.underlying25 rfl (by kernel_rfl) ?_) | fail)
  refine (cC.out _ bW).mono ?_
  rintro e w1 ⟨rfl,hb1⟩
  have c0 : w1.cell? ⟨w.heap.size + 1,0,none⟩ = some (.slice la n lc) := ((Row.keep r1 hb1).cell? 0).trans rfl
  go_wp2
  go_ret2
  exact ⟨rfl,Bel.to bW hb1⟩
def tailB (g : GameD) (B : BetD) (R : Int × Int) : Int × Int :=
 if R.2 ≠ 0 then (0,R.2)
 else if 1024 < R.1 then (0,3)
 else if B.draws < 1 ∨ g.draws < B.draws then (0,2)
 else if B.addons < 0 ∨ 2 ^ g.addons.length ≤ B.addons then (0,2)
 else (R.1,0)
theorem betP_tail {g : GameD} {B : BetD} (he : gameE g = 0) (h1 : 1 ≤ B.lines.length) (h2 : B.lines.length ≤ 16) : betP g B = tailB g B (scanB g B.sys B.lines [] 0) := by
 unfold betP tailB
 rw [if_neg (by simpa using he),if_neg (by omega)]
set_option maxHeartbeats 8000000 in
set_option maxRecDepth 100000 in
theorem bcheck_scan (g : GameD) (av tv lv : Value) (ms : List AddonM) (B : BetD) (w : World) (hg : GameR w av tv ms g) (hl : LinesR w lv B.lines) (he : gameE g = 0) (h1 : 1 ≤ B.lines.length) (h2 : B.lines.length ≤ 16) :
  Calls Tryz.prog 27 #[gameVal g av tv,betVal lv B] w (IntC (betP g B).1 (betP g B).2 w) := by
 rw [betP_tail he h1 h2]
 have cC := hide (fun X (hX : Below w.heap.size w X) => mcount_ok g av tv ms X (hg.below hX) he)
 have cS := hide (fun X (mv bv : Value) (bb gb : Nat) (l : LineD) (hX : Below w.heap.size w X) (hG : GameAt X gb g av tv) (hB : Row X bb 48 (betCells lv B)) (hl : LineR X mv bv l.1 l.2) => size_closure g av tv mv bv lv ms B bb gb l X (hg.below hX) hG hB hl)
 have cN := hide (fun X (mv bv : Value) (l : LineD) (hX : Below w.heap.size w X) (hl : LineR X mv bv l.1 l.2) (ha : l.1.length ≤ 1000) (hb : l.2.length ≤ 1000) => bcanon_any g av tv mv bv ms l X (hg.below hX) hl ha hb)
 obtain ⟨R,hR⟩ : ∃ R,R = scanB g B.sys B.lines [] 0 := ⟨_,rfl⟩
 rw [← hR]
 obtain ⟨P,hP⟩ : ∃ P,P = tailB g B R := ⟨_,rfl⟩
 rw [← hP]
 replace hP := hide hP
 obtain ⟨n,hnn⟩ : ∃ n,n = B.lines.length := ⟨_,rfl⟩
 have hR0 := hide (show scanB g B.sys (B.lines.drop 0) [] 0 = R by rw [List.drop_zero,hR])
 have hadl : ms.length = g.addons.length := by rw [← hg.2.1,List.length_map]
 have hll := hide (fun X (hX : Below w.heap.size w X) => hl.below hX)
 obtain ⟨i0,hi,hz0,hz1,hz2⟩ := info_parts infoLine15
 obtain ⟨aa,ac,rfl,hal,ham⟩ := hg.1.1.shape
 obtain ⟨ta,tc,rfl,htl,htm⟩ := hg.2.2.shape
 obtain ⟨la,lc,rfl,hlc,hlm⟩ := hl.shape
 rw [← hnn] at h1 h2 hlc cS hll
 have n1 : (1 : Int) ≤ (n : Int) := by omega
 have n2 : (n : Int) ≤ 16 := by omega
 replace hnn := hide hnn
 replace he := hide he
 replace hadl := hide hadl
 clear hg hl hR
 unfold gameVal at cC cN ⊢
 unfold betVal
 rw [← hnn.out]
 go_enter Tryz.func27,Tryz.ntmps27
 go_upto_region 1 with (fail)
 obtain ⟨W,hW⟩ : ∃ W,W = ((w.alloc (Obj.cells #[.string g.name,.int .i64 g.kind,.int .i64 g.price,.int .i64 g.main,.int .i64 g.of,.int .i64 g.bonus,.int .i64 g.bonusOf,.int .i64 g.extra,.int .i64 g.draws,.int .i64 g.system,.int .i64 g.days,.int .i64 g.at_,.int .i64 g.close,.int .i64 g.cancel,.int .i64 g.expiry,.int .i64 g.pool,.int .i64 g.reserve,.int .i64 g.round,.int .i64 g.cap,.int .i64 g.rolls,(.slice aa ms.length ac),(.slice ta g.tiers.length tc)] 25)).alloc (Obj.cells #[(.slice la n lc),.bool B.sys,.int .i64 B.draws,.int .i64 B.addons] 48)) := ⟨_,rfl⟩
 have bW : Below w.heap.size w W := by rw [hW];exact Bel.al (Bel.al (Below.refl _ _) _) _
 have r0 : GameAt W (w.heap.size) g ((.slice aa ms.length ac)) ((.slice ta g.tiers.length tc)) := by rw [hW];exact Row.alloc (Row.new _ _ _) _
 have r1 : Row W ((w.heap.size + 1)) 48 [(.slice la n lc),.bool B.sys,.int .i64 B.draws,.int .i64 B.addons] := by rw [hW];exact Row.at2 _ _ _ _
 have sW : w.heap.size + 1 < W.heap.size := by rw [hW];simp
 rw [← hW]
 clear hW
 go_wp2_with (first | (refine wpList_load_row rfl 25 _ rfl _ rfl _ _ _ _ r0 Tryz.underlying25 rfl (by kernel_rfl) ?_) | fail)
 refine (cC.out _ bW).mono ?_
 rintro e w1 ⟨rfl,hb1⟩
 have B1 := Bel.to bW hb1
 have r0 := r0.keep hb1
 have r1 := Row.keep r1 hb1
 have c0 : w1.cell? ⟨w.heap.size + 1,0,none⟩ = some (.slice la n lc) := (r1.cell? 0).trans rfl
 clear hb1 bW cC
 have hs1 : w.heap.size + 1 < w1.heap.size := r1.lt
 go_wp2_with (with_reducible refine wpList_make_own _ rfl _ _ 44 rfl w1.heap.size 53 i0 _ 2 Tryz.underlying44 hi hz0 hz1 .i64 .i64 _ n rfl rfl (by omega) (by rw [hz2];omega) (by unfold maxLen;omega) (Nat.le_refl _) ?_;intro W3 hown0 hg0;have c0 := Bel.cellOf ((Below.refl _ _).grown hg0 (Nat.le_refl _) (fun k hk => by cases hk)) c0)
 have hown3 : OwnLn W3 w1.heap.size (.slice (some ⟨w1.heap.size,0,none⟩) 0 n) [] := ⟨[],hown0,rfl,fun i p x h => by simp at h⟩
 have hb3 : Below w1.heap.size w1 W3 := (Below.refl _ _).grown hg0 (Nat.le_refl _) (fun k hk => by cases hk)
 clear hown0 hg0
 go_wp2
 go_loopg [9,10,12,13,14,15,16,43] n (fun gh t9 t10 _ _ _ _ _ t43 wr => ∃ (k : Nat) (E : List LineD) (ea : Option Addr) (ec : Nat) (tot : Int),gh = n - k ∧ k ≤ n ∧ t43 = .int .i64 (k : Int) ∧ t10 = .slice ea k ec ∧ t9 = .int .i64 tot ∧ 0 ≤ tot ∧ tot ≤ 4000 * (k : Int) ∧ Hid (E.length = k) ∧ OwnLn wr w1.heap.size (.slice ea k ec) E ∧ Hid (scanB g B.sys (B.lines.drop k) E tot = R) ∧ Below w1.heap.size w1 wr)
 case atStart => exact ⟨0,[],_,n,0,rfl,Nat.zero_le _,rfl,rfl,rfl,by omega,by omega,rfl,hown3,hR0,hb3⟩
 case round =>
  clear hown3 hb3 c0
  obtain ⟨k,E,ea,ec,tot,hgh,hk,rfl,rfl,rfl,ht0,ht1,hEl,hown,hS,hB⟩ := hrel
  replace hgh := hide hgh
  have r0 := r0.keep hB
  have r1 := Row.keep r1 hB
  have BW := Bel.to B1 hB
  by_cases hlt : k < n
  ·have hlt2 := hide hlt
   have hlk : k < B.lines.length := by rw [← hnn.out];exact hlt
   obtain ⟨b0,off0,p,q,rfl,hb0,x1,y1,hl⟩ := (hll.out wr BW).at_ hlk
   have hS2 := hS.out
   rw [List.drop_eq_getElem_cons hlk,scanB] at hS2
   obtain ⟨l,hl0⟩ : ∃ l,l = B.lines[k] := ⟨_,rfl⟩
   rw [← hl0] at hl hS2
   clear hl0 hS
   obtain ⟨s1,m1,k1,rfl⟩ := Rd.shape hl.1
   obtain ⟨s2,m2,k2,rfl⟩ := Rd.shape hl.2
   have hrange : wr.rangeAt b0 (off0 + k * 2) [.slice s1 m1 k1,.slice s2 m2 k2] := by
    intro j v hv
    match j,hv with
    | 0,hv => simp at hv;subst hv;exact x1
    | 1,hv => simp at hv;subst hv;exact y1
   have j1 : (0 : Int) ≤ (k : Int) := by omega
   have j2 : (k : Int) < (n : Int) := by omega
   clear x1 y1
   go_upto_region 12 with (first | (refine wpList_load_mid rfl 53 _ rfl b0 (off0 + k * 2) rfl [.slice s1 m1 k1,.slice s2 m2 k2] _ hrange Tryz.underlying53 rfl (by kernel_rfl) ?_) | fail)
   obtain ⟨W4,hW4⟩ : ∃ W4,W4 = wr.alloc (Obj.cells #[.slice s1 m1 k1,.slice s2 m2 k2] 53) := ⟨_,rfl⟩
   have b4 : Below wr.heap.size wr W4 := by rw [hW4];exact Bel.al (Below.refl _ _) _
   have rL : LineAt W4 wr.heap.size (.slice s1 m1 k1) (.slice s2 m2 k2) := by rw [hW4];exact Row.new _ _ _
   rw [← hW4]
   clear hW4
   have hl4 := hl.below b4
   have hown4 := hown.keep b4
   have r0 := r0.keep b4
   have r1 := Row.keep r1 b4
   have B4 := Bel.to BW b4
   have cS4 := hide (cS.out W4 _ _ _ _ l B4 r0 r1 hl4)
   obtain ⟨Q,hQ⟩ : ∃ Q,Q = sizeB g B.sys l := ⟨_,rfl⟩
   have hsm := size_small (g := g) (sys := B.sys) (l := l)
   have hsz := size_lines (g := g) (sys := B.sys) (l := l)
   rw [← hQ] at cS4 hS2 hsm hsz
   obtain ⟨z,c⟩ := Q
   simp only [] at cS4 hS2 hsm hsz
   unfold lineVal at cS4
   have hBo : Below w1.heap.size w1 W4 := Bel.to hB b4
   clear hl hown b4 hB BW hrange
   go_wp2_with (first | (refine wpList_load_row rfl 53 _ rfl _ rfl _ _ _ _ rL Tryz.underlying53 rfl (by kernel_rfl) ?_) | fail)
   refine cS4.out.mono ?_
   rintro e w5 ⟨rfl,hb5⟩
   have rL := rL.keep hb5
   have r0 := r0.keep hb5
   have r1 := Row.keep r1 hb5
   have hl5 := hl4.below hb5
   have hown5 := hown4.keep hb5
   have B5 := Bel.to B4 hb5
   have hBo5 := Bel.to hBo hb5
   clear cS4 hl4 hown4 hb5 hBo B4
   by_cases hc : c = 0
   ·subst hc
    rw [if_neg (by simp)] at hS2
    obtain ⟨ha,hb⟩ := hsm rfl
    obtain ⟨hz1,hz2⟩ := hsz rfl
    have cN5 := hide (cN.out w5 _ _ l B5 hl5 ha hb)
    have hz3 : 0 ≤ z := by rw [hz1];exact Int.natCast_nonneg _
    obtain ⟨fl,hfl⟩ : ∃ fl,fl = formG g l := ⟨_,rfl⟩
    rw [← hfl] at cN5 hS2
    unfold lineVal at cN5
    replace hfl := hide hfl
    replace hQ := hide hQ
    clear hsm hsz ha hb hz1
    go_wp2_with (first | (refine wpList_load_row rfl 25 _ rfl _ rfl _ _ _ _ r0 Tryz.underlying25 rfl (by kernel_rfl) ?_) | (refine wpList_load_row rfl 53 _ rfl _ rfl _ _ _ _ rL Tryz.underlying53 rfl (by kernel_rfl) ?_) | fail)
    refine cN5.out.mono ?_
    rintro e w6 ⟨u,v,rfl,hlr,fu,fv,hb6⟩
    obtain ⟨u1,u2,u3,rfl⟩ := Rd.shape hlr.1
    obtain ⟨v1,v2,v3,rfl⟩ := Rd.shape hlr.2
    have r0 := r0.keep hb6
    have r1 := Row.keep r1 hb6
    have hown6 := hown5.keep hb6
    have hown5l := hown5.lt
    have B6 := Bel.to B5 hb6
    have hBo6 := Bel.to hBo5 hb6
    have q1 := hide (ap_fr15 (v := .slice ea k ec) fu (fun b hb => (hown5l b hb).2))
    have q2 := hide (ap_fr15 (v := .slice ea k ec) fv (fun b hb => (hown5l b hb).2))
    have f1 := hide (fu.mono (hBo5.size))
    have f2 := hide (fv.mono (hBo5.size))
    unfold lineVal
    clear cN5 hown5 hown5l hb6 hBo5 B5 rL hl5 fu fv
    go_upto_region 16 with (fail)
    obtain ⟨W7,hW7⟩ : ∃ W7,W7 = w6.alloc (Obj.cells #[.slice u1 u2 u3,.slice v1 v2 v3] 53) := ⟨_,rfl⟩
    have b7 : Below w6.heap.size w6 W7 := by rw [hW7];exact Bel.al (Below.refl _ _) _
    have rC : LineAt W7 w6.heap.size (.slice u1 u2 u3) (.slice v1 v2 v3) := by rw [hW7];exact Row.new _ _ _
    rw [← hW7]
    clear hW7
    have hlr7 := hlr.below b7
    have hown7 := hown6.keep b7
    have r0 := r0.keep b7
    have r1 := Row.keep r1 b7
    have B7 := Bel.to B6 b7
    have hBo7 := Bel.to hBo6 b7
    have cT := hide (contains16_any _ E _ _ _ fl W7 hown7.rd rC hlr7)
    clear hlr hown6 b7 B6 hBo6
    obtain ⟨y,hy⟩ : ∃ y,y = decide (fl ∈ E) := ⟨_,rfl⟩
    rw [← hy] at cT
    go_wp2_with fail
    refine cT.out.mono ?_
    rintro e w8 ⟨rfl,hb8⟩
    have rC := rC.keep hb8
    have hlr8 := hlr7.below hb8
    have hown8 := hown7.keep hb8
    have r0 := r0.keep hb8
    have r1 := Row.keep r1 hb8
    have B8 := Bel.to B7 hb8
    have hBo8 := Bel.to hBo7 hb8
    clear cT hlr7 hown7 hb8 B7 hBo7
    cases y
    ·rw [if_neg (of_decide_eq_false hy.symm)] at hS2
     replace hS2 := hide hS2
     replace hy := hide hy
     go_wp2_with (first | (refine wpList_load_row rfl 53 _ rfl _ rfl _ _ _ _ rC Tryz.underlying53 rfl (by kernel_rfl) ?_) | (with_reducible refine wpList_append_ln _ rfl _ _ 44 rfl w1.heap.size (.agg #[.slice none 0 0,.slice none 0 0]) 48 Tryz.underlying44 infoLine15 lineZ15 _ E rfl ?_ w8.heap.size 1 rfl (.slice u1 u2 u3) (.slice v1 v2 v3) fl.1 fl.2 ?_ ?_ (slice_one15 _ _ _) (slice_one15 _ _ _) ?_ f1.out f2.out ?_ ?_ ?_ ?_ ?_ ?_))
     case refine_1 => exact hown8.keep (Bel.al (Below.refl _ _) _)
     case refine_2 => exact (Row.cell? (Row.new w8 53 [.slice u1 u2 u3,.slice v1 v2 v3]) 0).trans rfl
     case refine_3 => exact (Row.cell? (Row.new w8 53 [.slice u1 u2 u3,.slice v1 v2 v3]) 1).trans rfl
     case refine_4 => exact hlr8.below (Bel.al (Below.refl _ _) _)
     case refine_5 => exact q1.out
     case refine_6 => exact q2.out
     case refine_7 => have := hEl.out;omega
     case refine_8 => have := hEl.out;omega
     case refine_9 => have := hBo8.size;simp;omega
     intro v9 w9 hown9 hg9
     have hrow : ∀ b,(Value.slice ea k ec).ownBlock = some b → w1.heap.size ≤ b := fun b hb => (hown8.lt b hb).1
     have B9 : Below w1.heap.size w1 w9 := (Bel.al hBo8 _).grown hg9 (Bel.al hBo8 _).size (fun b hb => (hown8.lt b hb).1)
     obtain ⟨a9,c9,rfl⟩ := hown9.shape
     have hlen9 : Hid ((E ++ [(fl.1,fl.2)]).length = k + 1) := by have := hEl.out;show _ = _;simp;omega
     rw [hlen9.out] at hown9 ⊢
     have t1 : tot + z ≤ 4000 * ((k + 1 : Nat) : Int) := by omega
     have t2 : 0 ≤ tot + z := by omega
     have t3 : tot + z ≤ 100000 := by omega
     clear hg9 hown8 hlr8 rC hrow
     go_wp2
     go_roundg (n - (k + 1))
     case measure => have := hgh.out;have := hlt2.out;omega
     case rel => exact ⟨k + 1,E ++ [(fl.1,fl.2)],a9,c9,tot + z,rfl,by have := hlt2.out;omega,by go_num,rfl,rfl,t2,t1,hlen9,hown9,hS2,B9⟩
    ·rw [if_pos (of_decide_eq_true hy.symm)] at hS2
     subst hS2
     replace hy := hide hy
     have hP2 := hP.out
     rw [show tailB g B (0,6) = (0,6) from by unfold tailB;rw [if_pos (by simp)]] at hP2
     subst hP2
     clear hP
     go_wp2
     go_ret2
     exact ⟨rfl,B8⟩
   ·rw [if_pos hc] at hS2
    subst hS2
    have hcn : (c != 0) = true := by simpa using hc
    have ht : tailB g B (0,c) = (0,c) := by unfold tailB;rw [if_pos hc]
    have hP2 := hP.out
    rw [ht] at hP2
    subst hP2
    replace hc := hide hc
    clear hsm hsz hP ht
    go_wp2
    go_ret2
    exact ⟨rfl,B5⟩
  ·have hS2 := hS.out
   have hkn : k = B.lines.length := by have := hnn.out;omega
   rw [hkn,List.drop_length,scanB] at hS2
   subst hS2
   have d1 := r0.draws
   have d2 := r0.addons
   have e2 : wr.cell? ⟨w.heap.size + 1,2,none⟩ = some (.int .i64 B.draws) := (r1.cell? 2).trans rfl
   have e3 : wr.cell? ⟨w.heap.size + 1,3,none⟩ = some (.int .i64 B.addons) := (r1.cell? 3).trans rfl
   have j2 : ¬ (k : Int) < (n : Int) := by omega
   clear hown hB r0 r1
   replace hkn := hide hkn
   have hT : tailB g B (tot,0) = if 1024 < tot then (0,3) else if B.draws < 1 ∨ g.draws < B.draws then (0,2) else if B.addons < 0 ∨ 2 ^ g.addons.length ≤ B.addons then (0,2) else (tot,0) := by
    unfold tailB;rw [if_neg (by simp)]
   have hP2 := hP.out
   rw [hT] at hP2
   clear hT hP
   by_cases h5 : 1024 < tot
   ·rw [if_pos h5] at hP2
    subst hP2
    go_wp2
    go_ret2
    exact ⟨rfl,BW⟩
   ·rw [if_neg h5] at hP2
    by_cases h6 : B.draws < 1 ∨ g.draws < B.draws
    ·rw [if_pos h6] at hP2
     subst hP2
     by_cases h7 : B.draws < 1
     ·have h7d : decide (B.draws < 1) = true := decide_eq_true h7
      clear h6
      go_wp2
      go_ret2
      exact ⟨rfl,BW⟩
     ·have h7d : decide (B.draws < 1) = false := decide_eq_false h7
      have h8 : g.draws < B.draws := by omega
      have h8d : decide (g.draws < B.draws) = true := decide_eq_true h8
      clear h6
      go_wp2
      go_ret2
      exact ⟨rfl,BW⟩
    ·rw [if_neg h6] at hP2
     have h7 : ¬ B.draws < 1 := by omega
     have h8 : ¬ g.draws < B.draws := by omega
     have h7d : decide (B.draws < 1) = false := decide_eq_false h7
     have h8d : decide (g.draws < B.draws) = false := decide_eq_false h8
     clear h6
     by_cases h9 : B.addons < 0
     ·have h9d : decide (B.addons < 0) = true := decide_eq_true h9
      rw [if_pos (.inl h9)] at hP2
      subst hP2
      go_wp2
      go_ret2
      exact ⟨rfl,BW⟩
     ·have h9d : decide (B.addons < 0) = false := decide_eq_false h9
      obtain ⟨m1,m2⟩ := mask_shift (m := ms.length) (k := g.addons.length) h9 hadl.out (game_addons he.out).1
      have hms := (game_addons he.out).1
      rw [← hadl.out] at hms
      by_cases h10 : 2 ^ g.addons.length ≤ B.addons
      ·have h10d := m1 h10
       rw [if_pos (.inr h10)] at hP2
       subst hP2
       clear m1 m2
       replace h10 := hide h10
       go_wp2
       go_ret2
       exact ⟨rfl,BW⟩
      ·have h10d := m2 h10
       rw [if_neg (by omega)] at hP2
       subst hP2
       clear m1 m2
       replace h10 := hide h10
       go_wp2
       go_ret2
       exact ⟨rfl,BW⟩
theorem bcheck_any (g : GameD) (av tv lv : Value) (ms : List AddonM) (B : BetD) (w : World) (hg : GameR w av tv ms g) (hl : LinesR w lv B.lines) :
  Calls Tryz.prog 27 #[gameVal g av tv,betVal lv B] w (IntC (betP g B).1 (betP g B).2 w) := by
 by_cases he : gameE g = 0
 ·by_cases hn : B.lines.length < 1 ∨ 16 < B.lines.length
  ·have : betP g B = (0,3) := by unfold betP;rw [if_neg (by simpa using he),if_pos hn]
   rw [this]
   exact bcheck_len g av tv lv ms B w hg hl he hn
  ·exact bcheck_scan g av tv lv ms B w hg hl he (by omega) (by omega)
 ·have : betP g B = (0,gameE g) := by unfold betP;rw [if_pos (by simpa using he)]
  rw [this]
  exact bcheck_bad g av tv lv ms B w hg hl he
theorem flat_take {α β : Type} (f : α → List β) (l : List α) (k : Nat) (h : k < l.length) : (l.take (k + 1)).flatMap f = (l.take k).flatMap f ++ f l[k] := by
 rw [List.take_succ_eq_append_getElem h,List.flatMap_append];simp
theorem flat_le {α β : Type} (f : α → List β) (l : List α) (k : Nat) : ((l.take k).flatMap f).length ≤ (l.flatMap f).length := by
 have h : (l.take k ++ l.drop k).flatMap f = (l.take k).flatMap f ++ (l.drop k).flatMap f := List.flatMap_append
 rw [List.take_append_drop] at h
 rw [h,List.length_append];omega
theorem size_sys {g : GameD} {l : LineD} (h : (sizeB g true l).2 = 0) : sysE g l.1 l.2 = 0 := by
 have h' : (sysP g l.1 l.2).2 = 0 := h
 unfold sysP at h'
 by_cases he : sysE g l.1 l.2 = 0
 ·exact he
 ·rw [if_neg he] at h';exact absurd h' he
theorem exp_ne {g : GameD} {l : LineD} (h : sysE g l.1 l.2 = 0) : expL (sortI l.1) (sortI l.2) g.main.toNat ≠ [] := by
 intro e
 have h1 := expL_len (sortI l.1) (sortI l.2) g.main.toNat
 rw [e,sortI_len] at h1
 obtain ⟨g1,g2,g3,g4,g5,g6,g7,g8⟩ := sysE_ok h
 obtain ⟨f1,f2,f3,f4,f5,f6,f7,f8,f9⟩ := sys_bounds g1
 have := choose_pos (n := l.1.length) (k := g.main.toNat) (by omega)
 simp at h1
 omega
set_option maxHeartbeats 2000000 in
set_option maxRecDepth 100000 in
theorem blines_bad (g : GameD) (av tv lv : Value) (ms : List AddonM) (B : BetD) (w : World) (hg : GameR w av tv ms g) (hl : LinesR w lv B.lines) (hc : (betP g B).2 ≠ 0) :
  Calls Tryz.prog 11 #[gameVal g av tv,betVal lv B] w (LinesO [] (betP g B).2 w) := by
 have cC := hide (fun X (hX : Below w.heap.size w X) => bcheck_any g av tv lv ms B X (hg.below hX) (hl.below hX))
 obtain ⟨R,hR⟩ : ∃ R,R = betP g B := ⟨_,rfl⟩
 rw [← hR] at cC hc ⊢
 obtain ⟨t,c⟩ := R
 obtain ⟨aa,ac,rfl,hal,ham⟩ := hg.1.1.shape
 obtain ⟨ta,tc,rfl,htl,htm⟩ := hg.2.2.shape
 obtain ⟨la,lc,rfl,hlc,hlm⟩ := hl.shape
 clear hg hl hR
 simp only [] at cC hc ⊢
 have hcb : (c != 0) = true := by simpa using hc
 replace hc := hide hc
 unfold gameVal betVal at cC ⊢
 go_enter Tryz.func11,Tryz.ntmps11
 go_upto_region 1 with (fail)
 obtain ⟨W,hW⟩ : ∃ W,W = ((w.alloc (Obj.cells #[.string g.name,.int .i64 g.kind,.int .i64 g.price,.int .i64 g.main,.int .i64 g.of,.int .i64 g.bonus,.int .i64 g.bonusOf,.int .i64 g.extra,.int .i64 g.draws,.int .i64 g.system,.int .i64 g.days,.int .i64 g.at_,.int .i64 g.close,.int .i64 g.cancel,.int .i64 g.expiry,.int .i64 g.pool,.int .i64 g.reserve,.int .i64 g.round,.int .i64 g.cap,.int .i64 g.rolls,(.slice aa ms.length ac),(.slice ta g.tiers.length tc)] 25)).alloc (Obj.cells #[(.slice la B.lines.length lc),.bool B.sys,.int .i64 B.draws,.int .i64 B.addons] 48)) := ⟨_,rfl⟩
 have bW : Below w.heap.size w W := by rw [hW];exact Bel.al (Bel.al (Below.refl _ _) _) _
 have r0 : GameAt W (w.heap.size) g ((.slice aa ms.length ac)) ((.slice ta g.tiers.length tc)) := by rw [hW];exact Row.alloc (Row.new _ _ _) _
 have r1 : Row W ((w.heap.size + 1)) 48 [(.slice la B.lines.length lc),.bool B.sys,.int .i64 B.draws,.int .i64 B.addons] := by rw [hW];exact Row.at2 _ _ _ _
 have sW : w.heap.size + 1 < W.heap.size := by rw [hW];simp
 rw [← hW]
 clear hW
 go_wp2_with (first | (refine wpList_load_row rfl 25 _ rfl _ rfl _ _ _ _ r0 Tryz.underlying25 rfl (by kernel_rfl) ?_) | (refine wpList_load_row rfl 48 _ rfl _ rfl _ _ _ _ r1 Tryz.underlying48 rfl (by kernel_rfl) ?_) | fail)
 refine (cC.out _ bW).mono ?_
 rintro e w1 ⟨rfl,hb1⟩
 go_wp2
 go_ret2
 exact ⟨.slice none 0 0,rfl,OwnLn.nil _ _,Bel.to bW hb1⟩
set_option maxHeartbeats 8000000 in
set_option maxRecDepth 100000 in
theorem blines_ok (g : GameD) (av tv lv : Value) (ms : List AddonM) (B : BetD) (w : World) (hg : GameR w av tv ms g) (hl : LinesR w lv B.lines) (hc : (betP g B).2 = 0) :
  Calls Tryz.prog 11 #[gameVal g av tv,betVal lv B] w (LinesO (linesB g B) 0 w) := by
 have cC := hide (fun X (hX : Below w.heap.size w X) => bcheck_any g av tv lv ms B X (hg.below hX) (hl.below hX))
 obtain ⟨p1,p2,p3,p4,p5,p6,p7,p8,p9,p10⟩ := betP_ok hc
 rw [hc,p4] at cC
 have cE := hide (fun X (mv bv : Value) (l : LineD) (hX : Below w.heap.size w X) (hl : LineR X mv bv l.1 l.2) (he : sysE g l.1 l.2 = 0) (hm : choose l.1.length g.main.toNat ≤ 1024) => sexpand_own g av tv mv bv ms l.1 l.2 X (hg.below hX) hl he hm)
 have cN := hide (fun X (mv bv : Value) (l : LineD) (hX : Below w.heap.size w X) (hl : LineR X mv bv l.1 l.2) (ha : l.1.length ≤ 1000) (hb : l.2.length ≤ 1000) => bcanon_any g av tv mv bv ms l X (hg.below hX) hl ha hb)
 have hll := hide (fun X (hX : Below w.heap.size w X) => hl.below hX)
 obtain ⟨N,hN⟩ : ∃ N,N = (linesB g B).length := ⟨_,rfl⟩
 rw [← hN] at cC p5
 have hN2 := hide (show N = (B.lines.flatMap (lineB g B.sys)).length from hN)
 obtain ⟨T,hT⟩ : ∃ T,T = linesB g B := ⟨_,rfl⟩
 rw [← hT]
 have hT2 := hide (show T = B.lines.flatMap (lineB g B.sys) from hT)
 obtain ⟨n,hnn⟩ : ∃ n,n = B.lines.length := ⟨_,rfl⟩
 obtain ⟨i0,hi,hz0,hz1,hz2⟩ := info_parts infoLine15
 obtain ⟨aa,ac,rfl,hal,ham⟩ := hg.1.1.shape
 obtain ⟨ta,tc,rfl,htl,htm⟩ := hg.2.2.shape
 obtain ⟨la,lc,rfl,hlc,hlm⟩ := hl.shape
 rw [← hnn] at p2 p3 hlc hll
 have n1 : (1 : Int) ≤ (n : Int) := by omega
 have n2 : (n : Int) ≤ 16 := by omega
 have p10 := hide p10
 replace hnn := hide hnn
 clear hg hl hc p1 p4 p6 p7 p8 p9 hN hT
 unfold gameVal betVal at cC
 unfold gameVal at cE cN
 unfold gameVal betVal
 rw [← hnn.out] at cC ⊢
 go_enter Tryz.func11,Tryz.ntmps11
 go_upto_region 1 with (fail)
 obtain ⟨W,hW⟩ : ∃ W,W = ((w.alloc (Obj.cells #[.string g.name,.int .i64 g.kind,.int .i64 g.price,.int .i64 g.main,.int .i64 g.of,.int .i64 g.bonus,.int .i64 g.bonusOf,.int .i64 g.extra,.int .i64 g.draws,.int .i64 g.system,.int .i64 g.days,.int .i64 g.at_,.int .i64 g.close,.int .i64 g.cancel,.int .i64 g.expiry,.int .i64 g.pool,.int .i64 g.reserve,.int .i64 g.round,.int .i64 g.cap,.int .i64 g.rolls,(.slice aa ms.length ac),(.slice ta g.tiers.length tc)] 25)).alloc (Obj.cells #[(.slice la n lc),.bool B.sys,.int .i64 B.draws,.int .i64 B.addons] 48)) := ⟨_,rfl⟩
 have bW : Below w.heap.size w W := by rw [hW];exact Bel.al (Bel.al (Below.refl _ _) _) _
 have r0 : GameAt W (w.heap.size) g ((.slice aa ms.length ac)) ((.slice ta g.tiers.length tc)) := by rw [hW];exact Row.alloc (Row.new _ _ _) _
 have r1 : Row W ((w.heap.size + 1)) 48 [(.slice la n lc),.bool B.sys,.int .i64 B.draws,.int .i64 B.addons] := by rw [hW];exact Row.at2 _ _ _ _
 have sW : w.heap.size + 1 < W.heap.size := by rw [hW];simp
 rw [← hW]
 clear hW
 go_wp2_with (first | (refine wpList_load_row rfl 25 _ rfl _ rfl _ _ _ _ r0 Tryz.underlying25 rfl (by kernel_rfl) ?_) | (refine wpList_load_row rfl 48 _ rfl _ rfl _ _ _ _ r1 Tryz.underlying48 rfl (by kernel_rfl) ?_) | fail)
 refine (cC.out _ bW).mono ?_
 rintro e w1 ⟨rfl,hb1⟩
 have B1 := Bel.to bW hb1
 have r0 := r0.keep hb1
 have r1 := Row.keep r1 hb1
 have c0 : w1.cell? ⟨w.heap.size + 1,0,none⟩ = some (.slice la n lc) := (r1.cell? 0).trans rfl
 clear hb1 bW cC
 have hs1 : w.heap.size + 1 < w1.heap.size := r1.lt
 have N0 : (0 : Int) ≤ (N : Int) := by omega
 have N1 : (N : Int) ≤ 1024 := by omega
 go_wp2_with (with_reducible refine wpList_make_own _ rfl _ _ 44 rfl w1.heap.size 53 i0 _ 2 Tryz.underlying44 hi hz0 hz1 .i64 .i64 _ N rfl rfl (by omega) (by rw [hz2];omega) (by unfold maxLen;omega) (Nat.le_refl _) ?_;intro W3 hown0 hg0;have c0 := Bel.cellOf ((Below.refl _ _).grown hg0 (Nat.le_refl _) (fun k hk => by cases hk)) c0)
 have hown3 : OwnLn W3 w1.heap.size (.slice (some ⟨w1.heap.size,0,none⟩) 0 N) [] := ⟨[],hown0,rfl,fun i p x h => by simp at h⟩
 have hb3 : Below w1.heap.size w1 W3 := (Below.refl _ _).grown hg0 (Nat.le_refl _) (fun k hk => by cases hk)
 clear hown0 hg0
 go_wp2
 go_loopg [8,10,11,12,27] n (fun gh t8 _ _ _ t27 wr => ∃ (k : Nat) (E : List LineD) (ea : Option Addr) (em ec : Nat),gh = n - k ∧ k ≤ n ∧ t27 = .int .i64 (k : Int) ∧ t8 = .slice ea em ec ∧ OwnLn wr w1.heap.size (.slice ea em ec) E ∧ Hid (E = (B.lines.take k).flatMap (lineB g B.sys)) ∧ Below w1.heap.size w1 wr)
 case atStart => exact ⟨0,[],_,0,N,rfl,Nat.zero_le _,rfl,rfl,hown3,rfl,hb3⟩
 case round =>
  clear hown3 hb3 c0
  obtain ⟨k,E,ea,em,ec,hgh,hk,rfl,rfl,hown,hE,hB⟩ := hrel
  replace hgh := hide hgh
  have r0 := r0.keep hB
  have r1 := Row.keep r1 hB
  have BW := Bel.to B1 hB
  by_cases hlt : k < n
  ·have hlt2 := hide hlt
   have hlk : k < B.lines.length := by rw [← hnn.out];exact hlt
   obtain ⟨b0,off0,p,q,rfl,hb0,x1,y1,hl⟩ := (hll.out wr BW).at_ hlk
   have hsz := p10.out B.lines[k] (List.getElem_mem hlk)
   have hE2 : Hid (E ++ lineB g B.sys B.lines[k] = (B.lines.take (k + 1)).flatMap (lineB g B.sys)) := by show _ = _;rw [flat_take _ _ _ hlk,hE.out]
   have hlen : (E ++ lineB g B.sys B.lines[k]).length ≤ N := by rw [hE2.out,hN2.out];exact flat_le _ _ _
   obtain ⟨l,hl0⟩ : ∃ l,l = B.lines[k] := ⟨_,rfl⟩
   rw [← hl0] at hl hsz hE2 hlen
   clear hl0
   rw [List.length_append] at hlen
   obtain ⟨s1,m1,k1,rfl⟩ := Rd.shape hl.1
   obtain ⟨s2,m2,k2,rfl⟩ := Rd.shape hl.2
   have hrange : wr.rangeAt b0 (off0 + k * 2) [.slice s1 m1 k1,.slice s2 m2 k2] := by
    intro j v hv
    match j,hv with
    | 0,hv => simp at hv;subst hv;exact x1
    | 1,hv => simp at hv;subst hv;exact y1
   have j1 : (0 : Int) ≤ (k : Int) := by omega
   have j2 : (k : Int) < (n : Int) := by omega
   clear x1 y1
   go_upto_region 8 with (first | (refine wpList_load_mid rfl 53 _ rfl b0 (off0 + k * 2) rfl [.slice s1 m1 k1,.slice s2 m2 k2] _ hrange Tryz.underlying53 rfl (by kernel_rfl) ?_) | fail)
   obtain ⟨W4,hW4⟩ : ∃ W4,W4 = wr.alloc (Obj.cells #[.slice s1 m1 k1,.slice s2 m2 k2] 53) := ⟨_,rfl⟩
   have b4 : Below wr.heap.size wr W4 := by rw [hW4];exact Bel.al (Below.refl _ _) _
   have rL : LineAt W4 wr.heap.size (.slice s1 m1 k1) (.slice s2 m2 k2) := by rw [hW4];exact Row.new _ _ _
   rw [← hW4]
   clear hW4
   have hl4 := hl.below b4
   have hown4 := hown.keep b4
   have r0 := r0.keep b4
   have r1 := Row.keep r1 b4
   have B4 := Bel.to BW b4
   have hBo : Below w1.heap.size w1 W4 := Bel.to hB b4
   have cb : W4.cell? ⟨w.heap.size + 1,1,none⟩ = some (.bool B.sys) := (r1.cell? 1).trans rfl
   obtain ⟨ha,hb⟩ := size_small hsz
   have hlow := hown4.lt
   clear hl hown b4 hB BW hrange
   rcases Bool.eq_false_or_eq_true B.sys with hsys | hsys
   rotate_left
   ·skip
    rw [hsys] at cb hE2 hlen
    have hlB : lineB g false l = [formG g l] := rfl
    rw [hlB] at hE2 hlen
    have cN5 := hide (cN.out W4 _ _ l B4 hl4 ha hb)
    obtain ⟨fl,hfl⟩ : ∃ fl,fl = formG g l := ⟨_,rfl⟩
    rw [← hfl] at cN5 hE2 hlen
    unfold lineVal at cN5
    replace hfl := hide hfl
    replace hsys := hide hsys
    clear hlB ha hb hsz hl4
    rw [List.length_singleton] at hlen
    go_wp2_with (first | (refine wpList_load_row rfl 25 _ rfl _ rfl _ _ _ _ r0 Tryz.underlying25 rfl (by kernel_rfl) ?_) | (refine wpList_load_row rfl 53 _ rfl _ rfl _ _ _ _ rL Tryz.underlying53 rfl (by kernel_rfl) ?_) | fail)
    refine cN5.out.mono ?_
    rintro e w6 ⟨u,v,rfl,hlr,fu,fv,hb6⟩
    obtain ⟨u1,u2,u3,rfl⟩ := Rd.shape hlr.1
    obtain ⟨v1,v2,v3,rfl⟩ := Rd.shape hlr.2
    have hown6 := hown4.keep hb6
    have q1 := hide (ap_fr15 (v := .slice ea em ec) fu (fun b hb => (hlow b hb).2))
    have q2 := hide (ap_fr15 (v := .slice ea em ec) fv (fun b hb => (hlow b hb).2))
    have f1 := hide (fu.mono (hBo.size))
    have f2 := hide (fv.mono (hBo.size))
    have hBo6 := Bel.to hBo hb6
    unfold lineVal
    clear cN5 hown4 hlow hb6 hBo B4 rL fu fv r0 r1 cb
    go_wp2_with (first | (with_reducible refine wpList_append_ln _ rfl _ _ 44 rfl w1.heap.size (.agg #[.slice none 0 0,.slice none 0 0]) 48 Tryz.underlying44 infoLine15 lineZ15 _ E rfl ?_ w6.heap.size 1 rfl (.slice u1 u2 u3) (.slice v1 v2 v3) fl.1 fl.2 ?_ ?_ (slice_one15 _ _ _) (slice_one15 _ _ _) ?_ f1.out f2.out ?_ ?_ ?_ ?_ ?_ ?_))
    case refine_1 => exact hown6.keep (Bel.al (Below.refl _ _) _)
    case refine_2 => exact (Row.cell? (Row.new w6 53 [.slice u1 u2 u3,.slice v1 v2 v3]) 0).trans rfl
    case refine_3 => exact (Row.cell? (Row.new w6 53 [.slice u1 u2 u3,.slice v1 v2 v3]) 1).trans rfl
    case refine_4 => exact hlr.below (Bel.al (Below.refl _ _) _)
    case refine_5 => exact q1.out
    case refine_6 => exact q2.out
    case refine_7 => omega
    case refine_8 => omega
    case refine_9 => have := hBo6.size;simp;omega
    intro v9 w9 hown9 hg9
    have B9 : Below w1.heap.size w1 w9 := (Bel.al hBo6 _).grown hg9 (Bel.al hBo6 _).size (fun b hb => (hown6.lt b hb).1)
    obtain ⟨a9,c9,rfl⟩ := hown9.shape
    clear hg9 hown6 hlr
    go_wp2
    go_roundg (n - (k + 1))
    case measure => have := hgh.out;have := hlt2.out;omega
    case rel => exact ⟨k + 1,E ++ [(fl.1,fl.2)],a9,_,c9,rfl,by have := hlt2.out;omega,by go_num,rfl,hown9,by rw [hsys.out];exact hE2,B9⟩
   ·skip
    rw [hsys] at cb hE2 hlen hsz
    have hlB : lineB g true l = expL (sortI l.1) (sortI l.2) g.main.toNat := rfl
    have hse := size_sys hsz
    have hle2 := expL_len (sortI l.1) (sortI l.2) g.main.toNat
    rw [sortI_len] at hle2
    rw [hlB] at hE2 hlen
    have hne := hide (exp_ne hse)
    have cE5 := hide (cE.out W4 _ _ l B4 hl4 hse (by omega))
    obtain ⟨X,hX⟩ : ∃ X,X = expL (sortI l.1) (sortI l.2) g.main.toNat := ⟨_,rfl⟩
    rw [← hX] at cE5 hE2 hlen hne
    unfold lineVal at cE5
    replace hsys := hide hsys
    clear hlB ha hb hsz hl4 hX hse hle2
    go_wp2_with (first | (refine wpList_load_row rfl 25 _ rfl _ rfl _ _ _ _ r0 Tryz.underlying25 rfl (by kernel_rfl) ?_) | (refine wpList_load_row rfl 53 _ rfl _ rfl _ _ _ _ rL Tryz.underlying53 rfl (by kernel_rfl) ?_) | fail)
    refine cE5.out.mono ?_
    rintro e w6 ⟨u,rfl,hu,hb6⟩
    obtain ⟨u1,u2,rfl⟩ := hu.shape
    have hown6 := hown4.keep hb6
    have hBo6 := Bel.to hBo hb6
    have hlow2 := hide (fun b hb => (hlow b hb).2)
    have hsz6 := hBo.size
    clear cE5 hown4 hlow hb6 B4 rL r0 r1 cb
    go_wp2_with (first | (refine wpList_append_lns _ rfl _ _ 44 rfl w1.heap.size W4.heap.size (.agg #[.slice none 0 0,.slice none 0 0]) 48 Tryz.underlying44 infoLine15 lineZ15 _ E rfl hown6 _ X rfl hu hne.out hsz6 hlow2.out (by omega) (by omega) ?_ ?_))
    case refine_1 => exact hBo6.size
    intro v9 w9 hown9 hg9
    have B9 : Below w1.heap.size w1 w9 := hBo6.grown hg9 hBo6.size (fun b hb => (hown6.lt b hb).1)
    obtain ⟨a9,c9,rfl⟩ := hown9.shape
    clear hg9 hown6 hu
    go_wp2
    go_roundg (n - (k + 1))
    case measure => have := hgh.out;have := hlt2.out;omega
    case rel => exact ⟨k + 1,E ++ X,a9,_,c9,rfl,by have := hlt2.out;omega,by go_num,rfl,hown9,by rw [hsys.out];exact hE2,B9⟩
  ·have hkn : k = B.lines.length := by have := hnn.out;omega
   have hEx := hE.out
   rw [hkn,List.take_length,← hT2.out] at hEx
   subst hEx
   have hlow := hown.lower (show w.heap.size ≤ w1.heap.size by omega)
   have j2 : ¬ (k : Int) < (n : Int) := by omega
   replace hkn := hide hkn
   clear hown hB r0 r1 hE
   go_wp2
   go_ret2
   exact ⟨_,rfl,hlow,BW⟩
end Go.Proofs.YtelgllgaofjgjaaGreat
end

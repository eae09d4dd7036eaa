/- Lemmas, merged out of smaller texts (wip/tools/mergedce.py). No condition. -/
import Derived.OpenShut
import Derived.ChangeSlices
import Derived.Test.YtelgllgaofjgjaaGreatProg
import Derived.ChangeArms
import Derived.Deep.Slices
import Derived.Test.YtelgllgaofjgjaaGreatHCore
import Derived.Test.YtelgllgaofjgjaaGreatHRule
import Derived.Test.YtelgllgaofjgjaaGreatHLine
section
open Go.ChangeShapes Go.WideShapes Go.RowKit
set_option linter.unusedVariables false
namespace Go.Proofs.YtelgllgaofjgjaaGreat
theorem rd_trod {H : Type} {enc : TypeId × Value → H} {P : Program} {w : World} {base : Nat} {spare : Nat → Bool} {held : Bool} {t e : TypeId} {k : IntKind} {ao : Option Addr} {len cap : Nat} {d : DataW H} {ps : List MemPlace}
  (ht : P.underlying t = some (.slice e)) (he : P.underlying e = some (.int k)) (hc : P.cellsOf e = 1) (h : DataW.Trod enc P w base spare held t (.slice ao len cap) d ps) :
  ∃ zs : List Int,Rd (fun x => .int k x) w (.slice ao len cap) zs ∧ ∀ z ∈ zs,(Lit.int k z).wf = true := by
 obtain ⟨fuel,hf⟩ := h
 rcases open_ints ht he hc hf with ⟨hcs,hx⟩ | ⟨a,len',cap',zs,hcs,_,hle,hmax,hall,hx,hcell,hwf⟩
 ·simp [Value.cells] at hcs
  obtain ⟨rfl,rfl,rfl⟩ := hcs
  exact ⟨[],Rd.nil,fun z hz => by simp at hz⟩
 ·simp [Value.cells] at hcs
  obtain ⟨rfl,rfl,rfl⟩ := hcs
  have hzl : len ≤ zs.length := by rw [hall];split <;> omega
  have hl : (zs.take len).length = len := by rw [List.length_take];omega
  refine ⟨zs.take len,⟨some a,cap,by rw [hl],by omega,hmax,fun hp => ?_⟩,fun z hz => hwf z (List.mem_of_mem_take hz)⟩
  rw [hl] at hp
  obtain ⟨b,off,rfl,hat⟩ := Go.ints_at hcell (by omega)
  refine ⟨b,off,rfl,World.block_lt_of_cell? w _ (hat 0 (by omega)),fun i x hx => ?_⟩
  rw [List.getElem?_take] at hx
  split at hx
  ·rw [hat i (by omega)]
   rw [List.getD_eq_getElem?_getD,hx];rfl
  ·cases hx
theorem rd_of_trod {H : Type} {enc : TypeId × Value → H} {P : Program} {w : World} {base : Nat} {spare : Nat → Bool} {held : Bool} {t e : TypeId} {ao : Option Addr} {len cap : Nat} {d : DataW H} {ps : List MemPlace}
  (ht : P.underlying t = some (.slice e)) (he : P.underlying e = some (.int .i64)) (hc : P.cellsOf e = 1) (h : DataW.Trod enc P w base spare held t (.slice ao len cap) d ps) :
  ∃ zs : List Int,Rd I64 w (.slice ao len cap) zs := by
 obtain ⟨zs,h,-⟩ := rd_trod ht he hc h
 exact ⟨zs,h⟩
end Go.Proofs.YtelgllgaofjgjaaGreat
end
section
open Go.ChangeShapes Go.WideShapes Go.RowKit
set_option linter.unusedVariables false
set_option linter.unusedSimpArgs false
namespace Go.Proofs.YtelgllgaofjgjaaGreat
section
variable {H : Type} {enc : TypeId × Value → H} {w : World} {base : Nat} {spare : Nat → Bool} {held : Bool}
instance : Inhabited TierD := ⟨⟨0,0,0,0,0,0⟩⟩
instance : Inhabited AddonM := ⟨⟨⟨ByteArray.empty,0,0,[],0,[]⟩,.slice none 0 0,.slice none 0 0⟩⟩
theorem slice_cell {P : Program} {t e : TypeId} {n : Nat} {c : Value} {x : DataW H × List MemPlace} (ht : P.underlying t = some (.slice e)) (h : DataW.trod enc P w base spare held n t [c] = some x) : ∃ ao k cap,c = .slice ao k cap := by
 rcases DataW.trod_slice ht h with ⟨h0,-⟩ | ⟨a,len,cap,elems,rest,m,-,h0,-⟩
 ·injection h0 with h0 _;exact ⟨_,_,_,h0⟩
 ·injection h0 with h0 _;exact ⟨_,_,_,h0⟩
theorem tier_trod {n : Nat} {l : List Value} {x : DataW H × List MemPlace} (h : DataW.trod enc Tryz.prog w base spare held n 72 l = some x) : ∃ t : TierD,l = tierCells t := by
 obtain ⟨xs,m,-,-,hl,hxl,hx⟩ := DataW.trod_struct Tryz.underlying72 h
 rw [show Tryz.prog.cellsOf 72 = 6 by kernel_rfl] at hl
 have hxl' : xs.length = 6 := hxl
 have hc : Tryz.prog.cellsOf 3 = 1 := by kernel_rfl
 rcases l with _ | ⟨c0,l⟩
 ·simp at hl
 rcases l with _ | ⟨c1,l⟩
 ·simp at hl
 rcases l with _ | ⟨c2,l⟩
 ·simp at hl
 rcases l with _ | ⟨c3,l⟩
 ·simp at hl
 rcases l with _ | ⟨c4,l⟩
 ·simp at hl
 rcases l with _ | ⟨c5,l⟩
 ·simp at hl
 rcases l with _ | ⟨cx,l⟩
 rotate_left
 ·simp at hl
 have f0 : DataW.trod enc Tryz.prog w base spare held m 3 (([c0,c1,c2,c3,c4,c5].drop 0).take (Tryz.prog.cellsOf 3)) = xs[0]? := hx 0 _ rfl
 rw [hc,List.getElem?_eq_getElem (by omega)] at f0
 replace f0 : DataW.trod enc Tryz.prog w base spare held m 3 [c0] = some xs[0] := f0
 have f1 : DataW.trod enc Tryz.prog w base spare held m 3 (([c0,c1,c2,c3,c4,c5].drop 1).take (Tryz.prog.cellsOf 3)) = xs[1]? := hx 1 _ rfl
 rw [hc,List.getElem?_eq_getElem (by omega)] at f1
 replace f1 : DataW.trod enc Tryz.prog w base spare held m 3 [c1] = some xs[1] := f1
 have f2 : DataW.trod enc Tryz.prog w base spare held m 3 (([c0,c1,c2,c3,c4,c5].drop 2).take (Tryz.prog.cellsOf 3)) = xs[2]? := hx 2 _ rfl
 rw [hc,List.getElem?_eq_getElem (by omega)] at f2
 replace f2 : DataW.trod enc Tryz.prog w base spare held m 3 [c2] = some xs[2] := f2
 have f3 : DataW.trod enc Tryz.prog w base spare held m 3 (([c0,c1,c2,c3,c4,c5].drop 3).take (Tryz.prog.cellsOf 3)) = xs[3]? := hx 3 _ rfl
 rw [hc,List.getElem?_eq_getElem (by omega)] at f3
 replace f3 : DataW.trod enc Tryz.prog w base spare held m 3 [c3] = some xs[3] := f3
 have f4 : DataW.trod enc Tryz.prog w base spare held m 3 (([c0,c1,c2,c3,c4,c5].drop 4).take (Tryz.prog.cellsOf 3)) = xs[4]? := hx 4 _ rfl
 rw [hc,List.getElem?_eq_getElem (by omega)] at f4
 replace f4 : DataW.trod enc Tryz.prog w base spare held m 3 [c4] = some xs[4] := f4
 have f5 : DataW.trod enc Tryz.prog w base spare held m 3 (([c0,c1,c2,c3,c4,c5].drop 5).take (Tryz.prog.cellsOf 3)) = xs[5]? := hx 5 _ rfl
 rw [hc,List.getElem?_eq_getElem (by omega)] at f5
 replace f5 : DataW.trod enc Tryz.prog w base spare held m 3 [c5] = some xs[5] := f5
 obtain ⟨a0,e0,-,-⟩ := DataW.trod_int Tryz.underlying3 f0
 injection e0 with e0 _
 subst e0
 obtain ⟨a1,e1,-,-⟩ := DataW.trod_int Tryz.underlying3 f1
 injection e1 with e1 _
 subst e1
 obtain ⟨a2,e2,-,-⟩ := DataW.trod_int Tryz.underlying3 f2
 injection e2 with e2 _
 subst e2
 obtain ⟨a3,e3,-,-⟩ := DataW.trod_int Tryz.underlying3 f3
 injection e3 with e3 _
 subst e3
 obtain ⟨a4,e4,-,-⟩ := DataW.trod_int Tryz.underlying3 f4
 injection e4 with e4 _
 subst e4
 obtain ⟨a5,e5,-,-⟩ := DataW.trod_int Tryz.underlying3 f5
 injection e5 with e5 _
 subst e5
 exact ⟨⟨a0,a1,a2,a3,a4,a5⟩,rfl⟩
theorem addon_trod {n : Nat} {l : List Value} {x : DataW H × List MemPlace} (h : DataW.trod enc Tryz.prog w base spare held n 61 l = some x) : ∃ m : AddonM,l = m.cells ∧ AddonR w m := by
 obtain ⟨xs,m,-,-,hl,hxl,hx⟩ := DataW.trod_struct Tryz.underlying61 h
 rw [show Tryz.prog.cellsOf 61 = 6 by kernel_rfl] at hl
 have hxl' : xs.length = 6 := hxl
 have hc : Tryz.prog.cellsOf 3 = 1 := by kernel_rfl
 have hcs : Tryz.prog.cellsOf 9 = 1 := by kernel_rfl
 have hcl : Tryz.prog.cellsOf 27 = 1 := by kernel_rfl
 rcases l with _ | ⟨c0,l⟩
 ·simp at hl
 rcases l with _ | ⟨c1,l⟩
 ·simp at hl
 rcases l with _ | ⟨c2,l⟩
 ·simp at hl
 rcases l with _ | ⟨c3,l⟩
 ·simp at hl
 rcases l with _ | ⟨c4,l⟩
 ·simp at hl
 rcases l with _ | ⟨c5,l⟩
 ·simp at hl
 rcases l with _ | ⟨cx,l⟩
 rotate_left
 ·simp at hl
 have f0 : DataW.trod enc Tryz.prog w base spare held m 9 (([c0,c1,c2,c3,c4,c5].drop 0).take (Tryz.prog.cellsOf 9)) = xs[0]? := hx 0 _ rfl
 rw [hcs,List.getElem?_eq_getElem (by omega)] at f0
 replace f0 : DataW.trod enc Tryz.prog w base spare held m 9 [c0] = some xs[0] := f0
 have f1 : DataW.trod enc Tryz.prog w base spare held m 3 (([c0,c1,c2,c3,c4,c5].drop 1).take (Tryz.prog.cellsOf 3)) = xs[1]? := hx 1 _ rfl
 rw [hc,List.getElem?_eq_getElem (by omega)] at f1
 replace f1 : DataW.trod enc Tryz.prog w base spare held m 3 [c1] = some xs[1] := f1
 have f2 : DataW.trod enc Tryz.prog w base spare held m 3 (([c0,c1,c2,c3,c4,c5].drop 2).take (Tryz.prog.cellsOf 3)) = xs[2]? := hx 2 _ rfl
 rw [hc,List.getElem?_eq_getElem (by omega)] at f2
 replace f2 : DataW.trod enc Tryz.prog w base spare held m 3 [c2] = some xs[2] := f2
 have f3 : DataW.trod enc Tryz.prog w base spare held m 27 (([c0,c1,c2,c3,c4,c5].drop 3).take (Tryz.prog.cellsOf 27)) = xs[3]? := hx 3 _ rfl
 rw [hcl,List.getElem?_eq_getElem (by omega)] at f3
 replace f3 : DataW.trod enc Tryz.prog w base spare held m 27 [c3] = some xs[3] := f3
 have f4 : DataW.trod enc Tryz.prog w base spare held m 3 (([c0,c1,c2,c3,c4,c5].drop 4).take (Tryz.prog.cellsOf 3)) = xs[4]? := hx 4 _ rfl
 rw [hc,List.getElem?_eq_getElem (by omega)] at f4
 replace f4 : DataW.trod enc Tryz.prog w base spare held m 3 [c4] = some xs[4] := f4
 have f5 : DataW.trod enc Tryz.prog w base spare held m 27 (([c0,c1,c2,c3,c4,c5].drop 5).take (Tryz.prog.cellsOf 27)) = xs[5]? := hx 5 _ rfl
 rw [hcl,List.getElem?_eq_getElem (by omega)] at f5
 replace f5 : DataW.trod enc Tryz.prog w base spare held m 27 [c5] = some xs[5] := f5
 obtain ⟨a0,e0,-,-⟩ := DataW.trod_string Tryz.underlying9 f0
 injection e0 with e0 _
 subst e0
 obtain ⟨a1,e1,-,-⟩ := DataW.trod_int Tryz.underlying3 f1
 injection e1 with e1 _
 subst e1
 obtain ⟨a2,e2,-,-⟩ := DataW.trod_int Tryz.underlying3 f2
 injection e2 with e2 _
 subst e2
 obtain ⟨b3,n3,d3,e3⟩ := slice_cell Tryz.underlying27 f3
 subst e3
 obtain ⟨z3,r3⟩ := rd_of_trod Tryz.underlying27 Tryz.underlying3 hc ⟨_,show DataW.trod enc Tryz.prog w base spare held m 27 [.slice b3 n3 d3] = some (xs[3].1,xs[3].2) from f3⟩
 obtain ⟨a4,e4,-,-⟩ := DataW.trod_int Tryz.underlying3 f4
 injection e4 with e4 _
 subst e4
 obtain ⟨b5,n5,d5,e5⟩ := slice_cell Tryz.underlying27 f5
 subst e5
 obtain ⟨z5,r5⟩ := rd_of_trod Tryz.underlying27 Tryz.underlying3 hc ⟨_,show DataW.trod enc Tryz.prog w base spare held m 27 [.slice b5 n5 d5] = some (xs[5].1,xs[5].2) from f5⟩
 exact ⟨⟨⟨a0,a1,a2,z3,a4,z5⟩,.slice b3 n3 d3,.slice b5 n5 d5⟩,rfl,r3,r5⟩
theorem add_spot (b o k : Nat) : (⟨b,o,none⟩ : Addr).add k = ⟨b,o + k,none⟩ := by unfold Addr.add;split <;> simp_all
theorem rds_trod {α : Type} [Inhabited α] {P : Program} {V : α → List Value} {Q : α → Prop} {sz : Nat} {t e : TypeId} {n : Nat} {c : Value} {x : DataW H × List MemPlace} (ht : P.underlying t = some (.slice e)) (hc : P.cellsOf e = sz) (hpos : 0 < sz) (hlV : ∀ y,(V y).length = sz)
  (hV : ∀ n l x,DataW.trod enc P w base spare held n e l = some x → ∃ y,l = V y ∧ Q y) (h : DataW.trod enc P w base spare held n t [c] = some x) : ∃ l,RdS sz V w c l ∧ ∀ (i : Nat) y,l[i]? = some y → Q y := by
 rcases Go.Deep.open_slice ht h with ⟨h0,-⟩ | ⟨a,len,cap,m,n',D,Pl,h0,hb,hlc,hcm,hm,-,hx⟩
 ·injection h0 with h0 _
  subst h0
  exact ⟨[],⟨none,0,rfl,Nat.le_refl _,Nat.zero_le _,fun hp => absurd hp (by simp)⟩,fun i y hy => by simp at hy⟩
 ·injection h0 with h0 _
  subst h0
  have hml : len ≤ m := by rw [hm];split <;> omega
  have hall : ∀ i,i < len → ∃ y,Q y ∧ w.cells? base (a.add (i * sz)) sz = some (V y) := by
   intro i hi
   obtain ⟨cs',h1,h2⟩ := hx i (by omega)
   rw [hc] at h1
   obtain ⟨y,rfl,hq⟩ := hV _ _ _ h2
   exact ⟨y,hq,h1⟩
  obtain ⟨T,hT⟩ := Go.Deep.choose_lt hall
  refine ⟨(List.range len).map T,⟨some a,cap,by simp,by simpa using hlc,hcm,fun hp => ?_⟩,?_⟩
  ·have hl0 : 0 < len := by simpa using hp
   obtain ⟨b,o,spot⟩ := a
   obtain ⟨-,hlen0,hcell0⟩ := World.cells?_some (hT 0 hl0).2
   have hsp : spot = none := by
    have h00 := hcell0 0 hpos
    rw [List.getElem?_eq_getElem (by rw [hlV];exact hpos)] at h00
    simpa [Addr.add] using World.cell?_spot h00
   subst hsp
   have hcell : ∀ i,i < len → ∀ j,j < sz → w.cell? ⟨b,o + i * sz + j,none⟩ = (V (T i))[j]? := by
    intro i hi j hj
    obtain ⟨-,-,hcelli⟩ := World.cells?_some (hT i hi).2
    have := hcelli j hj
    rwa [add_spot,add_spot] at this
   refine ⟨b,o,rfl,?_,?_⟩
   ·have h00 := hcell 0 hl0 0 hpos
    rw [List.getElem?_eq_getElem (by rw [hlV];exact hpos)] at h00
    exact World.block_lt_of_cell? w _ h00
   ·intro i y hy j u hu
    rw [List.getElem?_map] at hy
    have hi : i < len := by
     rcases Nat.lt_or_ge i len with h | h
     ·exact h
     ·rw [List.getElem?_eq_none (by simpa using h)] at hy;cases hy
    rw [List.getElem?_range hi] at hy
    injection hy with hy
    subst hy
    have hj : j < sz := by
     rw [← hlV (T i)]
     exact (List.getElem?_eq_some_iff.1 hu).1
    rw [hcell i hi j hj]
    exact hu
  ·intro i y hy
   rw [List.getElem?_map] at hy
   have hi : i < len := by
    rcases Nat.lt_or_ge i len with h | h
    ·exact h
    ·rw [List.getElem?_eq_none (by simpa using h)] at hy;cases hy
   rw [List.getElem?_range hi] at hy
   injection hy with hy
   subst hy
   exact (hT i hi).1
theorem game_trod {cs : Array Value} {d : DataW H} {ps : List MemPlace} (h : DataW.Trod enc Tryz.prog w base spare held 25 (.agg cs) d ps) : ∃ g av tv ms,Value.agg cs = gameVal g av tv ∧ GameR w av tv ms g := by
 obtain ⟨fuel,hf⟩ := h
 obtain ⟨l⟩ := cs
 have hf' : DataW.trod enc Tryz.prog w base spare held fuel 25 l = some (d,ps) := by simpa [Value.cells] using hf
 obtain ⟨xs,m,-,-,hl,hxl,hx⟩ := DataW.trod_struct Tryz.underlying25 hf'
 rw [show Tryz.prog.cellsOf 25 = 22 by kernel_rfl] at hl
 have hxl' : xs.length = 22 := hxl
 clear hf hf'
 have hc : Tryz.prog.cellsOf 3 = 1 := by kernel_rfl
 have hcs : Tryz.prog.cellsOf 9 = 1 := by kernel_rfl
 have hca : Tryz.prog.cellsOf 22 = 1 := by kernel_rfl
 have hct : Tryz.prog.cellsOf 23 = 1 := by kernel_rfl
 rcases l with _ | ⟨c0,l⟩
 ·simp at hl
 rcases l with _ | ⟨c1,l⟩
 ·simp at hl
 rcases l with _ | ⟨c2,l⟩
 ·simp at hl
 rcases l with _ | ⟨c3,l⟩
 ·simp at hl
 rcases l with _ | ⟨c4,l⟩
 ·simp at hl
 rcases l with _ | ⟨c5,l⟩
 ·simp at hl
 rcases l with _ | ⟨c6,l⟩
 ·simp at hl
 rcases l with _ | ⟨c7,l⟩
 ·simp at hl
 rcases l with _ | ⟨c8,l⟩
 ·simp at hl
 rcases l with _ | ⟨c9,l⟩
 ·simp at hl
 rcases l with _ | ⟨c10,l⟩
 ·simp at hl
 rcases l with _ | ⟨c11,l⟩
 ·simp at hl
 rcases l with _ | ⟨c12,l⟩
 ·simp at hl
 rcases l with _ | ⟨c13,l⟩
 ·simp at hl
 rcases l with _ | ⟨c14,l⟩
 ·simp at hl
 rcases l with _ | ⟨c15,l⟩
 ·simp at hl
 rcases l with _ | ⟨c16,l⟩
 ·simp at hl
 rcases l with _ | ⟨c17,l⟩
 ·simp at hl
 rcases l with _ | ⟨c18,l⟩
 ·simp at hl
 rcases l with _ | ⟨c19,l⟩
 ·simp at hl
 rcases l with _ | ⟨c20,l⟩
 ·simp at hl
 rcases l with _ | ⟨c21,l⟩
 ·simp at hl
 rcases l with _ | ⟨cx,l⟩
 rotate_left
 ·simp at hl
 have f0 : DataW.trod enc Tryz.prog w base spare held m 9 (([c0,c1,c2,c3,c4,c5,c6,c7,c8,c9,c10,c11,c12,c13,c14,c15,c16,c17,c18,c19,c20,c21].drop 0).take (Tryz.prog.cellsOf 9)) = xs[0]? := hx 0 _ rfl
 rw [hcs,List.getElem?_eq_getElem (by omega)] at f0
 replace f0 : DataW.trod enc Tryz.prog w base spare held m 9 [c0] = some xs[0] := f0
 have f1 : DataW.trod enc Tryz.prog w base spare held m 3 (([c0,c1,c2,c3,c4,c5,c6,c7,c8,c9,c10,c11,c12,c13,c14,c15,c16,c17,c18,c19,c20,c21].drop 1).take (Tryz.prog.cellsOf 3)) = xs[1]? := hx 1 _ rfl
 rw [hc,List.getElem?_eq_getElem (by omega)] at f1
 replace f1 : DataW.trod enc Tryz.prog w base spare held m 3 [c1] = some xs[1] := f1
 have f2 : DataW.trod enc Tryz.prog w base spare held m 3 (([c0,c1,c2,c3,c4,c5,c6,c7,c8,c9,c10,c11,c12,c13,c14,c15,c16,c17,c18,c19,c20,c21].drop 2).take (Tryz.prog.cellsOf 3)) = xs[2]? := hx 2 _ rfl
 rw [hc,List.getElem?_eq_getElem (by omega)] at f2
 replace f2 : DataW.trod enc Tryz.prog w base spare held m 3 [c2] = some xs[2] := f2
 have f3 : DataW.trod enc Tryz.prog w base spare held m 3 (([c0,c1,c2,c3,c4,c5,c6,c7,c8,c9,c10,c11,c12,c13,c14,c15,c16,c17,c18,c19,c20,c21].drop 3).take (Tryz.prog.cellsOf 3)) = xs[3]? := hx 3 _ rfl
 rw [hc,List.getElem?_eq_getElem (by omega)] at f3
 replace f3 : DataW.trod enc Tryz.prog w base spare held m 3 [c3] = some xs[3] := f3
 have f4 : DataW.trod enc Tryz.prog w base spare held m 3 (([c0,c1,c2,c3,c4,c5,c6,c7,c8,c9,c10,c11,c12,c13,c14,c15,c16,c17,c18,c19,c20,c21].drop 4).take (Tryz.prog.cellsOf 3)) = xs[4]? := hx 4 _ rfl
 rw [hc,List.getElem?_eq_getElem (by omega)] at f4
 replace f4 : DataW.trod enc Tryz.prog w base spare held m 3 [c4] = some xs[4] := f4
 have f5 : DataW.trod enc Tryz.prog w base spare held m 3 (([c0,c1,c2,c3,c4,c5,c6,c7,c8,c9,c10,c11,c12,c13,c14,c15,c16,c17,c18,c19,c20,c21].drop 5).take (Tryz.prog.cellsOf 3)) = xs[5]? := hx 5 _ rfl
 rw [hc,List.getElem?_eq_getElem (by omega)] at f5
 replace f5 : DataW.trod enc Tryz.prog w base spare held m 3 [c5] = some xs[5] := f5
 have f6 : DataW.trod enc Tryz.prog w base spare held m 3 (([c0,c1,c2,c3,c4,c5,c6,c7,c8,c9,c10,c11,c12,c13,c14,c15,c16,c17,c18,c19,c20,c21].drop 6).take (Tryz.prog.cellsOf 3)) = xs[6]? := hx 6 _ rfl
 rw [hc,List.getElem?_eq_getElem (by omega)] at f6
 replace f6 : DataW.trod enc Tryz.prog w base spare held m 3 [c6] = some xs[6] := f6
 have f7 : DataW.trod enc Tryz.prog w base spare held m 3 (([c0,c1,c2,c3,c4,c5,c6,c7,c8,c9,c10,c11,c12,c13,c14,c15,c16,c17,c18,c19,c20,c21].drop 7).take (Tryz.prog.cellsOf 3)) = xs[7]? := hx 7 _ rfl
 rw [hc,List.getElem?_eq_getElem (by omega)] at f7
 replace f7 : DataW.trod enc Tryz.prog w base spare held m 3 [c7] = some xs[7] := f7
 have f8 : DataW.trod enc Tryz.prog w base spare held m 3 (([c0,c1,c2,c3,c4,c5,c6,c7,c8,c9,c10,c11,c12,c13,c14,c15,c16,c17,c18,c19,c20,c21].drop 8).take (Tryz.prog.cellsOf 3)) = xs[8]? := hx 8 _ rfl
 rw [hc,List.getElem?_eq_getElem (by omega)] at f8
 replace f8 : DataW.trod enc Tryz.prog w base spare held m 3 [c8] = some xs[8] := f8
 have f9 : DataW.trod enc Tryz.prog w base spare held m 3 (([c0,c1,c2,c3,c4,c5,c6,c7,c8,c9,c10,c11,c12,c13,c14,c15,c16,c17,c18,c19,c20,c21].drop 9).take (Tryz.prog.cellsOf 3)) = xs[9]? := hx 9 _ rfl
 rw [hc,List.getElem?_eq_getElem (by omega)] at f9
 replace f9 : DataW.trod enc Tryz.prog w base spare held m 3 [c9] = some xs[9] := f9
 have f10 : DataW.trod enc Tryz.prog w base spare held m 3 (([c0,c1,c2,c3,c4,c5,c6,c7,c8,c9,c10,c11,c12,c13,c14,c15,c16,c17,c18,c19,c20,c21].drop 10).take (Tryz.prog.cellsOf 3)) = xs[10]? := hx 10 _ rfl
 rw [hc,List.getElem?_eq_getElem (by omega)] at f10
 replace f10 : DataW.trod enc Tryz.prog w base spare held m 3 [c10] = some xs[10] := f10
 have f11 : DataW.trod enc Tryz.prog w base spare held m 3 (([c0,c1,c2,c3,c4,c5,c6,c7,c8,c9,c10,c11,c12,c13,c14,c15,c16,c17,c18,c19,c20,c21].drop 11).take (Tryz.prog.cellsOf 3)) = xs[11]? := hx 11 _ rfl
 rw [hc,List.getElem?_eq_getElem (by omega)] at f11
 replace f11 : DataW.trod enc Tryz.prog w base spare held m 3 [c11] = some xs[11] := f11
 have f12 : DataW.trod enc Tryz.prog w base spare held m 3 (([c0,c1,c2,c3,c4,c5,c6,c7,c8,c9,c10,c11,c12,c13,c14,c15,c16,c17,c18,c19,c20,c21].drop 12).take (Tryz.prog.cellsOf 3)) = xs[12]? := hx 12 _ rfl
 rw [hc,List.getElem?_eq_getElem (by omega)] at f12
 replace f12 : DataW.trod enc Tryz.prog w base spare held m 3 [c12] = some xs[12] := f12
 have f13 : DataW.trod enc Tryz.prog w base spare held m 3 (([c0,c1,c2,c3,c4,c5,c6,c7,c8,c9,c10,c11,c12,c13,c14,c15,c16,c17,c18,c19,c20,c21].drop 13).take (Tryz.prog.cellsOf 3)) = xs[13]? := hx 13 _ rfl
 rw [hc,List.getElem?_eq_getElem (by omega)] at f13
 replace f13 : DataW.trod enc Tryz.prog w base spare held m 3 [c13] = some xs[13] := f13
 have f14 : DataW.trod enc Tryz.prog w base spare held m 3 (([c0,c1,c2,c3,c4,c5,c6,c7,c8,c9,c10,c11,c12,c13,c14,c15,c16,c17,c18,c19,c20,c21].drop 14).take (Tryz.prog.cellsOf 3)) = xs[14]? := hx 14 _ rfl
 rw [hc,List.getElem?_eq_getElem (by omega)] at f14
 replace f14 : DataW.trod enc Tryz.prog w base spare held m 3 [c14] = some xs[14] := f14
 have f15 : DataW.trod enc Tryz.prog w base spare held m 3 (([c0,c1,c2,c3,c4,c5,c6,c7,c8,c9,c10,c11,c12,c13,c14,c15,c16,c17,c18,c19,c20,c21].drop 15).take (Tryz.prog.cellsOf 3)) = xs[15]? := hx 15 _ rfl
 rw [hc,List.getElem?_eq_getElem (by omega)] at f15
 replace f15 : DataW.trod enc Tryz.prog w base spare held m 3 [c15] = some xs[15] := f15
 have f16 : DataW.trod enc Tryz.prog w base spare held m 3 (([c0,c1,c2,c3,c4,c5,c6,c7,c8,c9,c10,c11,c12,c13,c14,c15,c16,c17,c18,c19,c20,c21].drop 16).take (Tryz.prog.cellsOf 3)) = xs[16]? := hx 16 _ rfl
 rw [hc,List.getElem?_eq_getElem (by omega)] at f16
 replace f16 : DataW.trod enc Tryz.prog w base spare held m 3 [c16] = some xs[16] := f16
 have f17 : DataW.trod enc Tryz.prog w base spare held m 3 (([c0,c1,c2,c3,c4,c5,c6,c7,c8,c9,c10,c11,c12,c13,c14,c15,c16,c17,c18,c19,c20,c21].drop 17).take (Tryz.prog.cellsOf 3)) = xs[17]? := hx 17 _ rfl
 rw [hc,List.getElem?_eq_getElem (by omega)] at f17
 replace f17 : DataW.trod enc Tryz.prog w base spare held m 3 [c17] = some xs[17] := f17
 have f18 : DataW.trod enc Tryz.prog w base spare held m 3 (([c0,c1,c2,c3,c4,c5,c6,c7,c8,c9,c10,c11,c12,c13,c14,c15,c16,c17,c18,c19,c20,c21].drop 18).take (Tryz.prog.cellsOf 3)) = xs[18]? := hx 18 _ rfl
 rw [hc,List.getElem?_eq_getElem (by omega)] at f18
 replace f18 : DataW.trod enc Tryz.prog w base spare held m 3 [c18] = some xs[18] := f18
 have f19 : DataW.trod enc Tryz.prog w base spare held m 3 (([c0,c1,c2,c3,c4,c5,c6,c7,c8,c9,c10,c11,c12,c13,c14,c15,c16,c17,c18,c19,c20,c21].drop 19).take (Tryz.prog.cellsOf 3)) = xs[19]? := hx 19 _ rfl
 rw [hc,List.getElem?_eq_getElem (by omega)] at f19
 replace f19 : DataW.trod enc Tryz.prog w base spare held m 3 [c19] = some xs[19] := f19
 have f20 : DataW.trod enc Tryz.prog w base spare held m 22 (([c0,c1,c2,c3,c4,c5,c6,c7,c8,c9,c10,c11,c12,c13,c14,c15,c16,c17,c18,c19,c20,c21].drop 20).take (Tryz.prog.cellsOf 22)) = xs[20]? := hx 20 _ rfl
 rw [hca,List.getElem?_eq_getElem (by omega)] at f20
 replace f20 : DataW.trod enc Tryz.prog w base spare held m 22 [c20] = some xs[20] := f20
 have f21 : DataW.trod enc Tryz.prog w base spare held m 23 (([c0,c1,c2,c3,c4,c5,c6,c7,c8,c9,c10,c11,c12,c13,c14,c15,c16,c17,c18,c19,c20,c21].drop 21).take (Tryz.prog.cellsOf 23)) = xs[21]? := hx 21 _ rfl
 rw [hct,List.getElem?_eq_getElem (by omega)] at f21
 replace f21 : DataW.trod enc Tryz.prog w base spare held m 23 [c21] = some xs[21] := f21
 obtain ⟨a0,e0,-,-⟩ := DataW.trod_string Tryz.underlying9 f0
 injection e0 with e0 _
 subst e0
 obtain ⟨a1,e1,-,-⟩ := DataW.trod_int Tryz.underlying3 f1
 injection e1 with e1 _
 subst e1
 obtain ⟨a2,e2,-,-⟩ := DataW.trod_int Tryz.underlying3 f2
 injection e2 with e2 _
 subst e2
 obtain ⟨a3,e3,-,-⟩ := DataW.trod_int Tryz.underlying3 f3
 injection e3 with e3 _
 subst e3
 obtain ⟨a4,e4,-,-⟩ := DataW.trod_int Tryz.underlying3 f4
 injection e4 with e4 _
 subst e4
 obtain ⟨a5,e5,-,-⟩ := DataW.trod_int Tryz.underlying3 f5
 injection e5 with e5 _
 subst e5
 obtain ⟨a6,e6,-,-⟩ := DataW.trod_int Tryz.underlying3 f6
 injection e6 with e6 _
 subst e6
 obtain ⟨a7,e7,-,-⟩ := DataW.trod_int Tryz.underlying3 f7
 injection e7 with e7 _
 subst e7
 obtain ⟨a8,e8,-,-⟩ := DataW.trod_int Tryz.underlying3 f8
 injection e8 with e8 _
 subst e8
 obtain ⟨a9,e9,-,-⟩ := DataW.trod_int Tryz.underlying3 f9
 injection e9 with e9 _
 subst e9
 obtain ⟨a10,e10,-,-⟩ := DataW.trod_int Tryz.underlying3 f10
 injection e10 with e10 _
 subst e10
 obtain ⟨a11,e11,-,-⟩ := DataW.trod_int Tryz.underlying3 f11
 injection e11 with e11 _
 subst e11
 obtain ⟨a12,e12,-,-⟩ := DataW.trod_int Tryz.underlying3 f12
 injection e12 with e12 _
 subst e12
 obtain ⟨a13,e13,-,-⟩ := DataW.trod_int Tryz.underlying3 f13
 injection e13 with e13 _
 subst e13
 obtain ⟨a14,e14,-,-⟩ := DataW.trod_int Tryz.underlying3 f14
 injection e14 with e14 _
 subst e14
 obtain ⟨a15,e15,-,-⟩ := DataW.trod_int Tryz.underlying3 f15
 injection e15 with e15 _
 subst e15
 obtain ⟨a16,e16,-,-⟩ := DataW.trod_int Tryz.underlying3 f16
 injection e16 with e16 _
 subst e16
 obtain ⟨a17,e17,-,-⟩ := DataW.trod_int Tryz.underlying3 f17
 injection e17 with e17 _
 subst e17
 obtain ⟨a18,e18,-,-⟩ := DataW.trod_int Tryz.underlying3 f18
 injection e18 with e18 _
 subst e18
 obtain ⟨a19,e19,-,-⟩ := DataW.trod_int Tryz.underlying3 f19
 injection e19 with e19 _
 subst e19
 obtain ⟨ms,rA,qA⟩ := rds_trod (V := AddonM.cells) (Q := AddonR w) (sz := 6) Tryz.underlying22 (by kernel_rfl) (by decide) (fun _ => rfl) (fun _ _ _ h => addon_trod h) f20
 obtain ⟨ts,rT,-⟩ := rds_trod (V := tierCells) (Q := fun _ => True) (sz := 6) Tryz.underlying23 (by kernel_rfl) (by decide) (fun _ => rfl) (fun _ _ _ h => (tier_trod h).imp fun _ e => ⟨e,trivial⟩) f21
 exact ⟨⟨a0,a1,a2,a3,a4,a5,a6,a7,a8,a9,a10,a11,a12,a13,a14,a15,a16,a17,a18,a19,ms.map (·.d),ts⟩,c20,c21,ms,rfl,⟨rA,qA⟩,rfl,rT⟩
end
theorem line_trod {H : Type} {enc : TypeId × Value → H} {w : World} {base : Nat} {spare : Nat → Bool} {held : Bool} {cs : Array Value} {d : DataW H} {ps : List MemPlace}
  (h : DataW.Trod enc Tryz.prog w base spare held 53 (.agg cs) d ps) : ∃ mv bv a b,Value.agg cs = lineVal mv bv ∧ LineR w mv bv a b := by
 obtain ⟨fuel,hf⟩ := h
 obtain ⟨l⟩ := cs
 have hf' : DataW.trod enc Tryz.prog w base spare held fuel 53 l = some (d,ps) := by simpa [Value.cells] using hf
 obtain ⟨xs,m,-,-,hl,hxl,hx⟩ := DataW.trod_struct Tryz.underlying53 hf'
 rw [show Tryz.prog.cellsOf 53 = 2 by kernel_rfl] at hl
 have hxl' : xs.length = 2 := hxl
 clear hf hf'
 have hc : Tryz.prog.cellsOf 3 = 1 := by kernel_rfl
 have hcl : Tryz.prog.cellsOf 27 = 1 := by kernel_rfl
 rcases l with _ | ⟨c0,l⟩
 ·simp at hl
 rcases l with _ | ⟨c1,l⟩
 ·simp at hl
 rcases l with _ | ⟨cx,l⟩
 rotate_left
 ·simp at hl
 have f0 : DataW.trod enc Tryz.prog w base spare held m 27 (([c0,c1].drop 0).take (Tryz.prog.cellsOf 27)) = xs[0]? := hx 0 _ rfl
 rw [hcl,List.getElem?_eq_getElem (by omega)] at f0
 replace f0 : DataW.trod enc Tryz.prog w base spare held m 27 [c0] = some xs[0] := f0
 have f1 : DataW.trod enc Tryz.prog w base spare held m 27 (([c0,c1].drop 1).take (Tryz.prog.cellsOf 27)) = xs[1]? := hx 1 _ rfl
 rw [hcl,List.getElem?_eq_getElem (by omega)] at f1
 replace f1 : DataW.trod enc Tryz.prog w base spare held m 27 [c1] = some xs[1] := f1
 obtain ⟨b3,n3,d3,e3⟩ := slice_cell Tryz.underlying27 f0
 subst e3
 obtain ⟨z3,r3⟩ := rd_of_trod Tryz.underlying27 Tryz.underlying3 hc ⟨_,show DataW.trod enc Tryz.prog w base spare held m 27 [.slice b3 n3 d3] = some (xs[0].1,xs[0].2) from f0⟩
 obtain ⟨b5,n5,d5,e5⟩ := slice_cell Tryz.underlying27 f1
 subst e5
 obtain ⟨z5,r5⟩ := rd_of_trod Tryz.underlying27 Tryz.underlying3 hc ⟨_,show DataW.trod enc Tryz.prog w base spare held m 27 [.slice b5 n5 d5] = some (xs[1].1,xs[1].2) from f1⟩
 exact ⟨.slice b3 n3 d3,.slice b5 n5 d5,z3,z5,rfl,r3,r5⟩
end Go.Proofs.YtelgllgaofjgjaaGreat
end

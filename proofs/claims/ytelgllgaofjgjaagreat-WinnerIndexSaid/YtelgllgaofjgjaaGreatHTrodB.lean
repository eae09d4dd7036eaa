/- Lemmas, merged out of smaller texts (wip/tools/mergedce.py). No condition. -/
import Derived.Test.YtelgllgaofjgjaaGreatHTrod
import Derived.Test.YtelgllgaofjgjaaGreatHBetA
import Derived.Test.YtelgllgaofjgjaaGreatHWinA
section
open Go.ChangeShapes Go.WideShapes Go.RowKit
set_option linter.unusedVariables false
set_option linter.unusedSimpArgs false
namespace Go.Proofs.YtelgllgaofjgjaaGreat
section
variable {H : Type} {enc : TypeId × Value → H} {w : World} {base : Nat} {spare : Nat → Bool} {held : Bool}
instance : Inhabited (Value × Value) := ⟨(.slice none 0 0,.slice none 0 0)⟩
theorem ln_trod {n : Nat} {l : List Value} {x : DataW H × List MemPlace} (h : DataW.trod enc Tryz.prog w base spare held n 53 l = some x) : ∃ p : Value × Value,l = LnV p ∧ ∃ q : LineD,LineR w p.1 p.2 q.1 q.2 := by
 obtain ⟨mv,bv,a,b,e,hr⟩ := line_trod (d := x.1) (ps := x.2) (cs := l.toArray) ⟨n,by simpa [Value.cells] using h⟩
 unfold lineVal at e
 injection e with e
 have e2 : l = [mv,bv] := by simpa using congrArg Array.toList e
 exact ⟨(mv,bv),e2,(a,b),hr⟩
theorem pick_all {α β : Type} {R : α → β → Prop} (vs : List α) (h : ∀ (i : Nat) p,vs[i]? = some p → ∃ x,R p x) : ∃ ls : List β,vs.length = ls.length ∧ ∀ (i : Nat) p x,vs[i]? = some p → ls[i]? = some x → R p x := by
 induction vs with
 | nil => exact ⟨[],rfl,fun i p x hp => by simp at hp⟩
 | cons v r ih =>
  obtain ⟨x,hx⟩ := h 0 v rfl
  obtain ⟨ls,hl,hr⟩ := ih (fun i p hp => h (i + 1) p hp)
  refine ⟨x :: ls,by simp [hl],fun i p y hp hy => ?_⟩
  cases i with
  | zero => simp at hp hy;subst hp hy;exact hx
  | succ i => exact hr i p y hp hy
end
section
variable {H : Type} {enc : TypeId × Value → H} {w : World} {base : Nat} {spare : Nat → Bool} {held : Bool}
instance : Inhabited TickM := ⟨⟨⟨ByteArray.empty,ByteArray.empty,⟨[],false,0,0⟩,ByteArray.empty,0,0,0,0,0,0,false⟩,.slice none 0 0⟩⟩
instance : Inhabited WinD := ⟨⟨0,0,0⟩⟩
theorem bet_cells {n : Nat} {l : List Value} {x : DataW H × List MemPlace} (h : DataW.trod enc Tryz.prog w base spare held n 48 l = some x) : ∃ lv B,l = betCells lv B ∧ LinesR w lv B.lines ∧ InI B.draws := by
 obtain ⟨xs,m,-,-,hl,hxl,hx⟩ := DataW.trod_struct Tryz.underlying48 h
 rw [show Tryz.prog.cellsOf 48 = 4 by kernel_rfl] at hl
 have hxl' : xs.length = 4 := hxl
 clear h
 have h6 : Tryz.prog.cellsOf 44 = 1 := by kernel_rfl
 have h3 : Tryz.prog.cellsOf 4 = 1 := by kernel_rfl
 have h0 : Tryz.prog.cellsOf 3 = 1 := by kernel_rfl
 rcases l with _ | ⟨c0,l⟩
 ·simp at hl
 rcases l with _ | ⟨c1,l⟩
 ·simp at hl
 rcases l with _ | ⟨c2,l⟩
 ·simp at hl
 rcases l with _ | ⟨c3,l⟩
 ·simp at hl
 rcases l with _ | ⟨cx,l⟩
 rotate_left
 ·simp at hl
 have f0 : DataW.trod enc Tryz.prog w base spare held m 44 (([c0,c1,c2,c3].drop 0).take (Tryz.prog.cellsOf 44)) = xs[0]? := hx 0 _ rfl
 rw [h6,List.getElem?_eq_getElem (by omega)] at f0
 replace f0 : DataW.trod enc Tryz.prog w base spare held m 44 [c0] = some xs[0] := f0
 have f1 : DataW.trod enc Tryz.prog w base spare held m 4 (([c0,c1,c2,c3].drop 1).take (Tryz.prog.cellsOf 4)) = xs[1]? := hx 1 _ rfl
 rw [h3,List.getElem?_eq_getElem (by omega)] at f1
 replace f1 : DataW.trod enc Tryz.prog w base spare held m 4 [c1] = some xs[1] := f1
 have f2 : DataW.trod enc Tryz.prog w base spare held m 3 (([c0,c1,c2,c3].drop 2).take (Tryz.prog.cellsOf 3)) = xs[2]? := hx 2 _ rfl
 rw [h0,List.getElem?_eq_getElem (by omega)] at f2
 replace f2 : DataW.trod enc Tryz.prog w base spare held m 3 [c2] = some xs[2] := f2
 have f3 : DataW.trod enc Tryz.prog w base spare held m 3 (([c0,c1,c2,c3].drop 3).take (Tryz.prog.cellsOf 3)) = xs[3]? := hx 3 _ rfl
 rw [h0,List.getElem?_eq_getElem (by omega)] at f3
 replace f3 : DataW.trod enc Tryz.prog w base spare held m 3 [c3] = some xs[3] := f3
 obtain ⟨vs0,rA0,qA0⟩ := rds_trod (V := LnV) (Q := fun p => ∃ q : LineD,LineR w p.1 p.2 q.1 q.2) (sz := 2) Tryz.underlying44 (by kernel_rfl) (by decide) (fun _ => rfl) (fun _ _ _ h => ln_trod h) f0
 obtain ⟨ls0,hll0,hls0⟩ := pick_all vs0 qA0
 obtain ⟨a1,e1⟩ : ∃ b,c1 = .bool b := by
  obtain ⟨b,e,-⟩ := DataW.trod_bool Tryz.underlying4 f1
  injection e with e _
  exact ⟨b,e⟩
 subst e1
 obtain ⟨a2,e2,-,w2⟩ := DataW.trod_int Tryz.underlying3 f2
 injection e2 with e2 _
 subst e2
 obtain ⟨a3,e3,-,w3⟩ := DataW.trod_int Tryz.underlying3 f3
 injection e3 with e3 _
 subst e3
 exact ⟨c0,⟨ls0,a1,a2,a3⟩,rfl,⟨vs0,rA0,hll0,hls0⟩,bounds_i64 w2⟩
theorem tick_trod {n : Nat} {l : List Value} {x : DataW H × List MemPlace} (h : DataW.trod enc Tryz.prog w base spare held n 50 l = some x) : ∃ m : TickM,l = m.cells ∧ TickR w m := by
 obtain ⟨xs,m,-,-,hl,hxl,hx⟩ := DataW.trod_struct Tryz.underlying50 h
 rw [show Tryz.prog.cellsOf 50 = 14 by kernel_rfl] at hl
 have hxl' : xs.length = 11 := hxl
 clear h
 have h1 : Tryz.prog.cellsOf 9 = 1 := by kernel_rfl
 have h4 : Tryz.prog.cellsOf 48 = 4 := by kernel_rfl
 have h0 : Tryz.prog.cellsOf 3 = 1 := by kernel_rfl
 have h3 : Tryz.prog.cellsOf 4 = 1 := by kernel_rfl
 rcases l with _ | ⟨c0,l⟩
 ·simp at hl
 rcases l with _ | ⟨c1,l⟩
 ·simp at hl
 rcases l with _ | ⟨c2,l⟩
 ·simp at hl
 rcases l with _ | ⟨c3,l⟩
 ·simp at hl
 rcases l with _ | ⟨c4,l⟩
 ·simp at hl
 rcases l with _ | ⟨c5,l⟩
 ·simp at hl
 rcases l with _ | ⟨c6,l⟩
 ·simp at hl
 rcases l with _ | ⟨c7,l⟩
 ·simp at hl
 rcases l with _ | ⟨c8,l⟩
 ·simp at hl
 rcases l with _ | ⟨c9,l⟩
 ·simp at hl
 rcases l with _ | ⟨c10,l⟩
 ·simp at hl
 rcases l with _ | ⟨c11,l⟩
 ·simp at hl
 rcases l with _ | ⟨c12,l⟩
 ·simp at hl
 rcases l with _ | ⟨c13,l⟩
 ·simp at hl
 rcases l with _ | ⟨cx,l⟩
 rotate_left
 ·simp at hl
 have f0 : DataW.trod enc Tryz.prog w base spare held m 9 (([c0,c1,c2,c3,c4,c5,c6,c7,c8,c9,c10,c11,c12,c13].drop 0).take (Tryz.prog.cellsOf 9)) = xs[0]? := hx 0 _ rfl
 rw [h1,List.getElem?_eq_getElem (by omega)] at f0
 replace f0 : DataW.trod enc Tryz.prog w base spare held m 9 [c0] = some xs[0] := f0
 have f1 : DataW.trod enc Tryz.prog w base spare held m 9 (([c0,c1,c2,c3,c4,c5,c6,c7,c8,c9,c10,c11,c12,c13].drop 1).take (Tryz.prog.cellsOf 9)) = xs[1]? := hx 1 _ rfl
 rw [h1,List.getElem?_eq_getElem (by omega)] at f1
 replace f1 : DataW.trod enc Tryz.prog w base spare held m 9 [c1] = some xs[1] := f1
 have f2 : DataW.trod enc Tryz.prog w base spare held m 48 (([c0,c1,c2,c3,c4,c5,c6,c7,c8,c9,c10,c11,c12,c13].drop 2).take (Tryz.prog.cellsOf 48)) = xs[2]? := hx 2 _ rfl
 rw [h4,List.getElem?_eq_getElem (by omega)] at f2
 replace f2 : DataW.trod enc Tryz.prog w base spare held m 48 [c2,c3,c4,c5] = some xs[2] := f2
 have f3 : DataW.trod enc Tryz.prog w base spare held m 9 (([c0,c1,c2,c3,c4,c5,c6,c7,c8,c9,c10,c11,c12,c13].drop 6).take (Tryz.prog.cellsOf 9)) = xs[3]? := hx 3 _ rfl
 rw [h1,List.getElem?_eq_getElem (by omega)] at f3
 replace f3 : DataW.trod enc Tryz.prog w base spare held m 9 [c6] = some xs[3] := f3
 have f4 : DataW.trod enc Tryz.prog w base spare held m 3 (([c0,c1,c2,c3,c4,c5,c6,c7,c8,c9,c10,c11,c12,c13].drop 7).take (Tryz.prog.cellsOf 3)) = xs[4]? := hx 4 _ rfl
 rw [h0,List.getElem?_eq_getElem (by omega)] at f4
 replace f4 : DataW.trod enc Tryz.prog w base spare held m 3 [c7] = some xs[4] := f4
 have f5 : DataW.trod enc Tryz.prog w base spare held m 3 (([c0,c1,c2,c3,c4,c5,c6,c7,c8,c9,c10,c11,c12,c13].drop 8).take (Tryz.prog.cellsOf 3)) = xs[5]? := hx 5 _ rfl
 rw [h0,List.getElem?_eq_getElem (by omega)] at f5
 replace f5 : DataW.trod enc Tryz.prog w base spare held m 3 [c8] = some xs[5] := f5
 have f6 : DataW.trod enc Tryz.prog w base spare held m 3 (([c0,c1,c2,c3,c4,c5,c6,c7,c8,c9,c10,c11,c12,c13].drop 9).take (Tryz.prog.cellsOf 3)) = xs[6]? := hx 6 _ rfl
 rw [h0,List.getElem?_eq_getElem (by omega)] at f6
 replace f6 : DataW.trod enc Tryz.prog w base spare held m 3 [c9] = some xs[6] := f6
 have f7 : DataW.trod enc Tryz.prog w base spare held m 3 (([c0,c1,c2,c3,c4,c5,c6,c7,c8,c9,c10,c11,c12,c13].drop 10).take (Tryz.prog.cellsOf 3)) = xs[7]? := hx 7 _ rfl
 rw [h0,List.getElem?_eq_getElem (by omega)] at f7
 replace f7 : DataW.trod enc Tryz.prog w base spare held m 3 [c10] = some xs[7] := f7
 have f8 : DataW.trod enc Tryz.prog w base spare held m 3 (([c0,c1,c2,c3,c4,c5,c6,c7,c8,c9,c10,c11,c12,c13].drop 11).take (Tryz.prog.cellsOf 3)) = xs[8]? := hx 8 _ rfl
 rw [h0,List.getElem?_eq_getElem (by omega)] at f8
 replace f8 : DataW.trod enc Tryz.prog w base spare held m 3 [c11] = some xs[8] := f8
 have f9 : DataW.trod enc Tryz.prog w base spare held m 3 (([c0,c1,c2,c3,c4,c5,c6,c7,c8,c9,c10,c11,c12,c13].drop 12).take (Tryz.prog.cellsOf 3)) = xs[9]? := hx 9 _ rfl
 rw [h0,List.getElem?_eq_getElem (by omega)] at f9
 replace f9 : DataW.trod enc Tryz.prog w base spare held m 3 [c12] = some xs[9] := f9
 have f10 : DataW.trod enc Tryz.prog w base spare held m 4 (([c0,c1,c2,c3,c4,c5,c6,c7,c8,c9,c10,c11,c12,c13].drop 13).take (Tryz.prog.cellsOf 4)) = xs[10]? := hx 10 _ rfl
 rw [h3,List.getElem?_eq_getElem (by omega)] at f10
 replace f10 : DataW.trod enc Tryz.prog w base spare held m 4 [c13] = some xs[10] := f10
 obtain ⟨a0,e0,-,-⟩ := DataW.trod_string Tryz.underlying9 f0
 injection e0 with e0 _
 subst e0
 obtain ⟨a1,e1,-,-⟩ := DataW.trod_string Tryz.underlying9 f1
 injection e1 with e1 _
 subst e1
 obtain ⟨lv2,B2,e2,r2,w2⟩ := bet_cells f2
 unfold betCells at e2
 injection e2 with e2a e2
 injection e2 with e2b e2
 injection e2 with e2c e2
 injection e2 with e2d e2
 subst e2a e2b e2c e2d
 obtain ⟨a6,e6,-,-⟩ := DataW.trod_string Tryz.underlying9 f3
 injection e6 with e6 _
 subst e6
 obtain ⟨a7,e7,-,w7⟩ := DataW.trod_int Tryz.underlying3 f4
 injection e7 with e7 _
 subst e7
 obtain ⟨a8,e8,-,w8⟩ := DataW.trod_int Tryz.underlying3 f5
 injection e8 with e8 _
 subst e8
 obtain ⟨a9,e9,-,w9⟩ := DataW.trod_int Tryz.underlying3 f6
 injection e9 with e9 _
 subst e9
 obtain ⟨a10,e10,-,w10⟩ := DataW.trod_int Tryz.underlying3 f7
 injection e10 with e10 _
 subst e10
 obtain ⟨a11,e11,-,w11⟩ := DataW.trod_int Tryz.underlying3 f8
 injection e11 with e11 _
 subst e11
 obtain ⟨a12,e12,-,w12⟩ := DataW.trod_int Tryz.underlying3 f9
 injection e12 with e12 _
 subst e12
 obtain ⟨a13,e13⟩ : ∃ b,c13 = .bool b := by
  obtain ⟨b,e,-⟩ := DataW.trod_bool Tryz.underlying4 f10
  injection e with e _
  exact ⟨b,e⟩
 subst e13
 exact ⟨⟨⟨a0,a1,B2,a6,a7,a8,a9,a10,a11,a12,a13⟩,c2⟩,rfl,r2,bounds_i64 w7,w2⟩
theorem res_cells {n : Nat} {l : List Value} {x : DataW H × List MemPlace} (h : DataW.trod enc Tryz.prog w base spare held n 29 l = some x) : ∃ mv bv xv r,l = resCells mv bv xv r ∧ ResR w mv bv xv r := by
 obtain ⟨xs,m,-,-,hl,hxl,hx⟩ := DataW.trod_struct Tryz.underlying29 h
 rw [show Tryz.prog.cellsOf 29 = 5 by kernel_rfl] at hl
 have hxl' : xs.length = 5 := hxl
 clear h
 have h2 : Tryz.prog.cellsOf 27 = 1 := by kernel_rfl
 have h0 : Tryz.prog.cellsOf 3 = 1 := by kernel_rfl
 have h1 : Tryz.prog.cellsOf 9 = 1 := by kernel_rfl
 rcases l with _ | ⟨c0,l⟩
 ·simp at hl
 rcases l with _ | ⟨c1,l⟩
 ·simp at hl
 rcases l with _ | ⟨c2,l⟩
 ·simp at hl
 rcases l with _ | ⟨c3,l⟩
 ·simp at hl
 rcases l with _ | ⟨c4,l⟩
 ·simp at hl
 rcases l with _ | ⟨cx,l⟩
 rotate_left
 ·simp at hl
 have f0 : DataW.trod enc Tryz.prog w base spare held m 27 (([c0,c1,c2,c3,c4].drop 0).take (Tryz.prog.cellsOf 27)) = xs[0]? := hx 0 _ rfl
 rw [h2,List.getElem?_eq_getElem (by omega)] at f0
 replace f0 : DataW.trod enc Tryz.prog w base spare held m 27 [c0] = some xs[0] := f0
 have f1 : DataW.trod enc Tryz.prog w base spare held m 27 (([c0,c1,c2,c3,c4].drop 1).take (Tryz.prog.cellsOf 27)) = xs[1]? := hx 1 _ rfl
 rw [h2,List.getElem?_eq_getElem (by omega)] at f1
 replace f1 : DataW.trod enc Tryz.prog w base spare held m 27 [c1] = some xs[1] := f1
 have f2 : DataW.trod enc Tryz.prog w base spare held m 27 (([c0,c1,c2,c3,c4].drop 2).take (Tryz.prog.cellsOf 27)) = xs[2]? := hx 2 _ rfl
 rw [h2,List.getElem?_eq_getElem (by omega)] at f2
 replace f2 : DataW.trod enc Tryz.prog w base spare held m 27 [c2] = some xs[2] := f2
 have f3 : DataW.trod enc Tryz.prog w base spare held m 3 (([c0,c1,c2,c3,c4].drop 3).take (Tryz.prog.cellsOf 3)) = xs[3]? := hx 3 _ rfl
 rw [h0,List.getElem?_eq_getElem (by omega)] at f3
 replace f3 : DataW.trod enc Tryz.prog w base spare held m 3 [c3] = some xs[3] := f3
 have f4 : DataW.trod enc Tryz.prog w base spare held m 9 (([c0,c1,c2,c3,c4].drop 4).take (Tryz.prog.cellsOf 9)) = xs[4]? := hx 4 _ rfl
 rw [h1,List.getElem?_eq_getElem (by omega)] at f4
 replace f4 : DataW.trod enc Tryz.prog w base spare held m 9 [c4] = some xs[4] := f4
 obtain ⟨s0,t0,u0,g0⟩ := slice_cell Tryz.underlying27 f0
 subst g0
 obtain ⟨l0,r0⟩ := rd_of_trod Tryz.underlying27 Tryz.underlying3 (by kernel_rfl) ⟨m,f0⟩
 obtain ⟨s1,t1,u1,g1⟩ := slice_cell Tryz.underlying27 f1
 subst g1
 obtain ⟨l1,r1⟩ := rd_of_trod Tryz.underlying27 Tryz.underlying3 (by kernel_rfl) ⟨m,f1⟩
 obtain ⟨s2,t2,u2,g2⟩ := slice_cell Tryz.underlying27 f2
 subst g2
 obtain ⟨l2,r2⟩ := rd_of_trod Tryz.underlying27 Tryz.underlying3 (by kernel_rfl) ⟨m,f2⟩
 obtain ⟨a3,e3,-,w3⟩ := DataW.trod_int Tryz.underlying3 f3
 injection e3 with e3 _
 subst e3
 obtain ⟨a4,e4,-,-⟩ := DataW.trod_string Tryz.underlying9 f4
 injection e4 with e4 _
 subst e4
 exact ⟨_,_,_,⟨l0,l1,l2,a3,a4⟩,rfl,r0,r1,r2⟩
theorem draw_cells {n : Nat} {l : List Value} {x : DataW H × List MemPlace} (h : DataW.trod enc Tryz.prog w base spare held n 31 l = some x) : ∃ nn mv bv xv r,l = .int .i64 nn :: resCells mv bv xv r ∧ ResR w mv bv xv r ∧ InI nn := by
 obtain ⟨xs,m,-,-,hl,hxl,hx⟩ := DataW.trod_struct Tryz.underlying31 h
 rw [show Tryz.prog.cellsOf 31 = 6 by kernel_rfl] at hl
 have hxl' : xs.length = 2 := hxl
 clear h
 have h0 : Tryz.prog.cellsOf 3 = 1 := by kernel_rfl
 have h5 : Tryz.prog.cellsOf 29 = 5 := by kernel_rfl
 rcases l with _ | ⟨c0,l⟩
 ·simp at hl
 rcases l with _ | ⟨c1,l⟩
 ·simp at hl
 rcases l with _ | ⟨c2,l⟩
 ·simp at hl
 rcases l with _ | ⟨c3,l⟩
 ·simp at hl
 rcases l with _ | ⟨c4,l⟩
 ·simp at hl
 rcases l with _ | ⟨c5,l⟩
 ·simp at hl
 rcases l with _ | ⟨cx,l⟩
 rotate_left
 ·simp at hl
 have f0 : DataW.trod enc Tryz.prog w base spare held m 3 (([c0,c1,c2,c3,c4,c5].drop 0).take (Tryz.prog.cellsOf 3)) = xs[0]? := hx 0 _ rfl
 rw [h0,List.getElem?_eq_getElem (by omega)] at f0
 replace f0 : DataW.trod enc Tryz.prog w base spare held m 3 [c0] = some xs[0] := f0
 have f1 : DataW.trod enc Tryz.prog w base spare held m 29 (([c0,c1,c2,c3,c4,c5].drop 1).take (Tryz.prog.cellsOf 29)) = xs[1]? := hx 1 _ rfl
 rw [h5,List.getElem?_eq_getElem (by omega)] at f1
 replace f1 : DataW.trod enc Tryz.prog w base spare held m 29 [c1,c2,c3,c4,c5] = some xs[1] := f1
 obtain ⟨a0,e0,-,w0⟩ := DataW.trod_int Tryz.underlying3 f0
 injection e0 with e0 _
 subst e0
 obtain ⟨mv1,bv1,xv1,R1,e1,r1⟩ := res_cells f1
 unfold resCells at e1
 injection e1 with e1a e1
 injection e1 with e1b e1
 injection e1 with e1c e1
 injection e1 with e1d e1
 injection e1 with e1e e1
 subst e1a e1b e1c e1d e1e
 exact ⟨a0,_,_,_,R1,rfl,r1,bounds_i64 w0⟩
theorem tickets_trod {n : Nat} {c : Value} {x : DataW H × List MemPlace} (h : DataW.trod enc Tryz.prog w base spare held n 26 [c] = some x) : ∃ ms,TicketsR w c ms := by
 obtain ⟨ms,rA,qA⟩ := rds_trod (V := TickM.cells) (Q := TickR w) (sz := 14) Tryz.underlying26 (by kernel_rfl) (by decide) tick_len (fun _ _ _ h => tick_trod h) h
 exact ⟨ms,rA,fun m hm => by obtain ⟨i,hi,rfl⟩ := List.getElem_of_mem hm;exact qA i _ (List.getElem?_eq_getElem hi)⟩
theorem tickets_open {a : Option Addr} {len cap : Nat} {d : DataW H} {ps : List MemPlace} (h : DataW.Trod enc Tryz.prog w base spare held 26 (.slice a len cap) d ps) : ∃ ms,TicketsR w (.slice a len cap) ms := by
 obtain ⟨n,hn⟩ := h
 exact tickets_trod (n := n) (x := (d,ps)) (by simpa [Value.cells] using hn)
def drawVal (nn : Int) (mv bv xv : Value) (r : ResD) : Value := .agg #[.int .i64 nn,mv,bv,xv,.int .i64 r.factor,.string r.serial]
theorem draw_open {cs : Array Value} {d : DataW H} {ps : List MemPlace} (h : DataW.Trod enc Tryz.prog w base spare held 31 (.agg cs) d ps) : ∃ nn mv bv xv r,Value.agg cs = drawVal nn mv bv xv r ∧ ResR w mv bv xv r ∧ InI nn := by
 obtain ⟨n,hn⟩ := h
 obtain ⟨nn,mv,bv,xv,r,e,hr,hi⟩ := draw_cells (n := n) (l := cs.toList) (x := (d,ps)) (by simpa [Value.cells] using hn)
 refine ⟨nn,mv,bv,xv,r,?_,hr,hi⟩
 unfold drawVal
 unfold resCells at e
 obtain ⟨l⟩ := cs
 simp at e
 rw [e]
end
end Go.Proofs.YtelgllgaofjgjaaGreat
end

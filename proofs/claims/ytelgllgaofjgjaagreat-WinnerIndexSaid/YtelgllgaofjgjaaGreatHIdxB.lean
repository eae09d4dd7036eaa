/- Lemmas, merged out of smaller texts (wip/tools/mergedce.py). No condition. -/
import Derived.Deep.MidRow
import Derived.Shelf.SlSortCmp.WholeK
import Derived.Shelf.SlSortCmp.NoneTotal
import Derived.Test.YtelgllgaofjgjaaGreatHWinA
import Derived.Test.YtelgllgaofjgjaaGreatHLine
import Derived.Test.YtelgllgaofjgjaaGreatHIdxA
import Derived.Test.YtelgllgaofjgjaaGreatHRule
import Derived.Test.YtelgllgaofjgjaaGreatHCore
import Derived.Test.YtelgllgaofjgjaaGreatHRef
import Derived.Test.YtelgllgaofjgjaaGreatHMat
section
open Go.RowKit
set_option linter.unusedVariables false
set_option linter.unusedSimpArgs false
namespace Go.Proofs.YtelgllgaofjgjaaGreat
theorem snocInd {α : Type} {P : List α → Prop} (h0 : P []) (h1 : ∀ l x,P l → P (l ++ [x])) (l : List α) : P l := by
 have h : ∀ r : List α,P r.reverse := by
  intro r
  induction r with
  | nil => exact h0
  | cons x r ih => rw [List.reverse_cons];exact h1 _ _ ih
 rw [← List.reverse_reverse l]
 exact h _
def cntT (t : Nat) (l : List WinD) : Nat := l.countP fun x => decide (x.tier = (t : Int))
def cntStep (n : Nat) (A : List Int) (x : WinD) : List Int := if 0 ≤ x.tier ∧ x.tier < (n : Int) then A.set x.tier.toNat (A.getD x.tier.toNat 0 + 1) else A
def cntGo (n : Nat) (l : List WinD) : List Int := l.foldl (cntStep n) (List.replicate n 0)
theorem cntStep_len (n : Nat) (A : List Int) (x : WinD) : (cntStep n A x).length = A.length := by unfold cntStep;split <;> simp
theorem cntGo_snoc (n : Nat) (l : List WinD) (x : WinD) : cntGo n (l ++ [x]) = cntStep n (cntGo n l) x := by unfold cntGo;rw [List.foldl_append];rfl
theorem cntGo_len (n : Nat) (l : List WinD) : (cntGo n l).length = n := by
 refine snocInd (P := fun l => (cntGo n l).length = n) ?_ (fun l x ih => ?_) l
 ·simp [cntGo]
 ·rw [cntGo_snoc,cntStep_len,ih]
theorem cntT_snoc (t : Nat) (l : List WinD) (x : WinD) : cntT t (l ++ [x]) = cntT t l + if x.tier = (t : Int) then 1 else 0 := by
 unfold cntT
 rw [List.countP_append,List.countP_cons,List.countP_nil]
 simp
theorem cntGo_at (n t : Nat) (l : List WinD) (ht : t < n) : (cntGo n l)[t]? = some (cntT t l : Int) := by
 refine snocInd (P := fun l => (cntGo n l)[t]? = some (cntT t l : Int)) ?_ (fun l x ih => ?_) l
 ·simp [cntGo,cntT,ht]
 ·rw [cntGo_snoc,cntT_snoc,cntStep]
  by_cases hx : 0 ≤ x.tier ∧ x.tier < (n : Int)
  ·rw [if_pos hx]
   by_cases he : x.tier = (t : Int)
   ·have e1 : x.tier.toNat = t := by omega
    rw [e1,List.getElem?_set_self (by rw [cntGo_len];exact ht),List.getD_eq_getElem?_getD,ih,if_pos he]
    simp
   ·rw [List.getElem?_set_ne (by omega),ih,if_neg he]
    simp
  ·rw [if_neg hx,ih,if_neg (by omega)]
   simp
theorem cntT_le (t : Nat) (l : List WinD) : cntT t l ≤ l.length := List.countP_le_length
end Go.Proofs.YtelgllgaofjgjaaGreat
end
section
open Go.RowKit Go.Lib
set_option linter.unusedVariables false
set_option linter.unusedSimpArgs false
namespace Go.Proofs.YtelgllgaofjgjaaGreat
instance inhTier : Inhabited TierD := ⟨⟨0,0,0,0,0,0⟩⟩
theorem tier_index (p : TierD → Bool) (f : Nat) (cb : Array Value) (tv : Value) (ts : List TierD) (w : World) (hT : RdS 6 tierCells w tv ts) (hne : ts ≠ []) (eg : ∀ args w,(callFunc f args).run Tryz.prog w = .ok (.enter f args) w)
  (hp : PredBelow Tryz.prog f cb (fun x => .agg (tierCells x).toArray) p w) :
  Calls Tryz.prog 62 #[tv,.func (.func f) #[] cb] w (fun e w' => e = .returned (.int .i64 (tierGo p ts 0)) ∧ Below w.heap.size w w') := by
 obtain ⟨ao,cap,rfl,h1,h2,h3⟩ := hT
 obtain ⟨b,off,rfl,hb,hc⟩ := h3 (List.length_pos_iff.2 hne)
 have h := AnyQ.slices_IndexFunc Tryz.idxTier 6 (fun w => by kernel_rfl) (fun w => by kernel_rfl) tierCells (fun _ => rfl) p f cb eg b off ts.length cap ts w hp (Nat.le_refl _) (by unfold maxLen at h2;omega) hb
  (fun j hj i v hv => hc j _ (by rw [getElem!_pos ts j hj];exact List.getElem?_eq_getElem hj) i v hv)
 rw [List.take_length] at h
 have e : Lib.idxBy (fun _ y => p y) ts default = tierGo p ts 0 := idxBy_tier p default ts 0
 rw [e] at h
 exact h
set_option maxHeartbeats 2000000 in
set_option maxRecDepth 100000 in
theorem hits_pred (a b c : Int) (B : Nat) (t : TypeId) (w : World) (hr : Row w B t [.int .i64 a,.int .i64 b,.int .i64 c]) :
  PredBelow Tryz.prog 64 #[.pointer (some ⟨B,0,none⟩)] (fun x => .agg (tierCells x).toArray) (fun x => decide (x.main ≤ a ∧ x.bonus ≤ b ∧ x.extra ≤ c)) w := fun W x hb => by
 have hR := hr.keep hb
 have c0 : W.cell? ⟨B,0,none⟩ = some (.int .i64 a) := (hR.cell? 0).trans rfl
 have c1 : W.cell? ⟨B,1,none⟩ = some (.int .i64 b) := (hR.cell? 1).trans rfl
 have c2 : W.cell? ⟨B,2,none⟩ = some (.int .i64 c) := (hR.cell? 2).trans rfl
 have hBW := hR.lt
 have hne : B ≠ W.heap.size := by omega
 have hfin : ∀ o,Below w.heap.size w (W.alloc o) := fun o => hb.alloc hb.size o
 obtain ⟨x1,x2,x3,x4,x5,x6⟩ := x
 obtain ⟨r,hr2⟩ : ∃ r,r = decide (x1 ≤ a ∧ x2 ≤ b ∧ x3 ≤ c) := ⟨_,rfl⟩
 show Calls Tryz.prog 64 #[.agg #[.int .i64 x1,.int .i64 x2,.int .i64 x3,.int .i64 x4,.int .i64 x5,.int .i64 x6],.pointer (some ⟨B,0,none⟩)] W (fun e w' => e = .returned (.bool (decide (x1 ≤ a ∧ x2 ≤ b ∧ x3 ≤ c))) ∧ _)
 rw [← hr2]
 replace hr2 := hide hr2
 replace hfin := hide hfin
 clear hb hr hR
 by_cases g1 : x1 ≤ a
 ·by_cases g2 : x2 ≤ b
  ·by_cases g3 : x3 ≤ c
   ·obtain rfl : r = true := by rw [hr2.out];simp [g1,g2,g3]
    clear hr2
    go_enter Tryz.func64,Tryz.ntmps64
    go_wp2
    go_ret
    exact ⟨rfl,hfin.out _⟩
   ·obtain rfl : r = false := by rw [hr2.out];simp [g1,g2,g3]
    clear hr2
    go_enter Tryz.func64,Tryz.ntmps64
    go_wp2
    go_ret
    exact ⟨rfl,hfin.out _⟩
  ·obtain rfl : r = false := by rw [hr2.out];simp [g1,g2]
   clear hr2
   go_enter Tryz.func64,Tryz.ntmps64
   go_wp2
   go_ret
   exact ⟨rfl,hfin.out _⟩
 ·obtain rfl : r = false := by rw [hr2.out];simp [g1]
  clear hr2
  go_enter Tryz.func64,Tryz.ntmps64
  go_wp2
  go_ret
  exact ⟨rfl,hfin.out _⟩
theorem hits_enters : ∀ args w,(callFunc 64 args).run Tryz.prog w = .ok (.enter 64 args) w := enters_of Tryz.func64 (by kernel_rfl) rfl
end Go.Proofs.YtelgllgaofjgjaaGreat
end
section
open Go.RowKit
set_option linter.unusedVariables false
set_option linter.unusedSimpArgs false
namespace Go.Proofs.YtelgllgaofjgjaaGreat
def CntW (t : TypeId) (w : World) (b n : Nat) (F : Nat → Nat → Nat) : Prop :=
 ∃ cur : Array Value,w.heap[b]? = some (.cells cur t (0,0)) ∧ cur.size = n * 3 ∧ ∀ i j,i < n → j < 3 → cur[i * 3 + j]? = some (.int .i64 ((F i j : Nat) : Int))
section
variable {t : TypeId} {w X : World} {b n : Nat} {F : Nat → Nat → Nat}
theorem CntW.lt (h : CntW t w b n F) : b < w.heap.size := by
 obtain ⟨cur,h1,_⟩ := h
 exact (Array.getElem?_eq_some_iff.1 h1).1
theorem CntW.block (h : CntW t w b n F) (hX : X.heap[b]? = w.heap[b]?) : CntW t X b n F := by
 obtain ⟨cur,h1,h2⟩ := h
 exact ⟨cur,hX.trans h1,h2⟩
theorem CntW.keep (h : CntW t w b n F) (hb : Below w.heap.size w X) : CntW t X b n F := h.block (hb.block b h.lt)
theorem CntW.cell (h : CntW t w b n F) {i j : Nat} (hi : i < n) (hj : j < 3) : w.cell? ⟨b,i * 3 + j,none⟩ = some (.int .i64 ((F i j : Nat) : Int)) := by
 obtain ⟨cur,h1,h2,h3⟩ := h
 have := cell_of_row w b (i * 3 + j) cur t (0,0) h1
 rw [this]
 exact h3 i j hi hj
theorem CntW.frozen (h : CntW t w b n F) (k : Nat) : w.frozen? ⟨b,k,none⟩ = false := by
 obtain ⟨cur,h1,h2⟩ := h
 simp [World.frozen?,h1]
theorem CntW.set (h : CntW t w b n F) {i j : Nat} (hi : i < n) (hj : j < 3) (v : Nat) : CntW t (w.setCell ⟨b,i * 3 + j,none⟩ (.int .i64 (v : Int))) b n fun a c => if a = i ∧ c = j then v else F a c := by
 obtain ⟨cur,h1,h2,h3⟩ := h
 refine ⟨cur.set! (i * 3 + j) (.int .i64 (v : Int)),?_,by simp [h2],fun a c ha hc => ?_⟩
 ·simp [World.setCell,Array.getElem?_modify,h1]
 ·by_cases he : a = i ∧ c = j
  ·obtain ⟨rfl,rfl⟩ := he
   show _ = some (Value.int .i64 (((if a = a ∧ c = c then v else F a c) : Nat) : Int))
   rw [if_pos ⟨rfl,rfl⟩]
   have h9 : a * 3 + c < cur.size := by rw [h2];omega
   simp [h9]
  ·show _ = some (Value.int .i64 (((if a = i ∧ c = j then v else F a c) : Nat) : Int))
   rw [if_neg he]
   rw [← h3 a c ha hc]
   have hne : i * 3 + j ≠ a * 3 + c := by omega
   simp [Array.getElem?_setIfInBounds_ne hne]
theorem CntW.congr {G : Nat → Nat → Nat} (h : CntW t w b n F) (hFG : ∀ i j,i < n → j < 3 → F i j = G i j) : CntW t w b n G := by
 obtain ⟨cur,h1,h2,h3⟩ := h
 exact ⟨cur,h1,h2,fun i j hi hj => by rw [← hFG i j hi hj];exact h3 i j hi hj⟩
end
theorem wpList_make_cnt {P : Program} (w : World) {ops : Array Oper} {rest : List Oper} {o : Oper} {a : Act} {Q : Exit → Act → World → Prop}
  (hg : o.guard = none) (l c : Operand) (t : TypeId) (hop : o.op = Op.makeSlice t l c)
  (e : TypeId) (bytes : Nat) (h1 : P.underlying t = some (.slice e)) (h2 : (P.info? e).map (fun i => (i.zero,i.size,i.bytes)) = some (some (.agg #[.int .i64 0,.int .i64 0,.int .i64 0]),3,bytes))
  (kl kc : IntKind) (L C : Int) (n : Nat) (hl : a.eval l = .int kl L) (hc : a.eval c = .int kc C) (hL : L = (n : Int)) (hC : C = (n : Int)) (b2 : bytes * n ≤ 281474976710656) (b3 : n ≤ 9223372036854775807)
  (hK : ∀ w',CntW e w' w.heap.size n (fun _ _ => 0) → Below w.heap.size w w' → w'.heap.size = w.heap.size + 1 → wpList P ops Q rest (a.put o.dst (.slice (some ⟨w.heap.size,0,none⟩) n n)) w') :
  wpList P ops Q (o :: rest) a w := by
 obtain ⟨i,hi,hz,hs,hb⟩ := info_parts h2
 refine wpList_plain hg fun K hK' => ?_
 subst hL hC
 have hrun := run_make (P := P) w t e i _ h1 hi hz kl kc n n (by omega) (by omega) (by rw [hb];omega) (by omega)
 simp only [Int.toNat_natCast,hs] at hrun
 unfold Oper.wp
 simp [execOp,hop,hl,hc,hrun,Result.andThen]
 refine hK' _ _ (hK _ ⟨_,heap_alloc_new _ _,size_madeCells _ _,fun i j hi hj => ?_⟩ (Bel.al (Below.refl _ _) _) (by simp))
 have h9 : i * 3 + j < n * 3 := by omega
 unfold madeCells Value.cells
 rw [Array.getElem?_map,Array.getElem?_range,if_pos h9]
 have h8 : (i * 3 + j) % 3 = j := by omega
 simp only [Option.map_some,List.size_toArray,List.length_cons,List.length_nil]
 show some _ = some _
 rw [show (0 + 1 + 1 + 1) = 3 from rfl,h8]
 match j,hj with
 | 0,_ => rfl
 | 1,_ => rfl
 | 2,_ => rfl
theorem order_range {b : Bool} {lo hi : Int} {p : Option Int} {l : List Int} (h : orderE b lo hi p l = 0) : ∀ x ∈ l,lo ≤ x ∧ x ≤ hi := by
 induction l generalizing p with
 | nil => intro x hx;cases hx
 | cons y r ih =>
  rw [orderE] at h
  split at h
  ·exact absurd h (by decide)
  ·split at h
   ·exact absurd h (by decide)
   ·intro x hx
    rcases List.mem_cons.1 hx with rfl | hx
    ·omega
    ·exact ih h x hx
theorem res_small {g : GameD} {r : ResD} (h : resE g r = 0) : (r.main.length ≤ 10 ∧ r.bonus.length ≤ 4 ∧ r.extra.length ≤ 4) ∧ (∀ x ∈ r.main,0 ≤ x ∧ x ≤ 80) ∧ (g.kind ≠ 2 → (∀ x ∈ r.bonus,0 ≤ x ∧ x ≤ 80) ∧ ∀ x ∈ r.extra,0 ≤ x ∧ x ≤ 80) := by
 obtain ⟨h1,h2⟩ := res_num h
 obtain ⟨l1,l2,l3⟩ := num_lens h2
 obtain ⟨b1,b2,b3⟩ := mat_bounds (game_kind h1) (game_mat h1)
 obtain ⟨f1,f2,f3,f4,f5,f6,f7,f8,f9,f10,f11⟩ := mat_facts (game_mat h1)
 refine ⟨⟨by omega,by omega,by omega⟩,?_⟩
 unfold numE at h2
 by_cases g1 : (r.main.length : Int) ≠ g.main ∨ (r.bonus.length : Int) ≠ g.bonus ∨ (r.extra.length : Int) ≠ g.extra
 ·rw [if_pos g1] at h2;exact absurd h2 (by decide)
 rw [if_neg g1] at h2
 by_cases g2 : g.kind = 2
 ·rw [if_pos g2] at h2
  exact ⟨fun x hx => by have := order_range h2 x hx;omega,fun h => absurd g2 h⟩
 rw [if_neg g2] at h2
 by_cases h3 : orderE true 1 g.of none r.main = 0
 ·rw [if_neg (by simpa using h3)] at h2
  refine ⟨fun x hx => by have := order_range h3 x hx;omega,fun _ => ?_⟩
  by_cases h4 : orderE true 1 g.bonusOf none r.bonus = 0
  ·rw [if_neg (by simpa using h4)] at h2
   by_cases h5 : orderE true 1 g.of none r.extra = 0
   ·exact ⟨fun x hx => by have := order_range h4 x hx;omega,fun x hx => by have := order_range h5 x hx;omega⟩
   ·rw [if_pos h5] at h2;exact absurd h2 h5
  ·rw [if_pos h4] at h2;exact absurd h2 h4
 ·rw [if_pos h3] at h2;exact absurd h2 h3
theorem tiers_pos {g : GameD} (h : gameE g = 0) : 1 ≤ g.tiers.length ∧ g.tiers.length ≤ 12 := by
 unfold gameE at h
 repeat (split at h;· exact absurd h (by simp))
 split at h
 ·rename_i h1;exact absurd h h1
 ·unfold tiersE at h
  split at h
  ·exact absurd h (by simp)
  ·rename_i h1
   have h3 : inB g.tiers.length 1 12 = true := by cases hx : inB (g.tiers.length : Int) 1 12 <;> simp_all
   have := inB_iff.1 h3
   omega
section
variable {α : Type} {V : α → Value} {w X : World} {v : Value} {l : List α} {p : Nat → Prop}
theorem Rd.chg (h : Rd V w v l) (hc : Chg p w X) (hp : ∀ k,v.ownBlock = some k → ¬ p k) : Rd V X v l :=
 h.keep hc.size fun q hq ho => World.cell?_of_block (hc.block q.block hq (hp _ ho))
theorem ResR.chg {w0 : World} {mv bv xv : Value} {r : ResD} (h : ResR w0 mv bv xv r) (hb : Below w0.heap.size w0 X) : ResR X mv bv xv r := h.below hb
theorem Row.chg {b : Nat} {t : TypeId} {cs : List Value} (h : Row w b t cs) (hc : Chg p w X) (hp : ¬ p b) : Row X b t cs := (hc.block b h.lt hp).trans h
end
end Go.Proofs.YtelgllgaofjgjaaGreat
end
section
open Go.RowKit Go.Lib
set_option linter.unusedVariables false
set_option linter.unusedSimpArgs false
namespace Go.Proofs.YtelgllgaofjgjaaGreat
theorem keys_at {X : World} {ka : Option Addr} {E kc : Nat} {es : List EntD} (h : OwnS 2 keyC (fun _ _ => True) X 0 87 (.slice ka E kc) (es.map keyD)) : ∃ (kb ko : Nat),(es ≠ [] → ka = some ⟨kb,ko,none⟩) ∧ (es ≠ [] → kb < X.heap.size) ∧ ∀ (i : Nat) (d : EntD),es[i]? = some d → X.cell? ⟨kb,ko + i * 2,none⟩ = some (.int .i64 d.ticket) ∧ X.cell? ⟨kb,ko + i * 2 + 1,none⟩ = some (.int .i64 d.line) := by
 obtain ⟨ao,cap,e,h1,h2,h3⟩ := OwnS.rd keyC_len h
 injection e with e1 e2 e3
 subst e1
 by_cases hn : es = []
 ·subst hn
  exact ⟨0,0,fun h => absurd rfl h,fun h => absurd rfl h,fun i d hd => by simp at hd⟩
 ·obtain ⟨b,off,rfl,hb,hc⟩ := h3 (by rw [List.length_map];exact List.length_pos_iff.2 hn)
  refine ⟨b,off,fun _ => rfl,fun _ => hb,fun i d hd => ?_⟩
  have h4 := hc i (keyD d) (by rw [List.getElem?_map,hd];rfl)
  exact ⟨h4 0 _ rfl,h4 1 _ rfl⟩
set_option maxHeartbeats 16000000 in
set_option maxRecDepth 100000 in
theorem ichoose_any (ib : Nat) (col : Nat → Nat) (g : GameD) (es : List EntD) (mv bv xv : Value) (r : ResD) (w : World) (hI : IdxR w col ib g es) (hr : ResR w mv bv xv r) (hres : resE g r = 0) (hkind : g.kind ≠ 2) (hsize : es.length ≤ 100000) :
  Calls Tryz.prog 35 #[.pointer (some ⟨ib,0,none⟩),resVal mv bv xv r] w (fun e w' => ∃ v,e = .returned v ∧ OwnWin w' w.heap.size v (winsX g r es) ∧ Below w.heap.size w w') := by
 obtain ⟨g1,g2,g3,g4,av,tv,kv,lv,ms,mk,mp,n,vs,g5,hS⟩ := hI
 have hsm := hide (res_small hres).1
 have hnum1 := hide (res_small hres).2.1
 have hnum2 := hide ((res_small hres).2.2 hkind).2
 have hnum3 := hide ((res_small hres).2.2 hkind).1
 have hlines := hide (fun e (he : e ∈ es) => show e.l.1.length ≤ 1000 ∧ e.l.2.length ≤ 1000 from by have := line_small (g3 e he).2.2;omega)
 have hol := hide (fun p => occE_len g es p g3)
 have htne : Hid (g.tiers ≠ []) := fun h0 => by
  have := (tiers_pos g2).1
  rw [h0] at this
  simp at this
 obtain ⟨E,hE0⟩ : ∃ E,E = es.length := ⟨_,rfl⟩
 have hE : Hid (es.length ≤ 100000) := hsize
 have hEe := hide hE0
 obtain ⟨ka,kc,hkv⟩ := hS.keys.now.shape
 rw [List.length_map,← hE0] at hkv
 subst hkv
 obtain ⟨ta,tc,rfl,htl,htm⟩ := hS.game.now.2.2.shape
 obtain ⟨tn,htn⟩ : ∃ tn,tn = g.tiers.length := ⟨_,rfl⟩
 rw [← htn] at hS
 obtain ⟨ma,mn,mc,rfl⟩ := hr.1.shape
 obtain ⟨ba,bn,bc,rfl⟩ := hr.2.1.shape
 obtain ⟨xa,xn,xc,rfl⟩ := hr.2.2.shape
 have hlen := hide (show mn = r.main.length ∧ bn = r.bonus.length ∧ xn = r.extra.length from ⟨hr.1.len_eq,hr.2.1.len_eq,hr.2.2.len_eq⟩)
 replace hlen : Hid (mn = r.main.length ∧ bn = r.bonus.length ∧ xn = r.extra.length) := hlen
 have hSh := hide hS
 have hrh := hide hr
 have hbound := hide g1
 have hib := hS.ilt
 replace hres := hide hres
 replace hkind := hide hkind
 have kE : (E : Int) ≤ 100000 := by omega
 clear g1 g2 g3 g4 g5 hr hsize hE0 htl htm
 unfold resVal
 go_enter Tryz.func35,Tryz.ntmps35
 go_upto_region 1 with (fail)
 obtain ⟨W,hW⟩ : ∃ W,W = w.alloc (Obj.cells #[.slice ma mn mc,.slice ba bn bc,.slice xa xn xc,.int .i64 r.factor,.string r.serial] 29) := ⟨_,rfl⟩
 have bW : Below w.heap.size w W := by rw [hW];exact Bel.al (Below.refl _ _) _
 have rb : Row W w.heap.size 29 [.slice ma mn mc,.slice ba bn bc,.slice xa xn xc,.int .i64 r.factor,.string r.serial] := by rw [hW];exact Row.new _ _ _
 rw [← hW]
 clear hW
 have c23 : W.cell? ⟨ib,23,none⟩ = some (.slice ka E kc) := (hS.below (col' := col) bW fun _ _ => rfl).at23
 go_wp2_with (first | (with_reducible refine wpList_make_cnt _ rfl _ _ 127 rfl 129 24 Tryz.underlying127 (by kernel_rfl) .i64 .i64 _ _ E rfl rfl rfl rfl (by omega) (by omega) ?_) | fail)
 intro W1 hq0 b1 s1
 obtain ⟨cb,hcb⟩ : ∃ cb,cb = W.heap.size := ⟨_,rfl⟩
 rw [← hcb] at hq0 ⊢
 have hB1 : Below w.heap.size w W1 := Bel.to bW b1
 have hcw : w.heap.size < cb := by have := rb.lt;omega
 have hcb6 : Hid (col cb = 6) := hbound.out cb (by omega)
 have hW1s : Hid (w.heap.size ≤ W1.heap.size) := hB1.size
 have hC0 : Chg (fun b => b = cb) W1 W1 := Chg.refl _ _
 have hBw : Hid (∀ X,Chg (fun b => b = cb) W1 X → Below w.heap.size w X) := fun X hX => hB1.trans (hX.below (by have := hB1.size;omega) fun k hk e => by omega)
 have hbox : Hid (∀ X,Chg (fun b => b = cb) W1 X → Row X w.heap.size 29 [.slice ma mn mc,.slice ba bn bc,.slice xa xn xc,.int .i64 r.factor,.string r.serial]) := fun X hX => (Row.keep rb b1).chg hX (fun e => by omega)
 have hmem : Hid (∀ X,Chg (fun b => b = cb) W1 X → ResR X (.slice ma mn mc) (.slice ba bn bc) (.slice xa xn xc) r) := fun X hX => hrh.out.below (hBw.out X hX)
 have hSX : Hid (∀ X,Chg (fun b => b = cb) W1 X → IdxS X col ib g av (.slice ta tn tc) (.slice ka E kc) lv ms mk mp n vs (es.map keyD) (es.map keyD) (es.map (·.l)) (occE g es)) := fun X hX => (hSh.out.below hB1 fun _ _ => rfl).turn hX (fun k _ e => e ▸ hcb6.out) fun _ _ => rfl
 have h25 : Hid (∀ X,Chg (fun b => b = cb) W1 X → X.cell? ⟨ib,25,none⟩ = some (.map (some mp))) := fun X hX => (hSX.out X hX).at25
 have hpl : Hid (∀ X,Chg (fun b => b = cb) W1 X → PlT X (fun k => col k = 4) mp n (occE g es)) := fun X hX => (hSX.out X hX).places.now
 have htnh := hide htn
 have hfin : Hid (∀ X,Chg (fun b => b = cb) W1 X → (X.cell? ⟨ib,23,none⟩ = some (.slice ka E kc) ∧ X.cell? ⟨ib,21,none⟩ = some (.slice ta tn tc) ∧ RdS 6 tierCells X (.slice ta tn tc) g.tiers ∧ g.tiers ≠ []) ∧ ∃ (kb ko : Nat),(es ≠ [] → ka = some ⟨kb,ko,none⟩) ∧ (es ≠ [] → kb < X.heap.size) ∧ ∀ (i : Nat) (d : EntD),es[i]? = some d → X.cell? ⟨kb,ko + i * 2,none⟩ = some (.int .i64 d.ticket) ∧ X.cell? ⟨kb,ko + i * 2 + 1,none⟩ = some (.int .i64 d.line)) :=
  fun X hX => ⟨⟨(hSX.out X hX).at23,(hSX.out X hX).at21,(hSX.out X hX).game.now.2.2,htne.out⟩,keys_at (hSX.out X hX).keys.now⟩
 obtain ⟨ws,hws⟩ : ∃ ws,ws = W1 := ⟨_,rfl⟩
 have hCs : Hid (Chg (fun b => b = cb) W1 ws) := by rw [hws];exact Chg.refl _ _
 replace hq0 : Hid (CntW 129 ws cb E (fun _ _ => 0)) := by rw [hws];exact hq0
 rw [← hws]
 clear hws hC0 hB1 rb b1 s1 c23 bW hcb hS htn
 replace hcw := hide hcw
 have c0 : ws.cell? ⟨w.heap.size,0,none⟩ = some (.slice ma mn mc) := ((hbox.out ws hCs.out).cell? 0).trans rfl
 go_wp2
 go_loopg [7,9,31,42] mn (fun gh _ _ t _ wr => ∃ (k : Nat),gh = mn - k ∧ k ≤ mn ∧ t = .int .i64 (k : Int) ∧ Hid (CntW 129 wr cb E (hitF es (r.main.take k) [] [])) ∧ Hid (Chg (fun b => b = cb) W1 wr))
 case atStart => exact ⟨0,rfl,Nat.zero_le _,rfl,hq0.out.congr fun i j hi hj => by rw [List.take_zero,hitF_nil],hCs.out⟩
 case round =>
  clear c0 hq0 hCs
  obtain ⟨k,hgh,hk,rfl,hQ,hC⟩ := hrel
  replace hgh := hide hgh
  by_cases hlt : k < mn
  ·have hlt2 := hide hlt
   have hil : k < r.main.length := by rw [← hlen.out.1];exact hlt
   have hb1 := hmem.out wr hC.out
   obtain ⟨b,off,rfl,hbb,hcell⟩ := hb1.1.at_ hil
   have c1 := hcell k hil
   obtain ⟨x,hx0⟩ : ∃ x,x = r.main[k] := ⟨_,rfl⟩
   have hxm := hide (hnum1.out x (by rw [hx0];simp))
   rw [← hx0] at c1
   clear hcell hb1
   have i1 : (0 : Int) ≤ (k : Int) := by omega
   have i2 : (k : Int) < (mn : Int) := by omega
   have i3 : (mn : Int) ≤ 100 := by have := hlen.out.1;have := hsm.out.1;omega
   obtain ⟨p,hp⟩ : ∃ p : Int × Int × Int,p = (1,0,x) := ⟨_,rfl⟩
   have cG := plget_any ib mp n p (fun k => col k = 4) (occE g es) wr (h25.out wr hC.out) (hpl.out wr hC.out) (wfI_small (by rw [hp];simp)) (wfI_small (by rw [hp];simp)) (wfI_small (by rw [hp];exact hxm.out))
   have hpv : placeV p = .agg #[.int .i64 1,.int .i64 0,.int .i64 x] := by rw [hp];rfl
   rw [hpv] at cG
   have hLl := hide (fun y (hy : y ∈ occE g es p) => occE_lt y hy)
   have hLn := hide (hol.out p)
   have hp1 : Hid (p = (1,0,r.main[k])) := by show _ = _;rw [hp,hx0]
   obtain ⟨L,hL⟩ : ∃ L,L = occE g es p := ⟨_,rfl⟩
   rw [← hL] at cG hLl hLn
   replace hL := hide hL
   clear hp hpv hx0
   replace cG := hide cG
   obtain ⟨wo,hwo⟩ : ∃ wo,wo = wr := ⟨_,rfl⟩
   rw [← hwo] at cG c1 hQ hC ⊢
   clear hwo
   go_wp2_with (first | (go_at_call 61;(refine cG.out.mono ?_);rintro e w2 ⟨u,rfl,hu,hub,hb2⟩;obtain ⟨ua,uc,rfl,hu1,hu2,hu3⟩ := hu.form;replace hu := hide hu3) | fail)
   clear c1 cG hu3
   obtain ⟨M,hM⟩ : ∃ M,M = L.length := ⟨_,rfl⟩
   have hM63 : (M : Int) ≤ 9223372036854775807 := by unfold maxLen at hu2;omega
   rw [← hM] at hu hub ⊢
   replace hM := hide hM
   clear hu1 hu2
   have hne : Hid (∀ j,(Value.slice ua M uc).ownBlock = some j → ¬ j = cb) := fun j hj e => by
    have h1 : col j = 4 := hub j hj
    have h2 := hcb6.out
    rw [e] at h1
    omega
   have hQ2 : CntW 129 w2 cb E (midF (hitF es (r.main.take k) [] []) 0 L 0) := (hQ.out.keep hb2).congr fun i j _ _ => (midF_zero _ _ _ _ _).symm
   have hC2 : Hid (Chg (fun b => b = cb) W1 w2) := hC.out.then (q := fun _ => False) (Chg.ofBelow hb2) fun _ _ h => h.elim
   clear hQ hC hb2 hub
   go_loopg [9,42] M (fun gh _ t wr => ∃ (m : Nat),gh = M - m ∧ m ≤ M ∧ t = .int .i64 (m : Int) ∧ Hid (CntW 129 wr cb E (midF (hitF es (r.main.take k) [] []) 0 L m)) ∧ Hid (Chg (fun b => b = cb) w2 wr))
   case atStart => exact ⟨0,rfl,Nat.zero_le _,rfl,hQ2,Chg.refl _ _⟩
   case round =>
    clear hQ2
    obtain ⟨m,hgh2,hm,rfl,hQ,hC9⟩ := hrel
    replace hgh2 := hide hgh2
    by_cases hlt9 : m < M
    ·have hlt3 := hide hlt9
     have hil2 : m < L.length := by rw [← hM.out];exact hlt9
     have hu9 := hu.out.chg hC9.out hne.out
     obtain ⟨b2,off2,rfl,hbb2,hcell2⟩ := hu9.at_ hil2
     have c2 := hcell2 m hil2
     obtain ⟨q0,hq0⟩ : ∃ q0,q0 = L[m] := ⟨_,rfl⟩
     have hq0E : q0 < E := by rw [hEe.out,hq0];exact hLl.out _ (List.getElem_mem _)
     unfold natI at c2
     rw [← hq0] at c2
     obtain ⟨q,hq⟩ : ∃ q,q = midF (hitF es (r.main.take k) [] []) 0 L m q0 0 := ⟨_,rfl⟩
     have c3 : wr.cell? ⟨cb,q0 * 3,none⟩ = some (.int .i64 (q : Int)) := by rw [hq];exact hQ.out.cell hq0E (j := 0) (by decide)
     have c4 : wr.frozen? ⟨cb,q0 * 3,none⟩ = false := hQ.out.frozen _
     have hqb : q ≤ 3000000 := by
      rw [hq]
      have h8 := hLn.out
      have h9 := hE.out
      refine Nat.le_trans (midF_le (B := 1000000) (C := 1400000) (hitF_le hlines.out ?_ ?_ ?_) (Nat.le_trans List.count_le_length (by omega))) (by omega)
      all_goals first | (have := hsm.out.1;have := hsm.out.2.1;have := hsm.out.2.2;simp;done) | (have := hsm.out.1;have := hsm.out.2.1;have := hsm.out.2.2;(try rw [List.length_take]);omega)
     have hwr : IntKind.i64.wrap ((q : Int) + 1) = ((q + 1 : Nat) : Int) := by
      rw [IntWalk.i64_in _ (by omega)]
      omega
     have hQ3 : Hid (CntW 129 (wr.setCell ⟨cb,q0 * 3,none⟩ (.int .i64 ((q + 1 : Nat) : Int))) cb E (midF (hitF es (r.main.take k) [] []) 0 L (m + 1))) := (hQ.out.set hq0E (j := 0) (by decide) (q + 1)).congr fun i j _ _ => by rw [hq];exact midF_step _ _ _ _ hil2 q0 hq0 i j
     have hC3 : Hid (Chg (fun b => b = cb) w2 (wr.setCell ⟨cb,q0 * 3,none⟩ (.int .i64 ((q + 1 : Nat) : Int)))) := hC9.out.trans (Chg.cell _ _ _ _)
     have j1 : (0 : Int) ≤ (q0 : Int) := by omega
     have j2 : (q0 : Int) < (E : Int) := by omega
     have j3 : (0 : Int) ≤ (m : Int) := by omega
     have j4 : (m : Int) < (M : Int) := by omega
     clear hQ hC9 hq hq0 hcell2 hu9 hqb
     go_wp2
     go_roundg (M - (m + 1))
     case measure => have := hgh2.out;have := hlt3.out;omega
     case rel => exact ⟨m + 1,rfl,by have := hlt3.out;omega,by (have := hlt3.out;go_num),hQ3,hC3⟩
    ·have hmM : Hid (m = L.length) := by show m = _;rw [← hM.out];omega
     have hC5 : Hid (Chg (fun b => b = cb) W1 wr) := hC2.out.trans hC9.out
     clear hgh2 hC9 hC2
     go_wp2
     go_roundg (mn - (k + 1))
     case measure => have := hgh.out;have := hlt2.out;omega
     case rel => exact ⟨k + 1,rfl,by have := hlt2.out;omega,by (have := hlt2.out;go_num),hQ.out.congr fun i j hi hj => by rw [midF_end _ _ _ _ hmM.out,hL.out];exact (hitF_main hkind.out es r.main [] [] k hil i j (by rw [← hEe.out];exact hi) p hp1.out).symm,hC5⟩
  ·obtain rfl : k = mn := by omega
   have hq0 : Hid (CntW 129 wr cb E (hitF es r.main [] [])) := hQ.out.congr fun i j _ _ => by rw [List.take_of_length_le (by rw [← hlen.out.1];exact Nat.le_refl _)]
   obtain ⟨ws,hws⟩ : ∃ ws,ws = wr := ⟨_,rfl⟩
   have hCs := hC
   rw [← hws] at hq0 hCs ⊢
   clear hws hQ hC hgh hk hlt
   have c0 : ws.cell? ⟨w.heap.size,2,none⟩ = some (.slice xa xn xc) := ((hbox.out ws hCs.out).cell? 2).trans rfl
   go_wp2
   go_loopg [11,13,59,70] xn (fun gh _ _ t _ wr => ∃ (k : Nat),gh = xn - k ∧ k ≤ xn ∧ t = .int .i64 (k : Int) ∧ Hid (CntW 129 wr cb E (hitF es r.main [] (r.extra.take k))) ∧ Hid (Chg (fun b => b = cb) W1 wr))
   case atStart => exact ⟨0,rfl,Nat.zero_le _,rfl,hq0.out.congr fun i j hi hj => by rw [List.take_zero],hCs.out⟩
   case round =>
    clear c0 hq0 hCs
    obtain ⟨k,hgh,hk,rfl,hQ,hC⟩ := hrel
    replace hgh := hide hgh
    by_cases hlt : k < xn
    ·have hlt2 := hide hlt
     have hil : k < r.extra.length := by rw [← hlen.out.2.2];exact hlt
     have hb1 := hmem.out wr hC.out
     obtain ⟨b,off,rfl,hbb,hcell⟩ := hb1.2.2.at_ hil
     have c1 := hcell k hil
     obtain ⟨x,hx0⟩ : ∃ x,x = r.extra[k] := ⟨_,rfl⟩
     have hxm := hide (hnum2.out x (by rw [hx0];simp))
     rw [← hx0] at c1
     clear hcell hb1
     have i1 : (0 : Int) ≤ (k : Int) := by omega
     have i2 : (k : Int) < (xn : Int) := by omega
     have i3 : (xn : Int) ≤ 100 := by have := hlen.out.2.2;have := hsm.out.2.2;omega
     obtain ⟨p,hp⟩ : ∃ p : Int × Int × Int,p = (1,0,x) := ⟨_,rfl⟩
     have cG := plget_any ib mp n p (fun k => col k = 4) (occE g es) wr (h25.out wr hC.out) (hpl.out wr hC.out) (wfI_small (by rw [hp];simp)) (wfI_small (by rw [hp];simp)) (wfI_small (by rw [hp];exact hxm.out))
     have hpv : placeV p = .agg #[.int .i64 1,.int .i64 0,.int .i64 x] := by rw [hp];rfl
     rw [hpv] at cG
     have hLl := hide (fun y (hy : y ∈ occE g es p) => occE_lt y hy)
     have hLn := hide (hol.out p)
     have hp1 : Hid (p = (1,0,r.extra[k])) := by show _ = _;rw [hp,hx0]
     obtain ⟨L,hL⟩ : ∃ L,L = occE g es p := ⟨_,rfl⟩
     rw [← hL] at cG hLl hLn
     replace hL := hide hL
     clear hp hpv hx0
     replace cG := hide cG
     obtain ⟨wo,hwo⟩ : ∃ wo,wo = wr := ⟨_,rfl⟩
     rw [← hwo] at cG c1 hQ hC ⊢
     clear hwo
     go_wp2_with (first | (go_at_call 61;(refine cG.out.mono ?_);rintro e w2 ⟨u,rfl,hu,hub,hb2⟩;obtain ⟨ua,uc,rfl,hu1,hu2,hu3⟩ := hu.form;replace hu := hide hu3) | fail)
     clear c1 cG hu3
     obtain ⟨M,hM⟩ : ∃ M,M = L.length := ⟨_,rfl⟩
     have hM63 : (M : Int) ≤ 9223372036854775807 := by unfold maxLen at hu2;omega
     rw [← hM] at hu hub ⊢
     replace hM := hide hM
     clear hu1 hu2
     have hne : Hid (∀ j,(Value.slice ua M uc).ownBlock = some j → ¬ j = cb) := fun j hj e => by
      have h1 : col j = 4 := hub j hj
      have h2 := hcb6.out
      rw [e] at h1
      omega
     have hQ2 : CntW 129 w2 cb E (midF (hitF es r.main [] (r.extra.take k)) 2 L 0) := (hQ.out.keep hb2).congr fun i j _ _ => (midF_zero _ _ _ _ _).symm
     have hC2 : Hid (Chg (fun b => b = cb) W1 w2) := hC.out.then (q := fun _ => False) (Chg.ofBelow hb2) fun _ _ h => h.elim
     clear hQ hC hb2 hub
     go_loopg [13,70] M (fun gh _ t wr => ∃ (m : Nat),gh = M - m ∧ m ≤ M ∧ t = .int .i64 (m : Int) ∧ Hid (CntW 129 wr cb E (midF (hitF es r.main [] (r.extra.take k)) 2 L m)) ∧ Hid (Chg (fun b => b = cb) w2 wr))
     case atStart => exact ⟨0,rfl,Nat.zero_le _,rfl,hQ2,Chg.refl _ _⟩
     case round =>
      clear hQ2
      obtain ⟨m,hgh2,hm,rfl,hQ,hC9⟩ := hrel
      replace hgh2 := hide hgh2
      by_cases hlt9 : m < M
      ·have hlt3 := hide hlt9
       have hil2 : m < L.length := by rw [← hM.out];exact hlt9
       have hu9 := hu.out.chg hC9.out hne.out
       obtain ⟨b2,off2,rfl,hbb2,hcell2⟩ := hu9.at_ hil2
       have c2 := hcell2 m hil2
       obtain ⟨q0,hq0⟩ : ∃ q0,q0 = L[m] := ⟨_,rfl⟩
       have hq0E : q0 < E := by rw [hEe.out,hq0];exact hLl.out _ (List.getElem_mem _)
       unfold natI at c2
       rw [← hq0] at c2
       obtain ⟨q,hq⟩ : ∃ q,q = midF (hitF es r.main [] (r.extra.take k)) 2 L m q0 2 := ⟨_,rfl⟩
       have c3 : wr.cell? ⟨cb,q0 * 3 + 2,none⟩ = some (.int .i64 (q : Int)) := by rw [hq];exact hQ.out.cell hq0E (j := 2) (by decide)
       have c4 : wr.frozen? ⟨cb,q0 * 3 + 2,none⟩ = false := hQ.out.frozen _
       have hqb : q ≤ 3000000 := by
        rw [hq]
        have h8 := hLn.out
        have h9 := hE.out
        refine Nat.le_trans (midF_le (B := 1000000) (C := 1400000) (hitF_le hlines.out ?_ ?_ ?_) (Nat.le_trans List.count_le_length (by omega))) (by omega)
        all_goals first | (have := hsm.out.1;have := hsm.out.2.1;have := hsm.out.2.2;simp;done) | (have := hsm.out.1;have := hsm.out.2.1;have := hsm.out.2.2;(try rw [List.length_take]);omega)
       have hwr : IntKind.i64.wrap ((q : Int) + 1) = ((q + 1 : Nat) : Int) := by
        rw [IntWalk.i64_in _ (by omega)]
        omega
       have hQ3 : Hid (CntW 129 (wr.setCell ⟨cb,q0 * 3 + 2,none⟩ (.int .i64 ((q + 1 : Nat) : Int))) cb E (midF (hitF es r.main [] (r.extra.take k)) 2 L (m + 1))) := (hQ.out.set hq0E (j := 2) (by decide) (q + 1)).congr fun i j _ _ => by rw [hq];exact midF_step _ _ _ _ hil2 q0 hq0 i j
       have hC3 : Hid (Chg (fun b => b = cb) w2 (wr.setCell ⟨cb,q0 * 3 + 2,none⟩ (.int .i64 ((q + 1 : Nat) : Int)))) := hC9.out.trans (Chg.cell _ _ _ _)
       have j1 : (0 : Int) ≤ (q0 : Int) := by omega
       have j2 : (q0 : Int) < (E : Int) := by omega
       have j3 : (0 : Int) ≤ (m : Int) := by omega
       have j4 : (m : Int) < (M : Int) := by omega
       clear hQ hC9 hq hq0 hcell2 hu9 hqb
       go_wp2
       go_roundg (M - (m + 1))
       case measure => have := hgh2.out;have := hlt3.out;omega
       case rel => exact ⟨m + 1,rfl,by have := hlt3.out;omega,by (have := hlt3.out;go_num),hQ3,hC3⟩
      ·have hmM : Hid (m = L.length) := by show m = _;rw [← hM.out];omega
       have hC5 : Hid (Chg (fun b => b = cb) W1 wr) := hC2.out.trans hC9.out
       clear hgh2 hC9 hC2
       go_wp2
       go_roundg (xn - (k + 1))
       case measure => have := hgh.out;have := hlt2.out;omega
       case rel => exact ⟨k + 1,rfl,by have := hlt2.out;omega,by (have := hlt2.out;go_num),hQ.out.congr fun i j hi hj => by rw [midF_end _ _ _ _ hmM.out,hL.out];exact (hitF_extra hkind.out es r.main [] r.extra k hil i j (by rw [← hEe.out];exact hi) hj p hp1.out).symm,hC5⟩
    ·obtain rfl : k = xn := by omega
     have hq0 : Hid (CntW 129 wr cb E (hitF es r.main [] r.extra)) := hQ.out.congr fun i j _ _ => by rw [List.take_of_length_le (by rw [← hlen.out.2.2];exact Nat.le_refl _)]
     obtain ⟨ws,hws⟩ : ∃ ws,ws = wr := ⟨_,rfl⟩
     have hCs := hC
     rw [← hws] at hq0 hCs ⊢
     clear hws hQ hC hgh hk hlt
     have c0 : ws.cell? ⟨w.heap.size,1,none⟩ = some (.slice ba bn bc) := ((hbox.out ws hCs.out).cell? 1).trans rfl
     go_wp2
     go_loopg [15,17,87,98] bn (fun gh _ _ t _ wr => ∃ (k : Nat),gh = bn - k ∧ k ≤ bn ∧ t = .int .i64 (k : Int) ∧ Hid (CntW 129 wr cb E (hitF es r.main (r.bonus.take k) r.extra)) ∧ Hid (Chg (fun b => b = cb) W1 wr))
     case atStart => exact ⟨0,rfl,Nat.zero_le _,rfl,hq0.out.congr fun i j hi hj => by rw [List.take_zero],hCs.out⟩
     case round =>
      clear c0 hq0 hCs
      obtain ⟨k,hgh,hk,rfl,hQ,hC⟩ := hrel
      replace hgh := hide hgh
      by_cases hlt : k < bn
      ·have hlt2 := hide hlt
       have hil : k < r.bonus.length := by rw [← hlen.out.2.1];exact hlt
       have hb1 := hmem.out wr hC.out
       obtain ⟨b,off,rfl,hbb,hcell⟩ := hb1.2.1.at_ hil
       have c1 := hcell k hil
       obtain ⟨x,hx0⟩ : ∃ x,x = r.bonus[k] := ⟨_,rfl⟩
       have hxm := hide (hnum3.out x (by rw [hx0];simp))
       rw [← hx0] at c1
       clear hcell hb1
       have i1 : (0 : Int) ≤ (k : Int) := by omega
       have i2 : (k : Int) < (bn : Int) := by omega
       have i3 : (bn : Int) ≤ 100 := by have := hlen.out.2.1;have := hsm.out.2.1;omega
       obtain ⟨p,hp⟩ : ∃ p : Int × Int × Int,p = (2,0,x) := ⟨_,rfl⟩
       have cG := plget_any ib mp n p (fun k => col k = 4) (occE g es) wr (h25.out wr hC.out) (hpl.out wr hC.out) (wfI_small (by rw [hp];simp)) (wfI_small (by rw [hp];simp)) (wfI_small (by rw [hp];exact hxm.out))
       have hpv : placeV p = .agg #[.int .i64 2,.int .i64 0,.int .i64 x] := by rw [hp];rfl
       rw [hpv] at cG
       have hLl := hide (fun y (hy : y ∈ occE g es p) => occE_lt y hy)
       have hLn := hide (hol.out p)
       have hp1 : Hid (p = (2,0,r.bonus[k])) := by show _ = _;rw [hp,hx0]
       obtain ⟨L,hL⟩ : ∃ L,L = occE g es p := ⟨_,rfl⟩
       rw [← hL] at cG hLl hLn
       replace hL := hide hL
       clear hp hpv hx0
       replace cG := hide cG
       obtain ⟨wo,hwo⟩ : ∃ wo,wo = wr := ⟨_,rfl⟩
       rw [← hwo] at cG c1 hQ hC ⊢
       clear hwo
       go_wp2_with (first | (go_at_call 61;(refine cG.out.mono ?_);rintro e w2 ⟨u,rfl,hu,hub,hb2⟩;obtain ⟨ua,uc,rfl,hu1,hu2,hu3⟩ := hu.form;replace hu := hide hu3) | fail)
       clear c1 cG hu3
       obtain ⟨M,hM⟩ : ∃ M,M = L.length := ⟨_,rfl⟩
       have hM63 : (M : Int) ≤ 9223372036854775807 := by unfold maxLen at hu2;omega
       rw [← hM] at hu hub ⊢
       replace hM := hide hM
       clear hu1 hu2
       have hne : Hid (∀ j,(Value.slice ua M uc).ownBlock = some j → ¬ j = cb) := fun j hj e => by
        have h1 : col j = 4 := hub j hj
        have h2 := hcb6.out
        rw [e] at h1
        omega
       have hQ2 : CntW 129 w2 cb E (midF (hitF es r.main (r.bonus.take k) r.extra) 1 L 0) := (hQ.out.keep hb2).congr fun i j _ _ => (midF_zero _ _ _ _ _).symm
       have hC2 : Hid (Chg (fun b => b = cb) W1 w2) := hC.out.then (q := fun _ => False) (Chg.ofBelow hb2) fun _ _ h => h.elim
       clear hQ hC hb2 hub
       go_loopg [17,98] M (fun gh _ t wr => ∃ (m : Nat),gh = M - m ∧ m ≤ M ∧ t = .int .i64 (m : Int) ∧ Hid (CntW 129 wr cb E (midF (hitF es r.main (r.bonus.take k) r.extra) 1 L m)) ∧ Hid (Chg (fun b => b = cb) w2 wr))
       case atStart => exact ⟨0,rfl,Nat.zero_le _,rfl,hQ2,Chg.refl _ _⟩
       case round =>
        clear hQ2
        obtain ⟨m,hgh2,hm,rfl,hQ,hC9⟩ := hrel
        replace hgh2 := hide hgh2
        by_cases hlt9 : m < M
        ·have hlt3 := hide hlt9
         have hil2 : m < L.length := by rw [← hM.out];exact hlt9
         have hu9 := hu.out.chg hC9.out hne.out
         obtain ⟨b2,off2,rfl,hbb2,hcell2⟩ := hu9.at_ hil2
         have c2 := hcell2 m hil2
         obtain ⟨q0,hq0⟩ : ∃ q0,q0 = L[m] := ⟨_,rfl⟩
         have hq0E : q0 < E := by rw [hEe.out,hq0];exact hLl.out _ (List.getElem_mem _)
         unfold natI at c2
         rw [← hq0] at c2
         obtain ⟨q,hq⟩ : ∃ q,q = midF (hitF es r.main (r.bonus.take k) r.extra) 1 L m q0 1 := ⟨_,rfl⟩
         have c3 : wr.cell? ⟨cb,q0 * 3 + 1,none⟩ = some (.int .i64 (q : Int)) := by rw [hq];exact hQ.out.cell hq0E (j := 1) (by decide)
         have c4 : wr.frozen? ⟨cb,q0 * 3 + 1,none⟩ = false := hQ.out.frozen _
         have hqb : q ≤ 3000000 := by
          rw [hq]
          have h8 := hLn.out
          have h9 := hE.out
          refine Nat.le_trans (midF_le (B := 1000000) (C := 1400000) (hitF_le hlines.out ?_ ?_ ?_) (Nat.le_trans List.count_le_length (by omega))) (by omega)
          all_goals first | (have := hsm.out.1;have := hsm.out.2.1;have := hsm.out.2.2;simp;done) | (have := hsm.out.1;have := hsm.out.2.1;have := hsm.out.2.2;(try rw [List.length_take]);omega)
         have hwr : IntKind.i64.wrap ((q : Int) + 1) = ((q + 1 : Nat) : Int) := by
          rw [IntWalk.i64_in _ (by omega)]
          omega
         have hQ3 : Hid (CntW 129 (wr.setCell ⟨cb,q0 * 3 + 1,none⟩ (.int .i64 ((q + 1 : Nat) : Int))) cb E (midF (hitF es r.main (r.bonus.take k) r.extra) 1 L (m + 1))) := (hQ.out.set hq0E (j := 1) (by decide) (q + 1)).congr fun i j _ _ => by rw [hq];exact midF_step _ _ _ _ hil2 q0 hq0 i j
         have hC3 : Hid (Chg (fun b => b = cb) w2 (wr.setCell ⟨cb,q0 * 3 + 1,none⟩ (.int .i64 ((q + 1 : Nat) : Int)))) := hC9.out.trans (Chg.cell _ _ _ _)
         have j1 : (0 : Int) ≤ (q0 : Int) := by omega
         have j2 : (q0 : Int) < (E : Int) := by omega
         have j3 : (0 : Int) ≤ (m : Int) := by omega
         have j4 : (m : Int) < (M : Int) := by omega
         clear hQ hC9 hq hq0 hcell2 hu9 hqb
         go_wp2
         go_roundg (M - (m + 1))
         case measure => have := hgh2.out;have := hlt3.out;omega
         case rel => exact ⟨m + 1,rfl,by have := hlt3.out;omega,by (have := hlt3.out;go_num),hQ3,hC3⟩
        ·have hmM : Hid (m = L.length) := by show m = _;rw [← hM.out];omega
         have hC5 : Hid (Chg (fun b => b = cb) W1 wr) := hC2.out.trans hC9.out
         clear hgh2 hC9 hC2
         go_wp2
         go_roundg (bn - (k + 1))
         case measure => have := hgh.out;have := hlt2.out;omega
         case rel => exact ⟨k + 1,rfl,by have := hlt2.out;omega,by (have := hlt2.out;go_num),hQ.out.congr fun i j hi hj => by rw [midF_end _ _ _ _ hmM.out,hL.out];exact (hitF_bonus es r.main r.bonus r.extra k hil i j (by rw [← hEe.out];exact hi) p hp1.out).symm,hC5⟩
      ·obtain rfl : k = bn := by omega
       have hq0 : Hid (CntW 129 wr cb E (hitF es r.main r.bonus r.extra)) := hQ.out.congr fun i j _ _ => by rw [List.take_of_length_le (by rw [← hlen.out.2.1];exact Nat.le_refl _)]
       obtain ⟨ws,hws⟩ : ∃ ws,ws = wr := ⟨_,rfl⟩
       have hCs := hC
       rw [← hws] at hq0 hCs ⊢
       clear hws hQ hC hgh hk hlt
       have hq1 := hq0
       go_upto_region 29 with (fail)
       obtain ⟨wl,hwl⟩ : ∃ wl,wl = ws := ⟨_,rfl⟩
       rw [← hwl] at hq1 hCs ⊢
       clear hwl hq0
       have hRows := hide (hfin.out wl hCs.out)
       obtain ⟨kb,ko,hkab,hkbl,hkc⟩ := hRows.out.2
       have hibl : Hid (ib < wl.heap.size) := World.block_lt_of_cell? _ _ hRows.out.1.1
       replace hkbl := hide hkbl
       replace hkc := hide hkc
       go_wp2
       go_loopg [18,19,20,21,114] E (fun gh t18 _ _ _ t wr => ∃ (k em : Nat) (Ws : List WinD) (ea : Option Addr) (ec : Nat),gh = E - k ∧ k ≤ E ∧ t = .int .i64 (k : Int) ∧ t18 = .slice ea em ec ∧ Hid (OwnWin wr wl.heap.size (.slice ea em ec) Ws) ∧ Hid (Ws = winsX g r (es.take k)) ∧ Hid (Below wl.heap.size wl wr))
       case atStart => exact ⟨0,0,[],none,0,rfl,Nat.zero_le _,rfl,rfl,OwnS.nil _ _ _,rfl,Below.refl _ _⟩
       case round =>
        obtain ⟨k,em,Ws,ea,ec,hgh,hk,rfl,rfl,hO,hWs,hB⟩ := hrel
        replace hgh := hide hgh
        by_cases hlt : k < E
        ·have hlt2 := hide hlt
         have hil : k < es.length := by rw [← hEe.out];exact hlt
         obtain ⟨d,hd⟩ : ∃ d,d = es[k] := ⟨_,rfl⟩
         have hdk : es[k]? = some d := by rw [hd];exact List.getElem?_eq_getElem hil
         have hQr := hq1.out.block (hB.out.block cb hq1.out.lt)
         have F0 : hitF es r.main r.bonus r.extra k 0 = hitN d.l.1 r.main := by unfold hitF;rw [hdk];rfl
         have F1 : hitF es r.main r.bonus r.extra k 1 = hitN d.l.2 r.bonus := by unfold hitF;rw [hdk];rfl
         have F2 : hitF es r.main r.bonus r.extra k 2 = hitN d.l.1 r.extra := by unfold hitF;rw [hdk];rfl
         obtain ⟨h0,hh0⟩ : ∃ h0 : Int,h0 = (hitN d.l.1 r.main : Int) := ⟨_,rfl⟩
         obtain ⟨h1,hh1⟩ : ∃ h1 : Int,h1 = (hitN d.l.2 r.bonus : Int) := ⟨_,rfl⟩
         obtain ⟨h2,hh2⟩ : ∃ h2 : Int,h2 = (hitN d.l.1 r.extra : Int) := ⟨_,rfl⟩
         have hrange : wr.rangeAt cb (k * 3) [.int .i64 h0,.int .i64 h1,.int .i64 h2] := fun j u hu => by
          match j,hu with
          | 0,hu => simp at hu;rw [← hu,hh0,← F0];exact hQr.cell hlt (by decide)
          | 1,hu => simp at hu;rw [← hu,hh1,← F1];exact hQr.cell hlt (by decide)
          | 2,hu => simp at hu;rw [← hu,hh2,← F2];exact hQr.cell hlt (by decide)
         have hmeet : (fun x : TierD => decide (x.main ≤ h0 ∧ x.bonus ≤ h1 ∧ x.extra ≤ h2)) = meetM g d.l r := by
          funext x
          rw [hh0,hh1,hh2]
          exact (meet_hits hres.out hkind.out d.l x).symm
         have hsn := hide (winsX_snoc (g := g) (r := r) hdk)
         have hthere := hide (show (wr.alloc (.cells #[.int .i64 0,.int .i64 0,.int .i64 0] 129)).there wr.heap.size 0 3 from Row.there (Row.newOf (cs := [.int .i64 0,.int .i64 0,.int .i64 0]) _ rfl))
         have i1 : (0 : Int) ≤ (k : Int) := by omega
         have i2 : (k : Int) < (E : Int) := by omega
         have i3 : (E : Int) ≤ 100000 := by have := hE.out;have := hEe.out;omega
         have hkey := hkc.out k d hdk
         replace hdk := hide hdk
         clear hQr F0 F1 F2 hh0 hh1 hh2 hd
         replace hkey := hide hkey
         go_upto_region 33 with (first | (refine wpList_load_mid rfl 129 _ rfl cb (k * 3) rfl [.int .i64 h0,.int .i64 h1,.int .i64 h2] _ hrange Tryz.underlying129 rfl (by kernel_rfl) ?_) | (refine wpList_store_mid rfl 129 _ _ rfl wr.heap.size 0 _ rfl rfl hthere.out (by kernel_rfl) (by rfl) ?_) | fail)
         obtain ⟨X1,hX1⟩ : ∃ X1,X1 = wr.alloc (.cells #[.int .i64 h0,.int .i64 h1,.int .i64 h2] 129) := ⟨_,rfl⟩
         have b1 : Below wr.heap.size wr X1 := by rw [hX1];exact Bel.al (Below.refl _ _) _
         have p1 : Row X1 wr.heap.size 129 [.int .i64 h0,.int .i64 h1,.int .i64 h2] := by rw [hX1];exact Row.newOf _ rfl
         rw [← hX1]
         clear hX1 hthere hrange
         have hB1 : Below wl.heap.size wl X1 := Bel.to hB.out b1
         have c21 : X1.cell? ⟨ib,21,none⟩ = some (.slice ta tn tc) := Bel.cellOf hB1 hRows.out.1.2.1
         have cT := tier_index _ _ _ _ g.tiers X1 (hRows.out.1.2.2.1.below hB1) (hRows.out.1.2.2.2) hits_enters (hits_pred h0 h1 h2 wr.heap.size _ X1 p1)
         rw [hmeet] at cT
         obtain ⟨tt,htt⟩ : ∃ tt,tt = tierM g d.l r := ⟨_,rfl⟩
         have hlo : -1 ≤ tt := by rw [htt];exact tierGo_lo _ _ _
         have hct : tierGo (meetM g d.l r) g.tiers 0 = tt := htt.symm
         rw [hct] at cT
         rw [← htt] at hsn
         replace cT := hide cT
         clear hct htt p1 hmeet
         have hO1 := OwnS.keep hO.out b1
         clear b1 hB hO
         have hka := hkab (fun h => by rw [h] at hil;simp at hil)
         subst hka
         go_upto_region 34 with (first | (go_at_call 62;(refine cT.out.mono ?_);rintro e X2 ⟨rfl,hb2⟩) | fail)
         have hB3 : Hid (Below wl.heap.size wl X2) := Bel.to hB1 hb2
         have hO3 := OwnS.keep hO1 hb2
         have hWl : Hid (Ws.length ≤ 100000) := by
          show Ws.length ≤ _
          rw [hWs.out]
          have hw9 := wins_le g r (es.take k)
          have := hE.out
          rw [List.length_take] at hw9
          omega
         clear hO1 hB1 c21 cT hb2
         by_cases h9 : 0 ≤ tt
         ·have hWn : Hid (Ws ++ [⟨d.ticket,d.line,tt⟩] = winsX g r (es.take (k + 1))) := by show _ = _;rw [hsn.out,if_neg (by omega),hWs.out]
          have e1 : X2.drew.cell? ⟨ib,23,none⟩ = some (.slice (some ⟨kb,ko,none⟩) E kc) := Bel.cellOf (Below.drew hB3.out) hRows.out.1.1
          have e2 : X2.drew.cell? ⟨kb,ko + k * 2,none⟩ = some (.int .i64 d.ticket) := Bel.cellOf (Below.drew hB3.out) hkey.out.1
          have e3 : X2.drew.cell? ⟨kb,ko + k * 2 + 1,none⟩ = some (.int .i64 d.line) := Bel.cellOf (Below.drew hB3.out) hkey.out.2
          have hkbl : Hid (kb < wl.heap.size) := World.block_lt_of_cell? _ _ hkey.out.1
          go_upto_region 35 with (fail)
          refine wp_region_held_drew (S := fun X => X.cell? ⟨ib,23,none⟩ = some (.slice (some ⟨kb,ko,none⟩) E kc) ∧ X.cell? ⟨kb,ko + k * 2,none⟩ = some (.int .i64 d.ticket) ∧ X.cell? ⟨kb,ko + k * 2 + 1,none⟩ = some (.int .i64 d.line)) (by kernel_rfl) ⟨e1,e2,e3⟩ (fun hHeld => ?_)
          refine' wpAnyH_take (i := 0) (oi := _) (v := .slice ea em ec) rfl (by kernel_rfl) (by kernel_rfl) (by kernel_rfl) (fun _ _ _ h => h) (Or.inl ⟨by first | (go_simp;done) | rfl,fun X hX => by go_simp⟩) hHeld ?_
          try simp only [Act.put,zsA,zsB,zsC]
          refine' wpAnyH_take (i := 1) (oi := _) (v := .pointer (some ⟨ib,0,none⟩)) rfl (by kernel_rfl) (by kernel_rfl) (by kernel_rfl) (fun _ _ _ h => h) (Or.inl ⟨by first | (go_simp;done) | rfl,fun X hX => by go_simp⟩) hHeld ?_
          try simp only [Act.put,zsA,zsB,zsC]
          refine' wpAnyH_take (i := 2) (oi := _) (v := .pointer (some ⟨ib,0,none⟩)) rfl (by kernel_rfl) (by kernel_rfl) (by kernel_rfl) (fun _ _ _ h => h) (Or.inl ⟨by first | (go_simp;done) | rfl,fun X hX => by go_simp⟩) hHeld ?_
          try simp only [Act.put,zsA,zsB,zsC]
          refine' wpAnyH_take (i := 3) (oi := _) (v := .pointer (some ⟨ib,23,none⟩)) rfl (by kernel_rfl) (by kernel_rfl) (by kernel_rfl) (fun _ _ _ h => h) (Or.inl ⟨by first | (go_simp;done) | rfl,fun X hX => by go_simp⟩) hHeld ?_
          try simp only [Act.put,zsA,zsB,zsC]
          refine' wpAnyH_take (i := 4) (oi := _) (v := .slice (some ⟨kb,ko,none⟩) E kc) rfl (by kernel_rfl) (by kernel_rfl) (by kernel_rfl) (fun _ _ _ h => h) (Or.inl ⟨by first | (go_simp;done) | rfl,fun X hX => by have h0 := hX.1;go_simp⟩) hHeld ?_
          try simp only [Act.put,zsA,zsB,zsC]
          refine' wpAnyH_take (i := 5) (oi := _) (v := .int .i64 (k : Int)) rfl (by kernel_rfl) (by kernel_rfl) (by kernel_rfl) (fun _ _ _ h => h) (Or.inl ⟨by first | (go_simp;done) | rfl,fun X hX => by go_simp⟩) hHeld ?_
          try simp only [Act.put,zsA,zsB,zsC]
          refine' wpAnyH_take (i := 6) (oi := _) (v := .pointer (some ⟨kb,ko + k * 2,none⟩)) rfl (by kernel_rfl) (by kernel_rfl) (by kernel_rfl) (fun _ _ _ h => h) (Or.inl ⟨by first | (go_simp;done) | rfl,fun X hX => by go_simp⟩) hHeld ?_
          try simp only [Act.put,zsA,zsB,zsC]
          refine' wpAnyH_take (i := 7) (oi := _) (v := .pointer (some ⟨kb,ko + k * 2,none⟩)) rfl (by kernel_rfl) (by kernel_rfl) (by kernel_rfl) (fun _ _ _ h => h) (Or.inl ⟨by first | (go_simp;done) | rfl,fun X hX => by go_simp⟩) hHeld ?_
          try simp only [Act.put,zsA,zsB,zsC]
          refine' wpAnyH_take (i := 8) (oi := _) (v := .int .i64 d.ticket) rfl (by kernel_rfl) (by kernel_rfl) (by kernel_rfl) (fun _ _ _ h => h) (Or.inl ⟨by first | (go_simp;done) | rfl,fun X hX => by have h0 := hX.2.1;go_simp⟩) hHeld ?_
          try simp only [Act.put,zsA,zsB,zsC]
          refine' wpAnyH_take (i := 9) (oi := _) (v := .pointer (some ⟨ib,0,none⟩)) rfl (by kernel_rfl) (by kernel_rfl) (by kernel_rfl) (fun _ _ _ h => h) (Or.inl ⟨by first | (go_simp;done) | rfl,fun X hX => by go_simp⟩) hHeld ?_
          try simp only [Act.put,zsA,zsB,zsC]
          refine' wpAnyH_take (i := 10) (oi := _) (v := .pointer (some ⟨ib,0,none⟩)) rfl (by kernel_rfl) (by kernel_rfl) (by kernel_rfl) (fun _ _ _ h => h) (Or.inl ⟨by first | (go_simp;done) | rfl,fun X hX => by go_simp⟩) hHeld ?_
          try simp only [Act.put,zsA,zsB,zsC]
          refine' wpAnyH_take (i := 11) (oi := _) (v := .pointer (some ⟨ib,23,none⟩)) rfl (by kernel_rfl) (by kernel_rfl) (by kernel_rfl) (fun _ _ _ h => h) (Or.inl ⟨by first | (go_simp;done) | rfl,fun X hX => by go_simp⟩) hHeld ?_
          try simp only [Act.put,zsA,zsB,zsC]
          refine' wpAnyH_take (i := 12) (oi := _) (v := .slice (some ⟨kb,ko,none⟩) E kc) rfl (by kernel_rfl) (by kernel_rfl) (by kernel_rfl) (fun _ _ _ h => h) (Or.inl ⟨by first | (go_simp;done) | rfl,fun X hX => by have h0 := hX.1;go_simp⟩) hHeld ?_
          try simp only [Act.put,zsA,zsB,zsC]
          refine' wpAnyH_take (i := 13) (oi := _) (v := .int .i64 (k : Int)) rfl (by kernel_rfl) (by kernel_rfl) (by kernel_rfl) (fun _ _ _ h => h) (Or.inl ⟨by first | (go_simp;done) | rfl,fun X hX => by go_simp⟩) hHeld ?_
          try simp only [Act.put,zsA,zsB,zsC]
          refine' wpAnyH_take (i := 14) (oi := _) (v := .pointer (some ⟨kb,ko + k * 2,none⟩)) rfl (by kernel_rfl) (by kernel_rfl) (by kernel_rfl) (fun _ _ _ h => h) (Or.inl ⟨by first | (go_simp;done) | rfl,fun X hX => by go_simp⟩) hHeld ?_
          try simp only [Act.put,zsA,zsB,zsC]
          refine' wpAnyH_take (i := 15) (oi := _) (v := .pointer (some ⟨kb,ko + k * 2 + 1,none⟩)) rfl (by kernel_rfl) (by kernel_rfl) (by kernel_rfl) (fun _ _ _ h => h) (Or.inl ⟨by first | (go_simp;done) | rfl,fun X hX => by go_simp⟩) hHeld ?_
          try simp only [Act.put,zsA,zsB,zsC]
          refine' wpAnyH_take (i := 16) (oi := _) (v := .int .i64 d.line) rfl (by kernel_rfl) (by kernel_rfl) (by kernel_rfl) (fun _ _ _ h => h) (Or.inl ⟨by first | (go_simp;done) | rfl,fun X hX => by have h0 := hX.2.2;go_simp⟩) hHeld ?_
          try simp only [Act.put,zsA,zsB,zsC]
          refine' wpAnyH_take (i := 17) (oi := _) (v := .int .i64 tt) rfl (by kernel_rfl) (by kernel_rfl) (by kernel_rfl) (fun _ _ _ h => h) (Or.inl ⟨by first | (go_simp;done) | rfl,fun X hX => by go_simp⟩) hHeld ?_
          try simp only [Act.put,zsA,zsB,zsC]
          refine' wpAnyH_take (i := 18) (oi := _) (v := .agg #[.int .i64 d.ticket,.int .i64 d.line,.int .i64 tt]) rfl (by kernel_rfl) (by kernel_rfl) (by kernel_rfl) (fun _ _ _ h => h) (Or.inl ⟨by first | (go_simp;done) | rfl,fun X hX => by go_simp⟩) hHeld ?_
          try simp only [Act.put,zsA,zsB,zsC]
          refine wpAnyH_ready (rs := [19]) (by kernel_rfl) (by simp) ?_
          refine AllReadyH.cons (o := _) rfl (fun K hK => ?_) AllReadyH.nil
          go_simp
          refine hK.out _ _ ⟨cell_alloc hHeld.1 _,cell_alloc hHeld.2.1 _,cell_alloc hHeld.2.2 _⟩ (fun hHeld => ?_)
          clear hK K
          try simp only [Act.put,zsA,zsB,zsC]
          obtain ⟨Y4,hY4⟩ : ∃ Y4,Y4 = (X2.alloc (Obj.cells #[.int .i64 d.ticket,.int .i64 d.line,.int .i64 tt] 67)).drew := ⟨_,rfl⟩
          have bY4 : Below X2.heap.size X2 Y4 := by rw [hY4];exact Below.drew (Bel.al (Below.refl _ _) _)
          have rn4 : Row Y4 X2.heap.size 67 [.int .i64 d.ticket,.int .i64 d.line,.int .i64 tt] := by rw [hY4];exact (Row.new X2 _ _).drew
          first | rw [← hY4] at hHeld ⊢ | skip
          clear hY4
          refine wpAnyH_ready (rs := [20]) (by kernel_rfl) (by simp) ?_
          refine AllReadyH.cons (o := _) rfl (fun K hK => ?_) AllReadyH.nil
          rw [if_pos (by first | rfl | (go_simp;done))]
          refine wp_appendS _ _ _ 35 rfl (sz := 3) (V := winCells) (R := fun _ _ => True) win_len wl.heap.size 67 (.agg #[.int .i64 0,.int .i64 0,.int .i64 0]) 24 Tryz.underlying35 (by kernel_rfl) rfl (by decide) (.slice ea em ec) Ws rfl (OwnS.keep hO3 bY4) (.slice (some ⟨X2.heap.size,0,none⟩) 1 1) [⟨d.ticket,d.line,tt⟩] rfl (rdS_one _ (V := winCells) (x := (⟨d.ticket,d.line,tt⟩ : WinD)) rn4 (Nat.le_refl _) (by decide)) (fun _ _ _ _ => trivial) (fun x hx u hu => by rcases List.mem_singleton.1 hx with rfl;simp [winCells] at hu;rcases hu with rfl | rfl | rfl <;> rfl) (by have := hWl.out;simp;omega) (by have := hWl.out;simp;omega) (by have := bY4.size;have := hB3.out.size;omega) ?_
          intro v5 X5 ho5 hg5 hl5
          obtain ⟨k5,ka5,kc5,rfl⟩ : ∃ a b c,v5 = Value.slice a b c := by obtain ⟨a,c,h⟩ := OwnS.shape ho5;exact ⟨a,_,c,h⟩
          have n5 : ∀ j,j < wl.heap.size → some j ≠ (Value.slice ea em ec).ownBlock := fun j hj e => by have := (hO3.lt j e.symm).1;omega
          have s5 : wl.heap.size ≤ Y4.heap.size := by have := bY4.size;have := hB3.out.size;omega
          refine hK.out _ _ ⟨(World.cell?_of_block (hg5.block ib (by have := hibl.out;omega) (n5 _ hibl.out))).trans hHeld.1,(World.cell?_of_block (hg5.block kb (by have := hkbl.out;omega) (n5 _ hkbl.out))).trans hHeld.2.1,(World.cell?_of_block (hg5.block kb (by have := hkbl.out;omega) (n5 _ hkbl.out))).trans hHeld.2.2⟩ (fun hHeld => ?_)
          clear hK K
          try simp only [Act.put,zsA,zsB,zsC]
          refine' wpAnyH_take (i := 21) (oi := _) (v := .slice k5 ka5 kc5) rfl (by kernel_rfl) (by kernel_rfl) (by kernel_rfl) (fun _ _ _ h => h) (Or.inl ⟨by first | (go_simp;done) | rfl,fun X hX => by go_simp⟩) hHeld ?_
          try simp only [Act.put,zsA,zsB,zsC]
          refine wpAnyH_done (by kernel_rfl) ?_ _
          go_simp
          have hB5 : Hid (Below wl.heap.size wl X5) := (Bel.to hB3.out bY4).grown hg5 s5 (fun j hj => (hO3.lt j hj).1)
          clear bY4 rn4 hg5 hl5 n5 s5 hHeld hO3 e1 e2 e3 hB3
          go_wp2
          go_roundg (E - (k + 1))
          case measure => have := hgh.out;have := hlt2.out;omega
          case rel =>
           refine ⟨k + 1,ka5,Ws ++ [⟨d.ticket,d.line,tt⟩],k5,kc5,rfl,by have := hlt2.out;omega,by (have := hlt2.out;go_num),rfl,?_,hWn,hB5⟩
           exact hide ho5
         ·have hWn : Hid (Ws = winsX g r (es.take (k + 1))) := by show _ = _;rw [hsn.out,if_pos (by omega),hWs.out,List.append_nil]
          go_wp2
          go_roundg (E - (k + 1))
          case measure => have := hgh.out;have := hlt2.out;omega
          case rel => exact ⟨k + 1,em,Ws,ea,ec,rfl,by have := hlt2.out;omega,by (have := hlt2.out;go_num),rfl,hide hO3,hWn,hB3⟩
        ·obtain rfl : k = E := by omega
         have hO2 := OwnS.lower (base' := w.heap.size) hO.out (by have := hCs.out.size;have := hW1s.out;omega)
         have hB2 : Below w.heap.size w wr := (hBw.out wl hCs.out).trans (hB.out.mono (by have := hCs.out.size;have := hW1s.out;omega))
         go_wp2
         go_ret
         rw [hWs.out,List.take_of_length_le (by rw [← hEe.out];exact Nat.le_refl _)] at hO2
         exact ⟨_,rfl,hO2,hB2⟩
def BoolsW (t : TypeId) (w : World) (b n : Nat) (B : Nat → Bool) : Prop := Row w b t ((List.range n).map fun i => Value.bool (B i))
theorem range_set (n i : Nat) (B : Nat → Bool) : ((List.range n).map fun a => Value.bool (B a)).set i (.bool true) = (List.range n).map fun a => Value.bool (if a = i then true else B a) := by
 apply List.ext_getElem?
 intro j
 rw [List.getElem?_set,List.getElem?_map,List.getElem?_map]
 by_cases h : i = j
 ·subst h
  rw [if_pos rfl]
  by_cases hn : i < n
  ·rw [if_pos (by simpa using hn),List.getElem?_range hn]
   simp
  ·rw [if_neg (by simpa using hn),List.getElem?_eq_none (by simpa using hn)]
   rfl
 ·rw [if_neg h]
  by_cases hn : j < n
  ·rw [List.getElem?_range hn]
   simp [Ne.symm h]
  ·rw [List.getElem?_eq_none (by simpa using hn)]
   rfl
section
variable {t : TypeId} {w X : World} {b n : Nat} {B : Nat → Bool}
theorem BoolsW.lt (h : BoolsW t w b n B) : b < w.heap.size := Row.lt h
theorem BoolsW.cell (h : BoolsW t w b n B) {i : Nat} (hi : i < n) : w.cell? ⟨b,i,none⟩ = some (.bool (B i)) := by
 rw [Row.cell? h i,List.getElem?_map,List.getElem?_range hi];rfl
theorem BoolsW.frozen (h : BoolsW t w b n B) (i : Nat) : w.frozen? ⟨b,i,none⟩ = false := Row.frozen h i
theorem BoolsW.keep (h : BoolsW t w b n B) (hb : Below w.heap.size w X) : BoolsW t X b n B := Row.keep h hb
theorem BoolsW.set (h : BoolsW t w b n B) (i : Nat) : BoolsW t (w.setCell ⟨b,i,none⟩ (.bool true)) b n fun a => if a = i then true else B a := by
 have h1 := Row.set h i (.bool true)
 rw [range_set] at h1
 exact h1
theorem BoolsW.congr {C : Nat → Bool} (h : BoolsW t w b n B) (hBC : ∀ i,i < n → B i = C i) : BoolsW t w b n C := by
 have : ((List.range n).map fun i => Value.bool (B i)) = (List.range n).map fun i => Value.bool (C i) := List.map_congr_left fun i hi => by rw [hBC i (List.mem_range.1 hi)]
 unfold BoolsW at h ⊢
 rw [← this]
 exact h
theorem BoolsW.made (h : Row w b t (List.replicate n (.bool false))) : BoolsW t w b n fun _ => false := by
 have : ((List.range n).map fun _ => Value.bool false) = List.replicate n (.bool false) := by
  apply List.ext_getElem?
  intro j
  rw [List.getElem?_map,List.getElem?_replicate]
  by_cases hn : j < n
  ·rw [List.getElem?_range hn,if_pos hn];rfl
  ·rw [List.getElem?_eq_none (by simpa using hn),if_neg hn];rfl
 unfold BoolsW
 rw [this]
 exact h
end
set_option maxHeartbeats 4000000 in
set_option maxRecDepth 100000 in
theorem digits_pred (ib xb kb rb lb lo k lc E : Nat) (e1 : Option Addr) (e2 e3 : Nat) (ma : Option Addr) (mn mc : Nat) (a b : List Int) (w : World) (hx : w.cell? ⟨xb,0,none⟩ = some (.pointer (some ⟨ib,0,none⟩))) (hk : w.cell? ⟨kb,0,none⟩ = some (.int .i64 (k : Int)))
  (hr : w.cell? ⟨rb,0,none⟩ = some (.slice ma mn mc)) (hl : w.cell? ⟨ib,24,none⟩ = some (.slice (some ⟨lb,lo,none⟩) E lc)) (he : w.cell? ⟨lb,lo + k * 2,none⟩ = some (.slice e1 e2 e3)) (ha : Rd I64 w (.slice e1 e2 e3) a) (hb : Rd I64 w (.slice ma mn mc) b) (hkE : k < E) (hE : E ≤ 100000) (la : a.length ≤ 1000) :
  PredBelow Tryz.prog 63 #[.pointer (some ⟨xb,0,none⟩),.pointer (some ⟨kb,0,none⟩),.pointer (some ⟨rb,0,none⟩)] (fun x => .agg (tierCells x).toArray) (fun x => digM x.mode x.main a b) w := fun V x hV => by
 obtain ⟨x1,x2,x3,x4,x5,x6⟩ := x
 have cD := hide (fun X (hX : Below w.heap.size w X) => digits_any x4 x1 (.slice e1 e2 e3) (.slice ma mn mc) a b X (ha.below hX) (hb.below hX) la)
 have k1 := hide (fun X (hX : Below w.heap.size w X) => Bel.cellOf hX hx)
 have k2 := hide (fun X (hX : Below w.heap.size w X) => Bel.cellOf hX hk)
 have k3 := hide (fun X (hX : Below w.heap.size w X) => Bel.cellOf hX hr)
 have k4 := hide (fun X (hX : Below w.heap.size w X) => Bel.cellOf hX hl)
 have k5 := hide (fun X (hX : Below w.heap.size w X) => Bel.cellOf hX he)
 have i1 : (0 : Int) ≤ (k : Int) := by omega
 have i2 : (k : Int) < (E : Int) := by omega
 have i3 : (E : Int) ≤ 100000 := by omega
 show Calls Tryz.prog 63 #[.agg #[.int .i64 x1,.int .i64 x2,.int .i64 x3,.int .i64 x4,.int .i64 x5,.int .i64 x6],.pointer (some ⟨xb,0,none⟩),.pointer (some ⟨kb,0,none⟩),.pointer (some ⟨rb,0,none⟩)] V (fun e w' => e = .returned (.bool (digM x4 x1 a b)) ∧ Below w.heap.size w w')
 obtain ⟨q,hq⟩ : ∃ q,q = digM x4 x1 a b := ⟨_,rfl⟩
 rw [← hq] at cD ⊢
 clear hq hx hk hr hl he ha hb hkE hE la
 go_enter Tryz.func63,Tryz.ntmps63
 go_upto_region 1 with (fail)
 obtain ⟨W,hW⟩ : ∃ W,W = V.alloc (Obj.cells #[.int .i64 x1,.int .i64 x2,.int .i64 x3,.int .i64 x4,.int .i64 x5,.int .i64 x6] 72) := ⟨_,rfl⟩
 have bW : Below w.heap.size w W := by rw [hW];exact Bel.al hV _
 have rt : Row W V.heap.size 72 [.int .i64 x1,.int .i64 x2,.int .i64 x3,.int .i64 x4,.int .i64 x5,.int .i64 x6] := by rw [hW];exact Row.new _ _ _
 rw [← hW]
 clear hW
 have bD : Below w.heap.size w W.drew := Below.drew bW
 refine wp_region_held_drew (S := fun X => X.cell? ⟨xb,0,none⟩ = some (.pointer (some ⟨ib,0,none⟩)) ∧ X.cell? ⟨kb,0,none⟩ = some (.int .i64 (k : Int)) ∧ X.cell? ⟨rb,0,none⟩ = some (.slice ma mn mc) ∧ X.cell? ⟨ib,24,none⟩ = some (.slice (some ⟨lb,lo,none⟩) E lc) ∧ X.cell? ⟨lb,lo + k * 2,none⟩ = some (.slice e1 e2 e3) ∧ X.cell? ⟨V.heap.size,3,none⟩ = some (.int .i64 x4) ∧ X.cell? ⟨V.heap.size,0,none⟩ = some (.int .i64 x1)) (by kernel_rfl) ⟨k1.out _ bD,k2.out _ bD,k3.out _ bD,k4.out _ bD,k5.out _ bD,(rt.drew.cell? 3).trans rfl,(rt.drew.cell? 0).trans rfl⟩ (fun hHeld => ?_)
 refine' wpAnyH_take (i := 0) (oi := _) (v := .pointer (some ⟨V.heap.size,3,none⟩)) rfl (by kernel_rfl) (by kernel_rfl) (by kernel_rfl) (fun _ _ _ h => h) (Or.inl ⟨by first | (go_simp;done) | rfl,fun X hX => by go_simp⟩) hHeld ?_
 try simp only [Act.put,zsA,zsB,zsC]
 refine' wpAnyH_take (i := 1) (oi := _) (v := .int .i64 x4) rfl (by kernel_rfl) (by kernel_rfl) (by kernel_rfl) (fun _ _ _ h => h) (Or.inl ⟨by first | (go_simp;done) | rfl,fun X hX => by have h0 := hX.2.2.2.2.2.1;go_simp⟩) hHeld ?_
 try simp only [Act.put,zsA,zsB,zsC]
 refine' wpAnyH_take (i := 2) (oi := _) (v := .pointer (some ⟨V.heap.size,0,none⟩)) rfl (by kernel_rfl) (by kernel_rfl) (by kernel_rfl) (fun _ _ _ h => h) (Or.inl ⟨by first | (go_simp;done) | rfl,fun X hX => by go_simp⟩) hHeld ?_
 try simp only [Act.put,zsA,zsB,zsC]
 refine' wpAnyH_take (i := 3) (oi := _) (v := .int .i64 x1) rfl (by kernel_rfl) (by kernel_rfl) (by kernel_rfl) (fun _ _ _ h => h) (Or.inl ⟨by first | (go_simp;done) | rfl,fun X hX => by have h0 := hX.2.2.2.2.2.2;go_simp⟩) hHeld ?_
 try simp only [Act.put,zsA,zsB,zsC]
 refine' wpAnyH_take (i := 4) (oi := _) (v := .pointer (some ⟨ib,0,none⟩)) rfl (by kernel_rfl) (by kernel_rfl) (by kernel_rfl) (fun _ _ _ h => h) (Or.inl ⟨by first | (go_simp;done) | rfl,fun X hX => by have h0 := hX.1;go_simp⟩) hHeld ?_
 try simp only [Act.put,zsA,zsB,zsC]
 refine' wpAnyH_take (i := 5) (oi := _) (v := .pointer (some ⟨ib,0,none⟩)) rfl (by kernel_rfl) (by kernel_rfl) (by kernel_rfl) (fun _ _ _ h => h) (Or.inl ⟨by first | (go_simp;done) | rfl,fun X hX => by go_simp⟩) hHeld ?_
 try simp only [Act.put,zsA,zsB,zsC]
 refine' wpAnyH_take (i := 6) (oi := _) (v := .pointer (some ⟨ib,24,none⟩)) rfl (by kernel_rfl) (by kernel_rfl) (by kernel_rfl) (fun _ _ _ h => h) (Or.inl ⟨by first | (go_simp;done) | rfl,fun X hX => by go_simp⟩) hHeld ?_
 try simp only [Act.put,zsA,zsB,zsC]
 refine' wpAnyH_take (i := 7) (oi := _) (v := .slice (some ⟨lb,lo,none⟩) E lc) rfl (by kernel_rfl) (by kernel_rfl) (by kernel_rfl) (fun _ _ _ h => h) (Or.inl ⟨by first | (go_simp;done) | rfl,fun X hX => by have h0 := hX.2.2.2.1;go_simp⟩) hHeld ?_
 try simp only [Act.put,zsA,zsB,zsC]
 refine' wpAnyH_take (i := 8) (oi := _) (v := .int .i64 (k : Int)) rfl (by kernel_rfl) (by kernel_rfl) (by kernel_rfl) (fun _ _ _ h => h) (Or.inl ⟨by first | (go_simp;done) | rfl,fun X hX => by have h0 := hX.2.1;go_simp⟩) hHeld ?_
 try simp only [Act.put,zsA,zsB,zsC]
 refine' wpAnyH_take (i := 9) (oi := _) (v := .pointer (some ⟨lb,lo + k * 2,none⟩)) rfl (by kernel_rfl) (by kernel_rfl) (by kernel_rfl) (fun _ _ _ h => h) (Or.inl ⟨by first | (go_simp;done) | rfl,fun X hX => by go_simp⟩) hHeld ?_
 try simp only [Act.put,zsA,zsB,zsC]
 refine' wpAnyH_take (i := 10) (oi := _) (v := .pointer (some ⟨lb,lo + k * 2,none⟩)) rfl (by kernel_rfl) (by kernel_rfl) (by kernel_rfl) (fun _ _ _ h => h) (Or.inl ⟨by first | (go_simp;done) | rfl,fun X hX => by go_simp⟩) hHeld ?_
 try simp only [Act.put,zsA,zsB,zsC]
 refine' wpAnyH_take (i := 11) (oi := _) (v := .slice e1 e2 e3) rfl (by kernel_rfl) (by kernel_rfl) (by kernel_rfl) (fun _ _ _ h => h) (Or.inl ⟨by first | (go_simp;done) | rfl,fun X hX => by have h0 := hX.2.2.2.2.1;go_simp⟩) hHeld ?_
 try simp only [Act.put,zsA,zsB,zsC]
 refine' wpAnyH_take (i := 12) (oi := _) (v := .pointer (some ⟨rb,0,none⟩)) rfl (by kernel_rfl) (by kernel_rfl) (by kernel_rfl) (fun _ _ _ h => h) (Or.inl ⟨by first | (go_simp;done) | rfl,fun X hX => by go_simp⟩) hHeld ?_
 try simp only [Act.put,zsA,zsB,zsC]
 refine' wpAnyH_take (i := 13) (oi := _) (v := .slice ma mn mc) rfl (by kernel_rfl) (by kernel_rfl) (by kernel_rfl) (fun _ _ _ h => h) (Or.inl ⟨by first | (go_simp;done) | rfl,fun X hX => by have h0 := hX.2.2.1;go_simp⟩) hHeld ?_
 try simp only [Act.put,zsA,zsB,zsC]
 refine wpAnyH_ready (rs := [14]) (by kernel_rfl) (by simp) ?_
 refine AllReadyH.cons (o := _) rfl (fun K hK => ?_) AllReadyH.nil
 go_simp
 refine (cD.out W.drew bD).mono ?_
 rintro e w2 ⟨rfl,hb2⟩
 go_wp2_with fail
 refine hK.out _ _ ⟨Bel.cellOf hb2 hHeld.1,Bel.cellOf hb2 hHeld.2.1,Bel.cellOf hb2 hHeld.2.2.1,Bel.cellOf hb2 hHeld.2.2.2.1,Bel.cellOf hb2 hHeld.2.2.2.2.1,Bel.cellOf hb2 hHeld.2.2.2.2.2.1,Bel.cellOf hb2 hHeld.2.2.2.2.2.2⟩ (fun hHeld => ?_)
 clear hK K
 try simp only [Act.put,zsA,zsB,zsC]
 refine' wpAnyH_take (i := 15) (oi := _) (v := .bool q) rfl (by kernel_rfl) (by kernel_rfl) (by kernel_rfl) (fun _ _ _ h => h) (Or.inl ⟨by first | (go_simp;done) | rfl,fun X hX => by go_simp⟩) hHeld ?_
 try simp only [Act.put,zsA,zsB,zsC]
 refine wpAnyH_done (by kernel_rfl) ?_ _
 go_simp
 have bF : Below w.heap.size w w2 := Bel.to bD hb2
 go_wp2
 go_ret
 exact ⟨rfl,bF⟩
theorem digits_enters : ∀ args w,(callFunc 63 args).run Tryz.prog w = .ok (.enter 63 args) w := enters_of Tryz.func63 (by kernel_rfl) rfl
theorem BoolsW.block' {t : TypeId} {w X : World} {b n : Nat} {B : Nat → Bool} (h : BoolsW t w b n B) (hX : X.heap[b]? = w.heap[b]?) : BoolsW t X b n B := hX.trans h
set_option maxHeartbeats 16000000 in
set_option maxRecDepth 100000 in
theorem idigits_any (ib : Nat) (col : Nat → Nat) (g : GameD) (es : List EntD) (mv bv xv : Value) (r : ResD) (w : World) (hI : IdxR w col ib g es) (hr : ResR w mv bv xv r) (hres : resE g r = 0) (hkind : g.kind = 2) (hsize : es.length ≤ 100000) :
  Calls Tryz.prog 34 #[.pointer (some ⟨ib,0,none⟩),resVal mv bv xv r] w (fun e w' => ∃ v,e = .returned v ∧ OwnWin w' w.heap.size v (winsX g r es) ∧ Below w.heap.size w w') := by
 obtain ⟨g1,g2,g3,g4,av,tv,kv,lv,ms,mk,mp,n,vs,g5,hS⟩ := hI
 have hsm := hide (res_small hres).1
 have hnum1 := hide (res_small hres).2.1
 have hlines := hide (fun e (he : e ∈ es) => show e.l.1.length ≤ 1000 ∧ e.l.2.length ≤ 1000 from by have := line_small (g3 e he).2.2;omega)
 have htne : Hid (g.tiers ≠ []) := fun h0 => by
  have := (tiers_pos g2).1
  rw [h0] at this
  simp at this
 obtain ⟨E,hE0⟩ : ∃ E,E = es.length := ⟨_,rfl⟩
 have hE : Hid (es.length ≤ 100000) := hsize
 have hEe := hide hE0
 obtain ⟨ka,kc,hkv⟩ := hS.keys.now.shape
 rw [List.length_map,← hE0] at hkv
 subst hkv
 obtain ⟨la,lc0,hlv⟩ := hS.lines.now.shape
 rw [hS.vlen,List.length_map,← hE0] at hlv
 subst hlv
 obtain ⟨ta,tc,rfl,htl,htm⟩ := hS.game.now.2.2.shape
 obtain ⟨tn,htn⟩ : ∃ tn,tn = g.tiers.length := ⟨_,rfl⟩
 rw [← htn] at hS
 have hmne := res_main hres
 have hmpos := List.length_pos_iff.2 hmne
 obtain ⟨ao,mc,rfl,hm1,hm2,hm3⟩ := id hr.1
 obtain ⟨mb,mo,rfl,hmb,hmc⟩ := hm3 hmpos
 obtain ⟨mn,hmn⟩ : ∃ mn,mn = r.main.length := ⟨_,rfl⟩
 obtain ⟨ba,bn,bc,rfl⟩ := hr.2.1.shape
 obtain ⟨xa,xn,xc,rfl⟩ := hr.2.2.shape
 obtain ⟨l,hl0⟩ : ∃ l,mn = l + 1 := ⟨mn - 1,by omega⟩
 have hle : Hid (l = mn - 1) := by show l = _;omega
 have hl1 := hide hl0
 have hlen : Hid (mn = r.main.length ∧ True) := ⟨hmn,trivial⟩
 obtain ⟨x0,hx0⟩ : ∃ x0,r.main[0]? = some x0 := ⟨_,List.getElem?_eq_getElem hmpos⟩
 obtain ⟨y,hy⟩ : ∃ y,r.main[mn - 1]? = some y := ⟨_,List.getElem?_eq_getElem (by omega)⟩
 have hyl : Hid (r.main[l]? = some y) := by show _ = _;rw [hle.out];exact hy
 replace hx0 := hide hx0
 replace hy := hide hy
 rw [← hmn] at hr ⊢
 have hSh := hide hS
 have hrh := hide hr
 have hbound := hide g1
 have hib := hS.ilt
 replace hres := hide hres
 replace hkind := hide hkind
 have kE : (E : Int) ≤ 100000 := by omega
 have hmcw := hide (show ∀ i z,r.main[i]? = some z → w.cell? ⟨mb,mo + i,none⟩ = some (.int .i64 z) from hmc)
 clear g1 g2 g3 g4 g5 hr hsize hE0 htl htm hm1 hm2 hm3 hmc hmne hmpos hl0 hmn hmb
 unfold resVal
 go_enter Tryz.func34,Tryz.ntmps34
 go_upto_region 1 with (fail)
 obtain ⟨W,hW⟩ : ∃ W,W = (w.alloc (Obj.cells #[.pointer (some ⟨ib,0,none⟩)] 40)).alloc (Obj.cells #[.slice (some ⟨mb,mo,none⟩) mn mc,.slice ba bn bc,.slice xa xn xc,.int .i64 r.factor,.string r.serial] 29) := ⟨_,rfl⟩
 have bW : Below w.heap.size w W := by rw [hW];exact Bel.al (Bel.al (Below.refl _ _) _) _
 have rx : Row W w.heap.size 40 [.pointer (some ⟨ib,0,none⟩)] := by rw [hW];exact Row.alloc (Row.new _ _ _) _
 have rb : Row W (w.heap.size + 1) 29 [.slice (some ⟨mb,mo,none⟩) mn mc,.slice ba bn bc,.slice xa xn xc,.int .i64 r.factor,.string r.serial] := by rw [hW];exact Row.at2 _ _ _ _
 have sW : W.heap.size = w.heap.size + 2 := by rw [hW];simp
 rw [← hW]
 clear hW
 replace sW := hide sW
 have c23 : W.cell? ⟨ib,23,none⟩ = some (.slice ka E kc) := (hS.below (col' := col) bW fun _ _ => rfl).at23
 have cx0 : W.cell? ⟨w.heap.size,0,none⟩ = some (.pointer (some ⟨ib,0,none⟩)) := (rx.cell? 0).trans rfl
 go_wp2_with (first | (with_reducible refine wpList_make_row _ rfl _ _ 123 rfl 4 (.bool false) 1 Tryz.underlying123 (by kernel_rfl) rfl .i64 .i64 _ _ E E rfl rfl rfl rfl (Nat.le_refl _) (by omega) (by omega) ?_) | fail)
 intro W1 hq0 b1 s1
 obtain ⟨cb,hcb⟩ : ∃ cb,cb = W.heap.size := ⟨_,rfl⟩
 rw [← hcb] at hq0 ⊢
 have hB1 : Below w.heap.size w W1 := Bel.to bW b1
 have hcw : w.heap.size + 1 < cb := by have := sW.out;omega
 have hcb6 : Hid (col cb = 6) := hbound.out cb (by omega)
 have hC0 : Chg (fun b => b = cb) W1 W1 := Chg.refl _ _
 have hBw : Hid (∀ X,Chg (fun b => b = cb) W1 X → Below w.heap.size w X) := fun X hX => hB1.trans (hX.below (by have := hB1.size;omega) fun k hk e => by omega)
 have hbox : Hid (∀ X,Chg (fun b => b = cb) W1 X → Row X w.heap.size 40 [.pointer (some ⟨ib,0,none⟩)] ∧ Row X (w.heap.size + 1) 29 [.slice (some ⟨mb,mo,none⟩) mn mc,.slice ba bn bc,.slice xa xn xc,.int .i64 r.factor,.string r.serial]) := fun X hX => ⟨(Row.keep rx b1).chg hX (fun e => by omega),(Row.keep rb b1).chg hX (fun e => by omega)⟩
 have hmem : Hid (∀ X,Chg (fun b => b = cb) W1 X → ResR X (.slice (some ⟨mb,mo,none⟩) mn mc) (.slice ba bn bc) (.slice xa xn xc) r) := fun X hX => hrh.out.below (hBw.out X hX)
 have hel : Hid (∀ X,Chg (fun b => b = cb) W1 X → ∀ i z,r.main[i]? = some z → X.cell? ⟨mb,mo + i,none⟩ = some (.int .i64 z)) := fun X hX i z hz => Bel.cellOf (hBw.out X hX) (hmcw.out i z hz)
 have hSX : Hid (∀ X,Chg (fun b => b = cb) W1 X → IdxS X col ib g av (.slice ta tn tc) (.slice ka E kc) (.slice la E lc0) ms mk mp n vs (es.map keyD) (es.map keyD) (es.map (·.l)) (occE g es)) := fun X hX => (hSh.out.below hB1 fun _ _ => rfl).turn hX (fun k _ e => e ▸ hcb6.out) fun _ _ => rfl
 have h25 : Hid (∀ X,Chg (fun b => b = cb) W1 X → X.cell? ⟨ib,25,none⟩ = some (.map (some mp))) := fun X hX => (hSX.out X hX).at25
 have h1k : Hid (∀ X,Chg (fun b => b = cb) W1 X → X.cell? ⟨ib,1,none⟩ = some (.int .i64 g.kind)) := fun X hX => (hSX.out X hX).at1
 have hpl : Hid (∀ X,Chg (fun b => b = cb) W1 X → PlT X (fun k => col k = 4) mp n (occE g es)) := fun X hX => (hSX.out X hX).places.now
 have htnh := hide htn
 have hfin : Hid (∀ X,Chg (fun b => b = cb) W1 X → (X.cell? ⟨ib,23,none⟩ = some (.slice ka E kc) ∧ X.cell? ⟨ib,21,none⟩ = some (.slice ta tn tc) ∧ RdS 6 tierCells X (.slice ta tn tc) g.tiers ∧ g.tiers ≠ []) ∧ ∃ (kb ko : Nat),(es ≠ [] → ka = some ⟨kb,ko,none⟩) ∧ (es ≠ [] → kb < X.heap.size) ∧ ∀ (i : Nat) (d : EntD),es[i]? = some d → X.cell? ⟨kb,ko + i * 2,none⟩ = some (.int .i64 d.ticket) ∧ X.cell? ⟨kb,ko + i * 2 + 1,none⟩ = some (.int .i64 d.line)) :=
  fun X hX => ⟨⟨(hSX.out X hX).at23,(hSX.out X hX).at21,(hSX.out X hX).game.now.2.2,htne.out⟩,keys_at (hSX.out X hX).keys.now⟩
 have hline : Hid (∀ X,Chg (fun b => b = cb) W1 X → ∀ (i : Nat) (d : EntD),es[i]? = some d → ∃ (lb lo lc : Nat) (q1 : Option Addr) (q2 q3 : Nat),X.cell? ⟨ib,24,none⟩ = some (.slice (some ⟨lb,lo,none⟩) E lc) ∧ X.cell? ⟨lb,lo + i * 2,none⟩ = some (.slice q1 q2 q3) ∧ Rd I64 X (.slice q1 q2 q3) d.l.1) := fun X hX i d hd => by
  have h24 := (hSX.out X hX).at24
  have hL := (hSX.out X hX).linesR
  have hi : i < (es.map (·.l)).length := by rw [List.length_map];exact (List.getElem?_eq_some_iff.1 hd).1
  obtain ⟨b,off,mv,bv,e,hb,hc1,hc2,hlr⟩ := hL.at_ hi
  have hx : (es.map (·.l))[i] = d.l := by
   have h9 : (es.map (·.l))[i]? = some d.l := by rw [List.getElem?_map,hd];rfl
   rw [List.getElem?_eq_getElem hi] at h9
   injection h9
  rw [hx] at hlr
  obtain ⟨q1,q2,q3,rfl⟩ := hlr.1.shape
  rw [e] at h24
  exact ⟨b,off,lc0,q1,q2,q3,h24,hc1,hlr.1⟩
 obtain ⟨ws,hws⟩ : ∃ ws,ws = W1 := ⟨_,rfl⟩
 have hCs : Hid (Chg (fun b => b = cb) W1 ws) := by rw [hws];exact Chg.refl _ _
 replace hq0 : Hid (BoolsW 4 ws cb E (fun _ => false)) := by rw [hws];exact BoolsW.made hq0
 rw [← hws]
 clear hws hC0 hB1 rb rx b1 s1 c23 cx0 bW hcb hS htn sW
 replace hcw := hide hcw
 have c0 : ws.cell? ⟨w.heap.size + 1,0,none⟩ = some (.slice (some ⟨mb,mo,none⟩) mn mc) := ((hbox.out ws hCs.out).2.cell? 0).trans rfl
 go_wp2
 go_loopg [6,8,25,40] mn (fun gh _ _ t _ wr => ∃ (k : Nat),gh = mn - k ∧ k ≤ mn ∧ t = .int .i64 (k : Int) ∧ Hid (BoolsW 4 wr cb E (candK g es x0 k)) ∧ Hid (Chg (fun b => b = cb) W1 wr))
 case atStart => exact ⟨0,rfl,Nat.zero_le _,rfl,hq0.out.congr fun i _ => rfl,hCs.out⟩
 case round =>
  clear c0 hq0 hCs
  obtain ⟨k,hgh,hk,rfl,hQ,hC⟩ := hrel
  replace hgh := hide hgh
  by_cases hlt : k < mn
  ·have hlt2 := hide hlt
   have i1 : (0 : Int) ≤ (k : Int) := by omega
   have i2 : (k : Int) < (mn : Int) := by omega
   have i3 : (mn : Int) ≤ 100 := by have := hlen.out.1;have := hsm.out.1;omega
   have i4 : (0 : Int) < (mn : Int) := by omega
   have i5 : ¬ mn = 0 := by omega
   go_upto_region 5 with (fail)
   obtain ⟨wo,hwo⟩ : ∃ wo,wo = wr := ⟨_,rfl⟩
   have hQo := hQ
   have hCo := hC
   rw [← hwo] at hQo hCo ⊢
   clear hwo hQ hC
   have y0 : wo.drew.cell? ⟨w.heap.size,0,none⟩ = some (.pointer (some ⟨ib,0,none⟩)) := ((hbox.out wo hCo.out).1.drew.cell? 0).trans rfl
   have y1 : wo.drew.cell? ⟨w.heap.size + 1,0,none⟩ = some (.slice (some ⟨mb,mo,none⟩) mn mc) := ((hbox.out wo hCo.out).2.drew.cell? 0).trans rfl
   have y2 : wo.drew.cell? ⟨mb,mo,none⟩ = some (.int .i64 x0) := hel.out wo hCo.out 0 x0 hx0.out
   have k1 : wo.drew.cell? ⟨ib,1,none⟩ = some (.int .i64 g.kind) := h1k.out wo hCo.out
   have hwf := hide (mainP_wf (g := g) (i := k) (x := x0) (by omega) (hnum1.out x0 (List.mem_of_getElem? hx0.out)))
   refine wp_region_held_drew (S := fun X => X.cell? ⟨w.heap.size,0,none⟩ = some (.pointer (some ⟨ib,0,none⟩)) ∧ X.cell? ⟨w.heap.size + 1,0,none⟩ = some (.slice (some ⟨mb,mo,none⟩) mn mc) ∧ X.cell? ⟨mb,mo,none⟩ = some (.int .i64 x0)) (by kernel_rfl) ⟨y0,y1,y2⟩ (fun hHeld => ?_)
   refine' wpAnyH_take (i := 0) (oi := _) (v := .pointer (some ⟨ib,0,none⟩)) rfl (by kernel_rfl) (by kernel_rfl) (by kernel_rfl) (fun _ _ _ h => h) (Or.inl ⟨by first | (go_simp;done) | rfl,fun X hX => by have h0 := hX.1;go_simp⟩) hHeld ?_
   try simp only [Act.put,zsA,zsB,zsC]
   refine' wpAnyH_take (i := 1) (oi := _) (v := .pointer (some ⟨ib,0,none⟩)) rfl (by kernel_rfl) (by kernel_rfl) (by kernel_rfl) (fun _ _ _ h => h) (Or.inl ⟨by first | (go_simp;done) | rfl,fun X hX => by go_simp⟩) hHeld ?_
   try simp only [Act.put,zsA,zsB,zsC]
   refine' wpAnyH_take (i := 2) (oi := _) (v := .pointer (some ⟨ib,25,none⟩)) rfl (by kernel_rfl) (by kernel_rfl) (by kernel_rfl) (fun _ _ _ h => h) (Or.inl ⟨by first | (go_simp;done) | rfl,fun X hX => by go_simp⟩) hHeld ?_
   try simp only [Act.put,zsA,zsB,zsC]
   refine' wpAnyH_take (i := 3) (oi := _) (v := .pointer (some ⟨ib,0,none⟩)) rfl (by kernel_rfl) (by kernel_rfl) (by kernel_rfl) (fun _ _ _ h => h) (Or.inl ⟨by first | (go_simp;done) | rfl,fun X hX => by have h0 := hX.1;go_simp⟩) hHeld ?_
   try simp only [Act.put,zsA,zsB,zsC]
   refine' wpAnyH_take (i := 4) (oi := _) (v := .int .i64 (k : Int)) rfl (by kernel_rfl) (by kernel_rfl) (by kernel_rfl) (fun _ _ _ h => h) (Or.inl ⟨by first | (go_simp;done) | rfl,fun X hX => by go_simp⟩) hHeld ?_
   try simp only [Act.put,zsA,zsB,zsC]
   refine' wpAnyH_take (i := 5) (oi := _) (v := .pointer (some ⟨w.heap.size + 1,0,none⟩)) rfl (by kernel_rfl) (by kernel_rfl) (by kernel_rfl) (fun _ _ _ h => h) (Or.inl ⟨by first | (go_simp;done) | rfl,fun X hX => by go_simp⟩) hHeld ?_
   try simp only [Act.put,zsA,zsB,zsC]
   refine' wpAnyH_take (i := 6) (oi := _) (v := .slice (some ⟨mb,mo,none⟩) mn mc) rfl (by kernel_rfl) (by kernel_rfl) (by kernel_rfl) (fun _ _ _ h => h) (Or.inl ⟨by first | (go_simp;done) | rfl,fun X hX => by have h0 := hX.2.1;go_simp⟩) hHeld ?_
   try simp only [Act.put,zsA,zsB,zsC]
   refine' wpAnyH_take (i := 7) (oi := _) (v := .pointer (some ⟨mb,mo,none⟩)) rfl (by kernel_rfl) (by kernel_rfl) (by kernel_rfl) (fun _ _ _ h => h) (Or.inl ⟨by first | (go_simp;done) | rfl,fun X hX => by go_simp⟩) hHeld ?_
   try simp only [Act.put,zsA,zsB,zsC]
   refine' wpAnyH_take (i := 8) (oi := _) (v := .int .i64 x0) rfl (by kernel_rfl) (by kernel_rfl) (by kernel_rfl) (fun _ _ _ h => h) (Or.inl ⟨by first | (go_simp;done) | rfl,fun X hX => by have h0 := hX.2.2;go_simp⟩) hHeld ?_
   try simp only [Act.put,zsA,zsB,zsC]
   refine' wpAnyH_take (i := 12) (oi := _) (v := .int .i64 0) rfl (by kernel_rfl) (by kernel_rfl) (by kernel_rfl) (fun _ _ _ h => h) (Or.inl ⟨by first | (go_simp;done) | rfl,fun X hX => by go_simp⟩) hHeld ?_
   try simp only [Act.put,zsA,zsB,zsC]
   refine wpAnyH_ready (rs := [9]) (by kernel_rfl) (by simp) ?_
   refine AllReadyH.cons (o := _) rfl (fun K hK => ?_) AllReadyH.nil
   go_simp
   refine (imain_any ib g k x0 wo.drew k1).mono ?_
   rintro e w1 ⟨rfl,hb1⟩
   go_wp2_with fail
   refine hK.out _ _ ⟨Bel.cellOf hb1 hHeld.1,Bel.cellOf hb1 hHeld.2.1,Bel.cellOf hb1 hHeld.2.2⟩ (fun hHeld => ?_)
   clear hK K
   try simp only [Act.put,zsA,zsB,zsC]
   have bo1 : Below wo.heap.size wo w1 := Bel.to (Below.drew (Below.refl _ _)) hb1
   obtain ⟨p,hp⟩ : ∃ p,p = mainP g k x0 := ⟨_,rfl⟩
   rw [← hp]
   have cG := plget_any ib mp n p (fun k => col k = 4) (occE g es) w1 (Bel.cellOf bo1 (h25.out wo hCo.out)) ((hpl.out wo hCo.out).same bo1.size fun k hk _ => bo1.block k hk) (by rw [hp];exact hwf.out.1) (by rw [hp];exact hwf.out.2.1) (by rw [hp];exact hwf.out.2.2)
   have hLl := hide (fun y (hy : y ∈ occE g es p) => occE_lt y hy)
   have hp1 := hide hp
   obtain ⟨L,hL⟩ : ∃ L,L = occE g es p := ⟨_,rfl⟩
   rw [← hL] at cG hLl
   replace hL := hide hL
   clear hp
   refine wpAnyH_ready (rs := [10]) (by kernel_rfl) (by simp) ?_
   refine AllReadyH.cons (o := _) rfl (fun K hK => ?_) AllReadyH.nil
   go_simp
   refine (cG).mono ?_
   rintro e w2 ⟨u,rfl,hu,hub,hb2⟩
   obtain ⟨ua,uc,rfl,hu1,hu2,hu3⟩ := hu.form
   replace hu := hide hu3
   go_wp2_with fail
   refine hK.out _ _ ⟨Bel.cellOf hb2 hHeld.1,Bel.cellOf hb2 hHeld.2.1,Bel.cellOf hb2 hHeld.2.2⟩ (fun hHeld => ?_)
   clear hK K cG
   try simp only [Act.put,zsA,zsB,zsC]
   obtain ⟨M,hM⟩ : ∃ M,M = L.length := ⟨_,rfl⟩
   have hM63 : (M : Int) ≤ 9223372036854775807 := by unfold maxLen at hu2;omega
   rw [← hM] at hu hub ⊢
   replace hM := hide hM
   clear hu1 hu2 hu3
   refine' wpAnyH_take (i := 11) (oi := _) (v := .int .i64 (M : Int)) rfl (by kernel_rfl) (by kernel_rfl) (by kernel_rfl) (fun _ _ _ h => h) (Or.inl ⟨by first | (go_simp;done) | rfl,fun X hX => by go_simp⟩) hHeld ?_
   try simp only [Act.put,zsA,zsB,zsC]
   refine wpAnyH_done (by kernel_rfl) ?_ _
   go_simp
   have bo2 : Below wo.heap.size wo w2 := Bel.to bo1 hb2
   have hne : Hid (∀ j,(Value.slice ua M uc).ownBlock = some j → ¬ j = cb) := fun j hj e => by have h1 : col j = 4 := hub j hj;have h2 := hcb6.out;rw [e] at h1;omega
   clear bo1 hb1 hb2 hub hHeld y0 y1 y2 k1
   have hQ2 : BoolsW 4 w2 cb E (midB (candK g es x0 k) L 0) := (hQo.out.keep bo2).congr fun i _ => (midB_zero _ _ _).symm
   have hC2 : Hid (Chg (fun b => b = cb) W1 w2) := hCo.out.then (q := fun _ => False) (Chg.ofBelow bo2) fun _ _ h => h.elim
   clear hQo hCo bo2
   go_wp2
   go_loopg [8,40] M (fun gh _ t wr => ∃ (m : Nat),gh = M - m ∧ m ≤ M ∧ t = .int .i64 (m : Int) ∧ Hid (BoolsW 4 wr cb E (midB (candK g es x0 k) L m)) ∧ Hid (Chg (fun b => b = cb) w2 wr))
   case atStart => exact ⟨0,rfl,Nat.zero_le _,rfl,hQ2,Chg.refl _ _⟩
   case round =>
    clear hQ2
    obtain ⟨m,hgh2,hm,rfl,hQ,hC9⟩ := hrel
    replace hgh2 := hide hgh2
    by_cases hlt9 : m < M
    ·have hlt3 := hide hlt9
     have hil2 : m < L.length := by rw [← hM.out];exact hlt9
     have hu9 := hu.out.chg hC9.out hne.out
     obtain ⟨b2,off2,rfl,hbb2,hcell2⟩ := hu9.at_ hil2
     have c2 := hcell2 m hil2
     obtain ⟨q0,hq0⟩ : ∃ q0,q0 = L[m] := ⟨_,rfl⟩
     have hq0E : q0 < E := by rw [hEe.out,hq0];exact hLl.out _ (List.getElem_mem _)
     unfold natI at c2
     rw [← hq0] at c2
     have c3 : wr.cell? ⟨cb,q0,none⟩ = some (.bool (midB (candK g es x0 k) L m q0)) := hQ.out.cell hq0E
     have c4 : wr.frozen? ⟨cb,q0,none⟩ = false := hQ.out.frozen _
     have hQ3 : Hid (BoolsW 4 (wr.setCell ⟨cb,q0,none⟩ (.bool true)) cb E (midB (candK g es x0 k) L (m + 1))) := (hQ.out.set q0).congr fun i _ => midB_step _ _ _ hil2 q0 hq0 i
     have hC3 : Hid (Chg (fun b => b = cb) w2 (wr.setCell ⟨cb,q0,none⟩ (.bool true))) := hC9.out.trans (Chg.cell _ _ _ _)
     have j1 : (0 : Int) ≤ (q0 : Int) := by omega
     have j2 : (q0 : Int) < (E : Int) := by omega
     have j3 : (0 : Int) ≤ (m : Int) := by omega
     have j4 : (m : Int) < (M : Int) := by omega
     clear hQ hC9 hq0 hcell2 hu9
     go_wp2
     go_roundg (M - (m + 1))
     case measure => have := hgh2.out;have := hlt3.out;omega
     case rel => exact ⟨m + 1,rfl,by have := hlt3.out;omega,by (have := hlt3.out;go_num),hQ3,hC3⟩
    ·have hmM : Hid (m = L.length) := by show m = _;rw [← hM.out];omega
     have hC5 : Hid (Chg (fun b => b = cb) W1 wr) := hC2.out.trans hC9.out
     clear hgh2 hC9 hC2
     go_wp2
     go_roundg (mn - (k + 1))
     case measure => have := hgh.out;have := hlt2.out;omega
     case rel => exact ⟨k + 1,rfl,by have := hlt2.out;omega,by (have := hlt2.out;go_num),hQ.out.congr fun i _ => by rw [midB_end _ _ _ hmM.out,hL.out,hp1.out,← candK_step],hC5⟩
  ·obtain rfl : mn = k := by omega
   have hq0 : Hid (BoolsW 4 wr cb E (candK g es x0 mn)) := hQ
   clear hgh hk hlt
   have c0 : wr.cell? ⟨w.heap.size + 1,0,none⟩ = some (.slice (some ⟨mb,mo,none⟩) mn mc) := ((hbox.out wr hC.out).2.cell? 0).trans rfl
   have hw1 : IntKind.i64.wrap ((mn : Int) - 1) = (l : Int) := by rw [IntWalk.i64_in _ (by have := hl1.out;have := hlen.out.1;have := hsm.out.1;omega)];have := hl1.out;omega
   go_upto_region 12 with (fail)
   obtain ⟨wo,hwo⟩ : ∃ wo,wo = wr := ⟨_,rfl⟩
   have hQo := hq0
   have hCo := hC
   rw [← hwo] at hQo hCo ⊢
   clear hwo hQ hC hq0 c0 hw1
   have y0 : wo.drew.cell? ⟨w.heap.size,0,none⟩ = some (.pointer (some ⟨ib,0,none⟩)) := ((hbox.out wo hCo.out).1.drew.cell? 0).trans rfl
   have y1 : wo.drew.cell? ⟨w.heap.size + 1,0,none⟩ = some (.slice (some ⟨mb,mo,none⟩) mn mc) := ((hbox.out wo hCo.out).2.drew.cell? 0).trans rfl
   have y2 : wo.drew.cell? ⟨mb,mo + l,none⟩ = some (.int .i64 y) := hel.out wo hCo.out l y hyl.out
   have k1 : wo.drew.cell? ⟨ib,1,none⟩ = some (.int .i64 g.kind) := h1k.out wo hCo.out
   have hwf := hide (mainP_wf (g := g) (i := l) (x := y) (by have := hle.out;have := hlen.out.1;have := hsm.out.1;omega) (hnum1.out y (List.mem_of_getElem? hy.out)))
   have i1 : (0 : Int) ≤ (l : Int) := by omega
   have i2 : (l : Int) < (mn : Int) := by have := hl1.out;omega
   have i3 : (mn : Int) ≤ 100 := by have := hlen.out.1;have := hsm.out.1;omega
   refine wp_region_held_drew (S := fun X => X.cell? ⟨w.heap.size,0,none⟩ = some (.pointer (some ⟨ib,0,none⟩)) ∧ X.cell? ⟨w.heap.size + 1,0,none⟩ = some (.slice (some ⟨mb,mo,none⟩) mn mc) ∧ X.cell? ⟨mb,mo + l,none⟩ = some (.int .i64 y)) (by kernel_rfl) ⟨y0,y1,y2⟩ (fun hHeld => ?_)
   refine' wpAnyH_take (i := 0) (oi := _) (v := .pointer (some ⟨ib,0,none⟩)) rfl (by kernel_rfl) (by kernel_rfl) (by kernel_rfl) (fun _ _ _ h => h) (Or.inl ⟨by first | (go_simp;done) | rfl,fun X hX => by have h0 := hX.1;go_simp⟩) hHeld ?_
   try simp only [Act.put,zsA,zsB,zsC]
   refine' wpAnyH_take (i := 1) (oi := _) (v := .pointer (some ⟨ib,0,none⟩)) rfl (by kernel_rfl) (by kernel_rfl) (by kernel_rfl) (fun _ _ _ h => h) (Or.inl ⟨by first | (go_simp;done) | rfl,fun X hX => by go_simp⟩) hHeld ?_
   try simp only [Act.put,zsA,zsB,zsC]
   refine' wpAnyH_take (i := 2) (oi := _) (v := .pointer (some ⟨ib,25,none⟩)) rfl (by kernel_rfl) (by kernel_rfl) (by kernel_rfl) (fun _ _ _ h => h) (Or.inl ⟨by first | (go_simp;done) | rfl,fun X hX => by go_simp⟩) hHeld ?_
   try simp only [Act.put,zsA,zsB,zsC]
   refine' wpAnyH_take (i := 3) (oi := _) (v := .pointer (some ⟨ib,0,none⟩)) rfl (by kernel_rfl) (by kernel_rfl) (by kernel_rfl) (fun _ _ _ h => h) (Or.inl ⟨by first | (go_simp;done) | rfl,fun X hX => by have h0 := hX.1;go_simp⟩) hHeld ?_
   try simp only [Act.put,zsA,zsB,zsC]
   refine' wpAnyH_take (i := 4) (oi := _) (v := .int .i64 (l : Int)) rfl (by kernel_rfl) (by kernel_rfl) (by kernel_rfl) (fun _ _ _ h => h) (Or.inl ⟨by first | (go_simp;done) | rfl,fun X hX => by go_simp⟩) hHeld ?_
   try simp only [Act.put,zsA,zsB,zsC]
   refine' wpAnyH_take (i := 5) (oi := _) (v := .pointer (some ⟨w.heap.size + 1,0,none⟩)) rfl (by kernel_rfl) (by kernel_rfl) (by kernel_rfl) (fun _ _ _ h => h) (Or.inl ⟨by first | (go_simp;done) | rfl,fun X hX => by go_simp⟩) hHeld ?_
   try simp only [Act.put,zsA,zsB,zsC]
   refine' wpAnyH_take (i := 6) (oi := _) (v := .slice (some ⟨mb,mo,none⟩) mn mc) rfl (by kernel_rfl) (by kernel_rfl) (by kernel_rfl) (fun _ _ _ h => h) (Or.inl ⟨by first | (go_simp;done) | rfl,fun X hX => by have h0 := hX.2.1;go_simp⟩) hHeld ?_
   try simp only [Act.put,zsA,zsB,zsC]
   refine' wpAnyH_take (i := 7) (oi := _) (v := .int .i64 (l : Int)) rfl (by kernel_rfl) (by kernel_rfl) (by kernel_rfl) (fun _ _ _ h => h) (Or.inl ⟨by first | (go_simp;done) | rfl,fun X hX => by go_simp⟩) hHeld ?_
   try simp only [Act.put,zsA,zsB,zsC]
   refine' wpAnyH_take (i := 8) (oi := _) (v := .pointer (some ⟨mb,mo + l,none⟩)) rfl (by kernel_rfl) (by kernel_rfl) (by kernel_rfl) (fun _ _ _ h => h) (Or.inl ⟨by first | (go_simp;done) | rfl,fun X hX => by go_simp⟩) hHeld ?_
   try simp only [Act.put,zsA,zsB,zsC]
   refine' wpAnyH_take (i := 9) (oi := _) (v := .int .i64 y) rfl (by kernel_rfl) (by kernel_rfl) (by kernel_rfl) (fun _ _ _ h => h) (Or.inl ⟨by first | (go_simp;done) | rfl,fun X hX => by have h0 := hX.2.2;go_simp⟩) hHeld ?_
   try simp only [Act.put,zsA,zsB,zsC]
   refine' wpAnyH_take (i := 13) (oi := _) (v := .int .i64 0) rfl (by kernel_rfl) (by kernel_rfl) (by kernel_rfl) (fun _ _ _ h => h) (Or.inl ⟨by first | (go_simp;done) | rfl,fun X hX => by go_simp⟩) hHeld ?_
   try simp only [Act.put,zsA,zsB,zsC]
   refine wpAnyH_ready (rs := [10]) (by kernel_rfl) (by simp) ?_
   refine AllReadyH.cons (o := _) rfl (fun K hK => ?_) AllReadyH.nil
   go_simp
   refine (imain_any ib g l y wo.drew k1).mono ?_
   rintro e w1 ⟨rfl,hb1⟩
   go_wp2_with fail
   refine hK.out _ _ ⟨Bel.cellOf hb1 hHeld.1,Bel.cellOf hb1 hHeld.2.1,Bel.cellOf hb1 hHeld.2.2⟩ (fun hHeld => ?_)
   clear hK K
   try simp only [Act.put,zsA,zsB,zsC]
   have bo1 : Below wo.heap.size wo w1 := Bel.to (Below.drew (Below.refl _ _)) hb1
   obtain ⟨p,hp⟩ : ∃ p,p = mainP g l y := ⟨_,rfl⟩
   rw [← hp]
   have cG := plget_any ib mp n p (fun k => col k = 4) (occE g es) w1 (Bel.cellOf bo1 (h25.out wo hCo.out)) ((hpl.out wo hCo.out).same bo1.size fun k hk _ => bo1.block k hk) (by rw [hp];exact hwf.out.1) (by rw [hp];exact hwf.out.2.1) (by rw [hp];exact hwf.out.2.2)
   have hLl := hide (fun y (hy : y ∈ occE g es p) => occE_lt y hy)
   have hp1 := hide hp
   obtain ⟨L,hL⟩ : ∃ L,L = occE g es p := ⟨_,rfl⟩
   rw [← hL] at cG hLl
   replace hL := hide hL
   clear hp
   refine wpAnyH_ready (rs := [11]) (by kernel_rfl) (by simp) ?_
   refine AllReadyH.cons (o := _) rfl (fun K hK => ?_) AllReadyH.nil
   go_simp
   refine (cG).mono ?_
   rintro e w2 ⟨u,rfl,hu,hub,hb2⟩
   obtain ⟨ua,uc,rfl,hu1,hu2,hu3⟩ := hu.form
   replace hu := hide hu3
   go_wp2_with fail
   refine hK.out _ _ ⟨Bel.cellOf hb2 hHeld.1,Bel.cellOf hb2 hHeld.2.1,Bel.cellOf hb2 hHeld.2.2⟩ (fun hHeld => ?_)
   clear hK K cG
   try simp only [Act.put,zsA,zsB,zsC]
   obtain ⟨M,hM⟩ : ∃ M,M = L.length := ⟨_,rfl⟩
   have hM63 : (M : Int) ≤ 9223372036854775807 := by unfold maxLen at hu2;omega
   rw [← hM] at hu hub ⊢
   replace hM := hide hM
   clear hu1 hu2 hu3
   refine' wpAnyH_take (i := 12) (oi := _) (v := .int .i64 (M : Int)) rfl (by kernel_rfl) (by kernel_rfl) (by kernel_rfl) (fun _ _ _ h => h) (Or.inl ⟨by first | (go_simp;done) | rfl,fun X hX => by go_simp⟩) hHeld ?_
   try simp only [Act.put,zsA,zsB,zsC]
   refine wpAnyH_done (by kernel_rfl) ?_ _
   go_simp
   have bo2 : Below wo.heap.size wo w2 := Bel.to bo1 hb2
   have hne : Hid (∀ j,(Value.slice ua M uc).ownBlock = some j → ¬ j = cb) := fun j hj e => by have h1 : col j = 4 := hub j hj;have h2 := hcb6.out;rw [e] at h1;omega
   clear bo1 hb1 hb2 hub hHeld y0 y1 y2 k1
   have hQ2 : BoolsW 4 w2 cb E (midB (candK g es x0 mn) L 0) := (hQo.out.keep bo2).congr fun i _ => (midB_zero _ _ _).symm
   have hC2 : Hid (Chg (fun b => b = cb) W1 w2) := hCo.out.then (q := fun _ => False) (Chg.ofBelow bo2) fun _ _ h => h.elim
   clear hQo hCo bo2
   go_wp2
   go_loopg [11,66] M (fun gh _ t wr => ∃ (m : Nat),gh = M - m ∧ m ≤ M ∧ t = .int .i64 (m : Int) ∧ Hid (BoolsW 4 wr cb E (midB (candK g es x0 mn) L m)) ∧ Hid (Chg (fun b => b = cb) w2 wr))
   case atStart => exact ⟨0,rfl,Nat.zero_le _,rfl,hQ2,Chg.refl _ _⟩
   case round =>
    clear hQ2
    obtain ⟨m,hgh2,hm,rfl,hQ,hC9⟩ := hrel
    replace hgh2 := hide hgh2
    by_cases hlt9 : m < M
    ·have hlt3 := hide hlt9
     have hil2 : m < L.length := by rw [← hM.out];exact hlt9
     have hu9 := hu.out.chg hC9.out hne.out
     obtain ⟨b2,off2,rfl,hbb2,hcell2⟩ := hu9.at_ hil2
     have c2 := hcell2 m hil2
     obtain ⟨q0,hq0⟩ : ∃ q0,q0 = L[m] := ⟨_,rfl⟩
     have hq0E : q0 < E := by rw [hEe.out,hq0];exact hLl.out _ (List.getElem_mem _)
     unfold natI at c2
     rw [← hq0] at c2
     have c3 : wr.cell? ⟨cb,q0,none⟩ = some (.bool (midB (candK g es x0 mn) L m q0)) := hQ.out.cell hq0E
     have c4 : wr.frozen? ⟨cb,q0,none⟩ = false := hQ.out.frozen _
     have hQ3 : Hid (BoolsW 4 (wr.setCell ⟨cb,q0,none⟩ (.bool true)) cb E (midB (candK g es x0 mn) L (m + 1))) := (hQ.out.set q0).congr fun i _ => midB_step _ _ _ hil2 q0 hq0 i
     have hC3 : Hid (Chg (fun b => b = cb) w2 (wr.setCell ⟨cb,q0,none⟩ (.bool true))) := hC9.out.trans (Chg.cell _ _ _ _)
     have j1 : (0 : Int) ≤ (q0 : Int) := by omega
     have j2 : (q0 : Int) < (E : Int) := by omega
     have j3 : (0 : Int) ≤ (m : Int) := by omega
     have j4 : (m : Int) < (M : Int) := by omega
     clear hQ hC9 hq0 hcell2 hu9
     go_wp2
     go_roundg (M - (m + 1))
     case measure => have := hgh2.out;have := hlt3.out;omega
     case rel => exact ⟨m + 1,rfl,by have := hlt3.out;omega,by (have := hlt3.out;go_num),hQ3,hC3⟩
    ·have hmM : Hid (m = L.length) := by show m = _;rw [← hM.out];omega
     have hC5 : Hid (Chg (fun b => b = cb) W1 wr) := hC2.out.trans hC9.out
     clear hgh2 hC9 hC2
     have hq1 : Hid (BoolsW 4 wr cb E (fun i => candK g es x0 mn i || decide (i ∈ occE g es (mainP g (mn - 1) y)))) := hQ.out.congr fun i _ => by rw [midB_end _ _ _ hmM.out,hL.out,hp1.out,← hle.out]
     have hCs := hC5
     clear hQ
     go_upto_region 18 with (fail)
     obtain ⟨wl,hwl⟩ : ∃ wl,wl = wr := ⟨_,rfl⟩
     rw [← hwl] at hq1 hCs ⊢
     clear hwl hC5
     have hRows := hide (hfin.out wl hCs.out)
     obtain ⟨kb,ko,hkab,hkbl,hkc⟩ := hRows.out.2
     have hibl : Hid (ib < wl.heap.size) := World.block_lt_of_cell? _ _ hRows.out.1.1
     have hwl0 : Hid (w.heap.size < wl.heap.size) := (hbox.out wl hCs.out).1.lt
     replace hkc := hide hkc
     go_wp2
     go_loopg [12,13,14,15,76] E (fun gh t12 _ _ _ t wr => ∃ (k em : Nat) (Ws : List WinD) (ea : Option Addr) (ec : Nat),gh = E - k ∧ k ≤ E ∧ t = .int .i64 (k : Int) ∧ t12 = .slice ea em ec ∧ Hid (OwnWin wr wl.heap.size (.slice ea em ec) Ws) ∧ Hid (Ws = winsX g r (es.take k)) ∧ Hid (Below wl.heap.size wl wr))
     case atStart => exact ⟨0,0,[],none,0,rfl,Nat.zero_le _,rfl,rfl,OwnS.nil _ _ _,rfl,Below.refl _ _⟩
     case round =>
      obtain ⟨k,em,Ws,ea,ec,hgh,hk,rfl,rfl,hO,hWs,hB⟩ := hrel
      replace hgh := hide hgh
      by_cases hlt : k < E
      ·have hlt2 := hide hlt
       have hil : k < es.length := by rw [← hEe.out];exact hlt
       obtain ⟨d,hd⟩ : ∃ d,d = es[k] := ⟨_,rfl⟩
       have hdk : es[k]? = some d := by rw [hd];exact List.getElem?_eq_getElem hil
       have hcand := candK_iff hkind.out x0 y mn hlen.out.1 hx0.out hy.out hdk
       obtain ⟨cd,hcd⟩ : ∃ cd,cd = (candK g es x0 mn k || decide (k ∈ occE g es (mainP g (mn - 1) y))) := ⟨_,rfl⟩
       have c1 : wr.cell? ⟨cb,k,none⟩ = some (.bool cd) := by rw [hcd];exact (hq1.out.block' (hB.out.block cb hq1.out.lt)).cell hlt
       rw [← hcd] at hcand
       replace hcand := hide hcand
       clear hcd hd
       have hsn := hide (winsX_snoc (g := g) (r := r) hdk)
       have i1 : (0 : Int) ≤ (k : Int) := by omega
       have i2 : (k : Int) < (E : Int) := by omega
       have i3 : (E : Int) ≤ 100000 := by have := hE.out;have := hEe.out;omega
       have hkey := hide (hkc.out k d hdk)
       have hka := hkab (fun h => by rw [h] at hil;simp at hil)
       subst hka
       obtain ⟨lb,lo,lc,q1,q2,q3,hl24,hle24,hlr⟩ := hline.out wl hCs.out k d hdk
       have hd10 : Hid (d.l.1.length ≤ 1000) := (hlines.out d (List.mem_of_getElem? hdk)).1
       clear hdk
       go_upto_region 21 with (fail)
       obtain ⟨X1,hX1⟩ : ∃ X1,X1 = wr.alloc (.cells #[.int .i64 (k : Int)] 3) := ⟨_,rfl⟩
       have b1 : Below wr.heap.size wr X1 := by rw [hX1];exact Bel.al (Below.refl _ _) _
       have p1 : Row X1 wr.heap.size 3 [.int .i64 (k : Int)] := by rw [hX1];exact Row.newOf _ rfl
       rw [← hX1]
       clear hX1
       have hB1 : Below wl.heap.size wl X1 := Bel.to hB.out b1
       have hO1 := OwnS.keep hO.out b1
       have hOlt : Hid (∀ j,(Value.slice ea em ec).ownBlock = some j → j < wr.heap.size) := fun j hj => (OwnS.lt hO.out j hj).2
       have hsn2 := hsn
       have hWl : Hid (Ws.length ≤ 100000) := by
        show Ws.length ≤ _
        rw [hWs.out]
        have hw9 := wins_le g r (es.take k)
        have := hE.out
        rw [List.length_take] at hw9
        omega
       cases cd
       ·have hWn : Hid (Ws = winsX g r (es.take (k + 1))) := by
         show _ = _
         rw [hsn.out,if_pos (cand_none hkind.out (res_main hres.out) fun h => by have := hcand.out.2 h;cases this),hWs.out,List.append_nil]
        have hB2 := hide hB1
        clear hB1 p1 b1 hB hO c1 hl24 hle24 hlr
        go_wp2
        go_roundg (E - (k + 1))
        case measure => have := hgh.out;have := hlt2.out;omega
        case rel => exact ⟨k + 1,em,Ws,ea,ec,rfl,by have := hlt2.out;omega,by (have := hlt2.out;go_num),rfl,hide hO1,hWn,hB2⟩
       ·have z0 : X1.cell? ⟨w.heap.size,0,none⟩ = some (.pointer (some ⟨ib,0,none⟩)) := Bel.cellOf hB1 (((hbox.out wl hCs.out).1.cell? 0).trans rfl)
        have z1 : X1.cell? ⟨w.heap.size + 1,0,none⟩ = some (.slice (some ⟨mb,mo,none⟩) mn mc) := Bel.cellOf hB1 (((hbox.out wl hCs.out).2.cell? 0).trans rfl)
        have c21 : X1.cell? ⟨ib,21,none⟩ = some (.slice ta tn tc) := Bel.cellOf hB1 hRows.out.1.2.1
        have cT := tier_index _ _ _ _ g.tiers X1 (hRows.out.1.2.2.1.below hB1) (hRows.out.1.2.2.2) digits_enters (digits_pred ib w.heap.size wr.heap.size (w.heap.size + 1) lb lo k lc E q1 q2 q3 (some ⟨mb,mo,none⟩) mn mc d.l.1 r.main X1 z0 ((p1.cell? 0).trans rfl) z1 (Bel.cellOf hB1 hl24) (Bel.cellOf hB1 hle24) (hlr.below hB1) ((hmem.out wl hCs.out).1.below hB1) hlt (by omega) hd10.out)
        have hmeet : (fun x : TierD => digM x.mode x.main d.l.1 r.main) = meetM g d.l r := by
         funext x
         unfold meetM
         rw [if_pos hkind.out]
        rw [hmeet] at cT
        obtain ⟨tt,htt⟩ : ∃ tt,tt = tierM g d.l r := ⟨_,rfl⟩
        have hlo : -1 ≤ tt := by rw [htt];exact tierGo_lo _ _ _
        have hct : tierGo (meetM g d.l r) g.tiers 0 = tt := htt.symm
        rw [hct] at cT
        rw [← htt] at hsn
        replace cT := hide cT
        have p1h := hide p1
        have hl24h := hide hl24
        clear hct htt p1 hmeet b1 hB hO c1 hl24 hle24 hlr z1
        go_upto_region 23 with (first | (go_at_call 62;(refine cT.out.mono ?_);rintro e X2 ⟨rfl,hb2⟩) | fail)
        have hB3 : Hid (Below wl.heap.size wl X2) := Bel.to hB1 hb2
        have hO3 := OwnS.keep hO1 hb2
        have z2 : X2.cell? ⟨w.heap.size,0,none⟩ = some (.pointer (some ⟨ib,0,none⟩)) := Bel.cellOf hb2 z0
        have p2 := Row.keep p1h.out hb2
        clear hO1 hB1 c21 cT hb2 z0
        by_cases h9 : 0 ≤ tt
        ·have hWn : Hid (Ws ++ [⟨d.ticket,d.line,tt⟩] = winsX g r (es.take (k + 1))) := by show _ = _;rw [hsn.out,if_neg (by omega),hWs.out]
         have e1 : X2.drew.cell? ⟨ib,23,none⟩ = some (.slice (some ⟨kb,ko,none⟩) E kc) := Bel.cellOf (Below.drew hB3.out) hRows.out.1.1
         have e2 : X2.drew.cell? ⟨kb,ko + k * 2,none⟩ = some (.int .i64 d.ticket) := Bel.cellOf (Below.drew hB3.out) hkey.out.1
         have e3 : X2.drew.cell? ⟨kb,ko + k * 2 + 1,none⟩ = some (.int .i64 d.line) := Bel.cellOf (Below.drew hB3.out) hkey.out.2
         have e4 : X2.drew.cell? ⟨w.heap.size,0,none⟩ = some (.pointer (some ⟨ib,0,none⟩)) := z2
         have e5 : X2.drew.cell? ⟨wr.heap.size,0,none⟩ = some (.int .i64 (k : Int)) := (p2.drew.cell? 0).trans rfl
         have hkbl : Hid (kb < wl.heap.size) := World.block_lt_of_cell? _ _ hkey.out.1
         clear p2 z2
         go_upto_region 24 with (fail)
         refine wp_region_held_drew (S := fun X => X.cell? ⟨ib,23,none⟩ = some (.slice (some ⟨kb,ko,none⟩) E kc) ∧ X.cell? ⟨kb,ko + k * 2,none⟩ = some (.int .i64 d.ticket) ∧ X.cell? ⟨kb,ko + k * 2 + 1,none⟩ = some (.int .i64 d.line) ∧ X.cell? ⟨w.heap.size,0,none⟩ = some (.pointer (some ⟨ib,0,none⟩)) ∧ X.cell? ⟨wr.heap.size,0,none⟩ = some (.int .i64 (k : Int))) (by kernel_rfl) ⟨e1,e2,e3,e4,e5⟩ (fun hHeld => ?_)
         refine' wpAnyH_take (i := 0) (oi := _) (v := .slice ea em ec) rfl (by kernel_rfl) (by kernel_rfl) (by kernel_rfl) (fun _ _ _ h => h) (Or.inl ⟨by first | (go_simp;done) | rfl,fun X hX => by go_simp⟩) hHeld ?_
         try simp only [Act.put,zsA,zsB,zsC]
         refine' wpAnyH_take (i := 1) (oi := _) (v := .pointer (some ⟨ib,0,none⟩)) rfl (by kernel_rfl) (by kernel_rfl) (by kernel_rfl) (fun _ _ _ h => h) (Or.inl ⟨by first | (go_simp;done) | rfl,fun X hX => by have h0 := hX.2.2.2.1;go_simp⟩) hHeld ?_
         try simp only [Act.put,zsA,zsB,zsC]
         refine' wpAnyH_take (i := 2) (oi := _) (v := .pointer (some ⟨ib,0,none⟩)) rfl (by kernel_rfl) (by kernel_rfl) (by kernel_rfl) (fun _ _ _ h => h) (Or.inl ⟨by first | (go_simp;done) | rfl,fun X hX => by go_simp⟩) hHeld ?_
         try simp only [Act.put,zsA,zsB,zsC]
         refine' wpAnyH_take (i := 3) (oi := _) (v := .pointer (some ⟨ib,23,none⟩)) rfl (by kernel_rfl) (by kernel_rfl) (by kernel_rfl) (fun _ _ _ h => h) (Or.inl ⟨by first | (go_simp;done) | rfl,fun X hX => by go_simp⟩) hHeld ?_
         try simp only [Act.put,zsA,zsB,zsC]
         refine' wpAnyH_take (i := 4) (oi := _) (v := .slice (some ⟨kb,ko,none⟩) E kc) rfl (by kernel_rfl) (by kernel_rfl) (by kernel_rfl) (fun _ _ _ h => h) (Or.inl ⟨by first | (go_simp;done) | rfl,fun X hX => by have h0 := hX.1;go_simp⟩) hHeld ?_
         try simp only [Act.put,zsA,zsB,zsC]
         refine' wpAnyH_take (i := 5) (oi := _) (v := .int .i64 (k : Int)) rfl (by kernel_rfl) (by kernel_rfl) (by kernel_rfl) (fun _ _ _ h => h) (Or.inl ⟨by first | (go_simp;done) | rfl,fun X hX => by have h0 := hX.2.2.2.2;go_simp⟩) hHeld ?_
         try simp only [Act.put,zsA,zsB,zsC]
         refine' wpAnyH_take (i := 6) (oi := _) (v := .pointer (some ⟨kb,ko + k * 2,none⟩)) rfl (by kernel_rfl) (by kernel_rfl) (by kernel_rfl) (fun _ _ _ h => h) (Or.inl ⟨by first | (go_simp;done) | rfl,fun X hX => by go_simp⟩) hHeld ?_
         try simp only [Act.put,zsA,zsB,zsC]
         refine' wpAnyH_take (i := 7) (oi := _) (v := .pointer (some ⟨kb,ko + k * 2,none⟩)) rfl (by kernel_rfl) (by kernel_rfl) (by kernel_rfl) (fun _ _ _ h => h) (Or.inl ⟨by first | (go_simp;done) | rfl,fun X hX => by go_simp⟩) hHeld ?_
         try simp only [Act.put,zsA,zsB,zsC]
         refine' wpAnyH_take (i := 8) (oi := _) (v := .int .i64 d.ticket) rfl (by kernel_rfl) (by kernel_rfl) (by kernel_rfl) (fun _ _ _ h => h) (Or.inl ⟨by first | (go_simp;done) | rfl,fun X hX => by have h0 := hX.2.1;go_simp⟩) hHeld ?_
         try simp only [Act.put,zsA,zsB,zsC]
         refine' wpAnyH_take (i := 9) (oi := _) (v := .pointer (some ⟨ib,0,none⟩)) rfl (by kernel_rfl) (by kernel_rfl) (by kernel_rfl) (fun _ _ _ h => h) (Or.inl ⟨by first | (go_simp;done) | rfl,fun X hX => by have h0 := hX.2.2.2.1;go_simp⟩) hHeld ?_
         try simp only [Act.put,zsA,zsB,zsC]
         refine' wpAnyH_take (i := 10) (oi := _) (v := .pointer (some ⟨ib,0,none⟩)) rfl (by kernel_rfl) (by kernel_rfl) (by kernel_rfl) (fun _ _ _ h => h) (Or.inl ⟨by first | (go_simp;done) | rfl,fun X hX => by go_simp⟩) hHeld ?_
         try simp only [Act.put,zsA,zsB,zsC]
         refine' wpAnyH_take (i := 11) (oi := _) (v := .pointer (some ⟨ib,23,none⟩)) rfl (by kernel_rfl) (by kernel_rfl) (by kernel_rfl) (fun _ _ _ h => h) (Or.inl ⟨by first | (go_simp;done) | rfl,fun X hX => by go_simp⟩) hHeld ?_
         try simp only [Act.put,zsA,zsB,zsC]
         refine' wpAnyH_take (i := 12) (oi := _) (v := .slice (some ⟨kb,ko,none⟩) E kc) rfl (by kernel_rfl) (by kernel_rfl) (by kernel_rfl) (fun _ _ _ h => h) (Or.inl ⟨by first | (go_simp;done) | rfl,fun X hX => by have h0 := hX.1;go_simp⟩) hHeld ?_
         try simp only [Act.put,zsA,zsB,zsC]
         refine' wpAnyH_take (i := 13) (oi := _) (v := .int .i64 (k : Int)) rfl (by kernel_rfl) (by kernel_rfl) (by kernel_rfl) (fun _ _ _ h => h) (Or.inl ⟨by first | (go_simp;done) | rfl,fun X hX => by have h0 := hX.2.2.2.2;go_simp⟩) hHeld ?_
         try simp only [Act.put,zsA,zsB,zsC]
         refine' wpAnyH_take (i := 14) (oi := _) (v := .pointer (some ⟨kb,ko + k * 2,none⟩)) rfl (by kernel_rfl) (by kernel_rfl) (by kernel_rfl) (fun _ _ _ h => h) (Or.inl ⟨by first | (go_simp;done) | rfl,fun X hX => by go_simp⟩) hHeld ?_
         try simp only [Act.put,zsA,zsB,zsC]
         refine' wpAnyH_take (i := 15) (oi := _) (v := .pointer (some ⟨kb,ko + k * 2 + 1,none⟩)) rfl (by kernel_rfl) (by kernel_rfl) (by kernel_rfl) (fun _ _ _ h => h) (Or.inl ⟨by first | (go_simp;done) | rfl,fun X hX => by go_simp⟩) hHeld ?_
         try simp only [Act.put,zsA,zsB,zsC]
         refine' wpAnyH_take (i := 16) (oi := _) (v := .int .i64 d.line) rfl (by kernel_rfl) (by kernel_rfl) (by kernel_rfl) (fun _ _ _ h => h) (Or.inl ⟨by first | (go_simp;done) | rfl,fun X hX => by have h0 := hX.2.2.1;go_simp⟩) hHeld ?_
         try simp only [Act.put,zsA,zsB,zsC]
         refine' wpAnyH_take (i := 17) (oi := _) (v := .int .i64 tt) rfl (by kernel_rfl) (by kernel_rfl) (by kernel_rfl) (fun _ _ _ h => h) (Or.inl ⟨by first | (go_simp;done) | rfl,fun X hX => by go_simp⟩) hHeld ?_
         try simp only [Act.put,zsA,zsB,zsC]
         refine' wpAnyH_take (i := 18) (oi := _) (v := .agg #[.int .i64 d.ticket,.int .i64 d.line,.int .i64 tt]) rfl (by kernel_rfl) (by kernel_rfl) (by kernel_rfl) (fun _ _ _ h => h) (Or.inl ⟨by first | (go_simp;done) | rfl,fun X hX => by go_simp⟩) hHeld ?_
         try simp only [Act.put,zsA,zsB,zsC]
         refine wpAnyH_ready (rs := [19]) (by kernel_rfl) (by simp) ?_
         refine AllReadyH.cons (o := _) rfl (fun K hK => ?_) AllReadyH.nil
         go_simp
         refine hK.out _ _ ⟨cell_alloc hHeld.1 _,cell_alloc hHeld.2.1 _,cell_alloc hHeld.2.2.1 _,cell_alloc hHeld.2.2.2.1 _,cell_alloc hHeld.2.2.2.2 _⟩ (fun hHeld => ?_)
         clear hK K
         try simp only [Act.put,zsA,zsB,zsC]
         obtain ⟨Y4,hY4⟩ : ∃ Y4,Y4 = (X2.alloc (Obj.cells #[.int .i64 d.ticket,.int .i64 d.line,.int .i64 tt] 67)).drew := ⟨_,rfl⟩
         have bY4 : Below X2.heap.size X2 Y4 := by rw [hY4];exact Below.drew (Bel.al (Below.refl _ _) _)
         have rn4 : Row Y4 X2.heap.size 67 [.int .i64 d.ticket,.int .i64 d.line,.int .i64 tt] := by rw [hY4];exact (Row.new X2 _ _).drew
         first | rw [← hY4] at hHeld ⊢ | skip
         clear hY4
         refine wpAnyH_ready (rs := [20]) (by kernel_rfl) (by simp) ?_
         refine AllReadyH.cons (o := _) rfl (fun K hK => ?_) AllReadyH.nil
         rw [if_pos (by first | rfl | (go_simp;done))]
         refine wp_appendS _ _ _ 35 rfl (sz := 3) (V := winCells) (R := fun _ _ => True) win_len wl.heap.size 67 (.agg #[.int .i64 0,.int .i64 0,.int .i64 0]) 24 Tryz.underlying35 (by kernel_rfl) rfl (by decide) (.slice ea em ec) Ws rfl (OwnS.keep hO3 bY4) (.slice (some ⟨X2.heap.size,0,none⟩) 1 1) [⟨d.ticket,d.line,tt⟩] rfl (rdS_one _ (V := winCells) (x := (⟨d.ticket,d.line,tt⟩ : WinD)) rn4 (Nat.le_refl _) (by decide)) (fun _ _ _ _ => trivial) (fun x hx u hu => by rcases List.mem_singleton.1 hx with rfl;simp [winCells] at hu;rcases hu with rfl | rfl | rfl <;> rfl) (by have := hWl.out;simp;omega) (by have := hWl.out;simp;omega) (by have := bY4.size;have := hB3.out.size;omega) ?_
         intro v5 X5 ho5 hg5 hl5
         obtain ⟨k5,ka5,kc5,rfl⟩ : ∃ a b c,v5 = Value.slice a b c := by obtain ⟨a,c,h⟩ := OwnS.shape ho5;exact ⟨a,_,c,h⟩
         have n5 : ∀ j,j < wl.heap.size → some j ≠ (Value.slice ea em ec).ownBlock := fun j hj e => by have := (hO3.lt j e.symm).1;omega
         have n5w : some wr.heap.size ≠ (Value.slice ea em ec).ownBlock := fun e => by have := hOlt.out _ e.symm;omega
         have s5 : wl.heap.size ≤ Y4.heap.size := by have := bY4.size;have := hB3.out.size;omega
         refine hK.out _ _ ⟨(World.cell?_of_block (hg5.block ib (by have := hibl.out;omega) (n5 _ hibl.out))).trans hHeld.1,(World.cell?_of_block (hg5.block kb (by have := hkbl.out;omega) (n5 _ hkbl.out))).trans hHeld.2.1,(World.cell?_of_block (hg5.block kb (by have := hkbl.out;omega) (n5 _ hkbl.out))).trans hHeld.2.2.1,(World.cell?_of_block (hg5.block w.heap.size (by have := hwl0.out;omega) (n5 _ hwl0.out))).trans hHeld.2.2.2.1,(World.cell?_of_block (hg5.block wr.heap.size (World.block_lt_of_cell? _ _ hHeld.2.2.2.2) n5w)).trans hHeld.2.2.2.2⟩ (fun hHeld => ?_)
         clear hK K
         try simp only [Act.put,zsA,zsB,zsC]
         refine' wpAnyH_take (i := 21) (oi := _) (v := .slice k5 ka5 kc5) rfl (by kernel_rfl) (by kernel_rfl) (by kernel_rfl) (fun _ _ _ h => h) (Or.inl ⟨by first | (go_simp;done) | rfl,fun X hX => by go_simp⟩) hHeld ?_
         try simp only [Act.put,zsA,zsB,zsC]
         refine wpAnyH_done (by kernel_rfl) ?_ _
         go_simp
         have hB5 : Hid (Below wl.heap.size wl X5) := (Bel.to hB3.out bY4).grown hg5 s5 (fun j hj => (hO3.lt j hj).1)
         clear bY4 rn4 hg5 hl5 n5 s5 hHeld hO3 e1 e2 e3 e4 e5 hB3
         go_wp2
         go_roundg (E - (k + 1))
         case measure => have := hgh.out;have := hlt2.out;omega
         case rel =>
          refine ⟨k + 1,ka5,Ws ++ [⟨d.ticket,d.line,tt⟩],k5,kc5,rfl,by have := hlt2.out;omega,by (have := hlt2.out;go_num),rfl,?_,hWn,hB5⟩
          exact hide ho5
        ·have hWn : Hid (Ws = winsX g r (es.take (k + 1))) := by show _ = _;rw [hsn.out,if_pos (by omega),hWs.out,List.append_nil]
         clear p2 z2
         go_wp2
         go_roundg (E - (k + 1))
         case measure => have := hgh.out;have := hlt2.out;omega
         case rel => exact ⟨k + 1,em,Ws,ea,ec,rfl,by have := hlt2.out;omega,by (have := hlt2.out;go_num),rfl,hide hO3,hWn,hB3⟩
      ·obtain rfl : k = E := by omega
       have hO2 := OwnS.lower (base' := w.heap.size) hO.out (by have := hwl0.out;omega)
       have hB2 : Below w.heap.size w wr := (hBw.out wl hCs.out).trans (hB.out.mono (by have := hwl0.out;omega))
       go_wp2
       go_ret
       rw [hWs.out,List.take_of_length_le (by rw [← hEe.out];exact Nat.le_refl _)] at hO2
       exact ⟨_,rfl,hO2,hB2⟩
end Go.Proofs.YtelgllgaofjgjaaGreat
end
section
open Go.RowKit Go.Sort
set_option linter.unusedVariables false
set_option linter.unusedSimpArgs false
namespace Go.Proofs.YtelgllgaofjgjaaGreat
section
variable {α : Type} [Inhabited α] {sz : Nat} {V : α → List Value}
theorem flatK_list (hV : ∀ x,(V x).length = sz) (h0 : 0 < sz) (d : Array α) : (flatK V sz d).toList = d.toList.flatMap V := by
 have hlen : (d.toList.flatMap V).length = d.size * sz := by rw [flatS_len hV];simp
 apply List.ext_getElem?
 intro t
 by_cases ht : t < d.size * sz
 ·have hq : t / sz < d.size := by
   rw [Nat.div_lt_iff_lt_mul h0]
   exact ht
  have hm : t % sz < sz := Nat.mod_lt _ h0
  have h1 := get_flatK V sz d t ht
  have h2 : (flatK V sz d).toList[t]? = some ((V d[t / sz]!)[t % sz]!) := by
   rw [Array.getElem?_toList,← h1,getElem!_pos _ t (by simpa using ht)]
   exact Array.getElem?_eq_getElem (by simpa using ht)
  rw [h2]
  have h3 := flatS_at hV d.toList (t / sz) (t % sz) d[t / sz]! ((V d[t / sz]!)[t % sz]!) (by rw [Array.getElem?_toList,getElem!_pos d _ hq];exact Array.getElem?_eq_getElem hq) (by rw [getElem!_pos (V d[t / sz]!) _ (by rw [hV];exact hm)];exact List.getElem?_eq_getElem _)
  rw [Nat.mul_comm,Nat.div_add_mod] at h3
  exact h3.symm
 ·rw [List.getElem?_eq_none (by simp;omega),List.getElem?_eq_none (by rw [hlen];omega)]
theorem OwnS.holdsK (hV : ∀ x,(V x).length = sz) (h0 : 0 < sz) {R : World → α → Prop} {w : World} {base e g n cap : Nat} {l : List α} (h : OwnS sz V R w base e (.slice (some ⟨g,0,none⟩) n cap) l) : HoldsK V sz w g 0 l.toArray := by
 rcases h.1.2 with ⟨hv,_⟩ | ⟨g',cap',cur,hv,hb,hg,hn,hc,hs,ht⟩
 ·cases hv
 cases hv
 intro j hj
 have hj' : j < l.length * sz := by simpa using hj
 refine ⟨?_,by simp [World.frozen?,hg]⟩
 have h2 : (flatK V sz l.toArray)[j]? = (l.flatMap V)[j]? := by rw [← Array.getElem?_toList,flatK_list hV h0]
 rw [← ht,List.getElem?_take_of_lt hj',Array.getElem?_toList] at h2
 rw [Nat.zero_add,cell_of_row w g j cur e (0,0) hg,← h2,getElem!_pos _ j hj]
 exact Array.getElem?_eq_getElem hj
theorem OwnS.sorted (hV : ∀ x,(V x).length = sz) (h0 : 0 < sz) {w : World} {base e g n cap : Nat} {l : List α} (h : OwnS sz V (fun _ _ => True) w base e (.slice (some ⟨g,0,none⟩) n cap) l) (d : Array α) (hd : d.size = l.length) (m : Nat) (os : Array Obj) :
  OwnS sz V (fun _ _ => True) (sortWorldK V sz w g 0 m d os) base e (.slice (some ⟨g,0,none⟩) n cap) d.toList ∧ w.grownBy (sortWorldK V sz w g 0 m d os) (some g) := by
 rcases h.1.2 with ⟨hv,_⟩ | ⟨g',cap',cur,hv,hb,hg,hn,hc,hs,ht⟩
 ·cases hv
 cases hv
 have hgs : g < w.heap.size := (Array.getElem?_eq_some_iff.1 hg).1
 have hheap : (sortWorldK V sz w g 0 m d os).heap[g]? = some (.cells (putCells id 0 (flatK V sz d) cur) e (0,0)) := by
  unfold sortWorldK putRowK
  rw [heap_grow_old _ _ (by simpa using hgs)]
  simp [putRow,mapBlock,Sort.ahead,Array.getElem?_modify,hg,onCells]
 have hle : l.length * sz ≤ cur.size := by rw [hs];exact Nat.mul_le_mul_right _ hn
 refine ⟨⟨⟨by rw [flatS_len hV],.inr ⟨g,cap,_,by simp [hd],hb,hheap,by simpa [hd] using hn,hc,by simp [putCells,hs],?_⟩⟩,fun _ _ _ _ => trivial⟩,?_⟩
 ·rw [← flatK_list hV h0]
  apply List.ext_getElem?
  intro j
  by_cases hj : j < d.size * sz
  ·rw [List.getElem?_take_of_lt (by simpa using hj),Array.getElem?_toList,Array.getElem?_toList]
   have hjc : j < cur.size := by rw [hd] at hj;omega
   have hjf : j < (flatK V sz d).size := by simpa using hj
   simp only [putCells,Array.getElem?_mapIdx,Array.getElem?_eq_getElem hjc,Option.map_some,Nat.zero_le,true_and,Nat.zero_add,hjf,if_true,Nat.sub_zero,id]
   rw [getElem!_pos _ j hjf,Array.getElem?_eq_getElem hjf]
  ·rw [List.getElem?_take_eq_none (by simp;omega),List.getElem?_eq_none (by simp;omega)]
 ·refine ⟨rfl,rfl,rfl,by simp [sortWorldK,putRowK],fun k hk hne => ?_⟩
  unfold sortWorldK putRowK
  rw [heap_grow_old _ _ (by simpa using hk)]
  have : g ≠ k := fun e => hne (by rw [e])
  simp [putRow,mapBlock,Sort.ahead,Array.getElem?_modify,this]
end
set_option maxHeartbeats 2000000 in
set_option maxRecDepth 100000 in
theorem isnan_int (x : Int) (w : World) : Calls Tryz.prog 67 #[.int .i64 x] w (fun e w' => e = .returned (.bool false) ∧ w' = w) := by
 go_enter Tryz.func67,Tryz.ntmps67
 go_wp2
 go_ret
 exact ⟨rfl,rfl⟩
set_option maxHeartbeats 2000000 in
set_option maxRecDepth 100000 in
theorem compare_int (x y : Int) (w : World) : Calls Tryz.prog 39 #[.int .i64 x,.int .i64 y] w (fun e w' => e = .returned (.int .i64 (cmpI x y)) ∧ w' = w) := by
 have cN := hide (fun x X => isnan_int x X)
 unfold cmpI
 by_cases h1 : x < y
 ·rw [if_pos h1]
  go_enter Tryz.func39,Tryz.ntmps39
  go_wp2_with (first | (go_at_call 67;refine (cN.out _ _).mono ?_;rintro e w' ⟨rfl,rfl⟩) | fail)
  go_ret
  exact ⟨rfl,rfl⟩
 ·rw [if_neg h1]
  by_cases h2 : y < x
  ·rw [if_pos h2]
   go_enter Tryz.func39,Tryz.ntmps39
   go_wp2_with (first | (go_at_call 67;refine (cN.out _ _).mono ?_;rintro e w' ⟨rfl,rfl⟩) | fail)
   go_ret
   exact ⟨rfl,rfl⟩
  ·rw [if_neg h2]
   go_enter Tryz.func39,Tryz.ntmps39
   go_wp2_with (first | (go_at_call 67;refine (cN.out _ _).mono ?_;rintro e w' ⟨rfl,rfl⟩) | fail)
   go_ret
   exact ⟨rfl,rfl⟩
set_option maxHeartbeats 2000000 in
set_option maxRecDepth 100000 in
theorem or_two (a c : Int) (b : Nat) (w : World) (ha : w.cell? ⟨b,0,none⟩ = some (.int .i64 a)) (hc : w.cell? ⟨b,1,none⟩ = some (.int .i64 c)) :
  Calls Tryz.prog 38 #[.slice (some ⟨b,0,none⟩) 2 2] w (fun e w' => e = .returned (.int .i64 (if a ≠ 0 then a else c)) ∧ w' = w) := by
 by_cases h1 : a = 0
 ·subst h1
  rw [if_neg (by simp)]
  by_cases h2 : c = 0
  ·subst h2
   go_enter Tryz.func38,Tryz.ntmps38
   go_wp2
   go_loopg [5,8] 2 (fun gh _ t wr => ∃ (k : Nat),gh = 2 - k ∧ k ≤ 2 ∧ t = .int .i64 (k : Int) ∧ w = wr)
   case atStart => exact ⟨0,rfl,by omega,rfl,rfl⟩
   case round =>
    obtain ⟨k,hgh,hk,rfl,rfl⟩ := hrel
    have hk3 : k = 0 ∨ k = 1 ∨ k = 2 := by omega
    rcases hk3 with rfl | rfl | rfl
    ·go_wp2
     go_roundg 1
     case measure => omega
     case rel => exact ⟨1,rfl,by omega,rfl,rfl⟩
    ·go_wp2
     go_roundg 0
     case measure => omega
     case rel => exact ⟨2,rfl,by omega,rfl,rfl⟩
    ·go_wp2
     go_ret
     exact ⟨rfl,rfl⟩
  ·have hb : (c != 0) = true := by simpa using h2
   go_enter Tryz.func38,Tryz.ntmps38
   go_wp2
   go_loopg [5,8] 2 (fun gh _ t wr => ∃ (k : Nat),gh = 2 - k ∧ k ≤ 1 ∧ t = .int .i64 (k : Int) ∧ w = wr)
   case atStart => exact ⟨0,rfl,by omega,rfl,rfl⟩
   case round =>
    obtain ⟨k,hgh,hk,rfl,rfl⟩ := hrel
    have hk3 : k = 0 ∨ k = 1 := by omega
    rcases hk3 with rfl | rfl
    ·go_wp2
     go_roundg 1
     case measure => omega
     case rel => exact ⟨1,rfl,by omega,rfl,rfl⟩
    ·go_wp2
     go_ret
     exact ⟨rfl,rfl⟩
 ·rw [if_pos h1]
  have hb : (a != 0) = true := by simpa using h1
  go_enter Tryz.func38,Tryz.ntmps38
  go_wp2
  go_loopg [5,8] 2 (fun gh _ t wr => gh = 2 ∧ t = .int .i64 0 ∧ w = wr)
  case atStart => exact ⟨rfl,rfl,rfl⟩
  case round =>
   obtain ⟨hgh,rfl,rfl⟩ := hrel
   go_wp2
   go_ret
   exact ⟨rfl,rfl⟩
set_option maxHeartbeats 4000000 in
set_option maxRecDepth 100000 in
theorem wincmp_any (x y : WinD) (W : World) : Calls Tryz.prog 37 #[.agg (winCells x).toArray,.agg (winCells y).toArray] W (fun e w' => e = .returned (.int .i64 (cmpW x y)) ∧ ∃ q os',w' = grow (W.drewN q) os') := by
 have cC := hide (fun a b X => compare_int a b X)
 obtain ⟨x1,x2,x3⟩ := x
 obtain ⟨y1,y2,y3⟩ := y
 show Calls Tryz.prog 37 #[.agg #[.int .i64 x1,.int .i64 x2,.int .i64 x3],.agg #[.int .i64 y1,.int .i64 y2,.int .i64 y3]] W (fun e w' => e = .returned (.int .i64 (if cmpI x1 y1 ≠ 0 then cmpI x1 y1 else cmpI x2 y2)) ∧ ∃ q os',w' = grow (W.drewN q) os')
 have cC1 := cC.out x1 y1
 have cC2 := cC.out x2 y2
 obtain ⟨c1,hc1⟩ : ∃ c,c = cmpI x1 y1 := ⟨_,rfl⟩
 obtain ⟨c2,hc2⟩ : ∃ c,c = cmpI x2 y2 := ⟨_,rfl⟩
 rw [← hc1] at cC1 ⊢
 rw [← hc2] at cC2 ⊢
 have cO0 := fun b X => or_two c1 c2 b X
 obtain ⟨rr,hrr⟩ : ∃ rr,rr = if c1 ≠ 0 then c1 else c2 := ⟨_,rfl⟩
 rw [← hrr] at cO0 ⊢
 clear hc1 hc2 hrr cC
 replace cC1 := hide cC1
 replace cC2 := hide cC2
 go_enter Tryz.func37,Tryz.ntmps37
 go_upto_region 1 with (fail)
 obtain ⟨Z,hZ⟩ : ∃ Z,Z = (W.alloc (Obj.cells #[.int .i64 x1,.int .i64 x2,.int .i64 x3] 67)).alloc (Obj.cells #[.int .i64 y1,.int .i64 y2,.int .i64 y3] 67) := ⟨_,rfl⟩
 have ra : Row Z W.heap.size 67 [.int .i64 x1,.int .i64 x2,.int .i64 x3] := by rw [hZ];exact Row.alloc (Row.new _ _ _) _
 have rb : Row Z (W.heap.size + 1) 67 [.int .i64 y1,.int .i64 y2,.int .i64 y3] := by rw [hZ];exact Row.at2 _ _ _ _
 have hZs : Hid (Z.heap.size = W.heap.size + 2) := by show _ = _;rw [hZ];simp
 rw [← hZ]
 replace hZ := hide hZ
 have cO := hide (cO0 Z.heap.size)
 clear cO0
 refine wp_region_held_drew (S := fun X => X.cell? ⟨W.heap.size,0,none⟩ = some (.int .i64 x1) ∧ X.cell? ⟨W.heap.size,1,none⟩ = some (.int .i64 x2) ∧ X.cell? ⟨W.heap.size + 1,0,none⟩ = some (.int .i64 y1) ∧ X.cell? ⟨W.heap.size + 1,1,none⟩ = some (.int .i64 y2)) (by kernel_rfl) ⟨(ra.drew.cell? 0).trans rfl,(ra.drew.cell? 1).trans rfl,(rb.drew.cell? 0).trans rfl,(rb.drew.cell? 1).trans rfl⟩ (fun hHeld => ?_)
 refine' wpAnyH_take (i := 0) (oi := _) (v := .pointer (some ⟨W.heap.size,0,none⟩)) rfl (by kernel_rfl) (by kernel_rfl) (by kernel_rfl) (fun _ _ _ h => h) (Or.inl ⟨by first | (go_simp;done) | rfl,fun X hX => by go_simp⟩) hHeld ?_
 try simp only [Act.put,zsA,zsB,zsC]
 refine' wpAnyH_take (i := 1) (oi := _) (v := .int .i64 x1) rfl (by kernel_rfl) (by kernel_rfl) (by kernel_rfl) (fun _ _ _ h => h) (Or.inl ⟨by first | (go_simp;done) | rfl,fun X hX => by have h0 := hX.1;go_simp⟩) hHeld ?_
 try simp only [Act.put,zsA,zsB,zsC]
 refine' wpAnyH_take (i := 2) (oi := _) (v := .pointer (some ⟨W.heap.size + 1,0,none⟩)) rfl (by kernel_rfl) (by kernel_rfl) (by kernel_rfl) (fun _ _ _ h => h) (Or.inl ⟨by first | (go_simp;done) | rfl,fun X hX => by go_simp⟩) hHeld ?_
 try simp only [Act.put,zsA,zsB,zsC]
 refine' wpAnyH_take (i := 3) (oi := _) (v := .int .i64 y1) rfl (by kernel_rfl) (by kernel_rfl) (by kernel_rfl) (fun _ _ _ h => h) (Or.inl ⟨by first | (go_simp;done) | rfl,fun X hX => by have h0 := hX.2.2.1;go_simp⟩) hHeld ?_
 try simp only [Act.put,zsA,zsB,zsC]
 refine' wpAnyH_take (i := 5) (oi := _) (v := .pointer (some ⟨W.heap.size,1,none⟩)) rfl (by kernel_rfl) (by kernel_rfl) (by kernel_rfl) (fun _ _ _ h => h) (Or.inl ⟨by first | (go_simp;done) | rfl,fun X hX => by go_simp⟩) hHeld ?_
 try simp only [Act.put,zsA,zsB,zsC]
 refine' wpAnyH_take (i := 6) (oi := _) (v := .int .i64 x2) rfl (by kernel_rfl) (by kernel_rfl) (by kernel_rfl) (fun _ _ _ h => h) (Or.inl ⟨by first | (go_simp;done) | rfl,fun X hX => by have h0 := hX.2.1;go_simp⟩) hHeld ?_
 try simp only [Act.put,zsA,zsB,zsC]
 refine' wpAnyH_take (i := 7) (oi := _) (v := .pointer (some ⟨W.heap.size + 1,1,none⟩)) rfl (by kernel_rfl) (by kernel_rfl) (by kernel_rfl) (fun _ _ _ h => h) (Or.inl ⟨by first | (go_simp;done) | rfl,fun X hX => by go_simp⟩) hHeld ?_
 try simp only [Act.put,zsA,zsB,zsC]
 refine' wpAnyH_take (i := 8) (oi := _) (v := .int .i64 y2) rfl (by kernel_rfl) (by kernel_rfl) (by kernel_rfl) (fun _ _ _ h => h) (Or.inl ⟨by first | (go_simp;done) | rfl,fun X hX => by have h0 := hX.2.2.2;go_simp⟩) hHeld ?_
 try simp only [Act.put,zsA,zsB,zsC]
 refine wpAnyH_ready (rs := [4]) (by kernel_rfl) (by simp) ?_
 refine AllReadyH.cons (o := _) rfl (fun K hK => ?_) AllReadyH.nil
 go_simp
 refine (cC1.out _).mono ?_
 rintro e w' ⟨rfl,rfl⟩
 go_wp2_with fail
 refine hK.out _ _ hHeld (fun hHeld => ?_)
 clear hK K
 try simp only [Act.put,zsA,zsB,zsC]
 refine wpAnyH_ready (rs := [9]) (by kernel_rfl) (by simp) ?_
 refine AllReadyH.cons (o := _) rfl (fun K hK => ?_) AllReadyH.nil
 go_simp
 refine (cC2.out _).mono ?_
 rintro e w' ⟨rfl,rfl⟩
 go_wp2_with fail
 refine hK.out _ _ hHeld (fun hHeld => ?_)
 clear hK K
 try simp only [Act.put,zsA,zsB,zsC]
 refine wpAnyH_ready (rs := [10]) (by kernel_rfl) (by simp) ?_
 refine AllReadyH.cons (o := _) rfl (fun K hK => ?_) AllReadyH.nil
 go_simp
 refine hK.out _ _ ⟨cell_alloc hHeld.1 _,cell_alloc hHeld.2.1 _,cell_alloc hHeld.2.2.1 _,cell_alloc hHeld.2.2.2 _⟩ (fun hHeld => ?_)
 clear hK K
 try simp only [Act.put,zsA,zsB,zsC]
 obtain ⟨Y,hY⟩ : ∃ Y,Y = (Z.alloc (Obj.cells #[.int .i64 c1,.int .i64 c2] 3)).drew := ⟨_,rfl⟩
 have rn : Row Y Z.heap.size 3 [.int .i64 c1,.int .i64 c2] := by rw [hY];exact (Row.new Z _ _).drew
 rw [← hY] at hHeld ⊢
 replace hY := hide hY
 refine wpAnyH_ready (rs := [11]) (by kernel_rfl) (by simp) ?_
 refine AllReadyH.cons (o := _) rfl (fun K hK => ?_) AllReadyH.nil
 go_simp
 refine (cO.out Y ((rn.cell? 0).trans rfl) ((rn.cell? 1).trans rfl)).mono ?_
 rintro e w' ⟨rfl,rfl⟩
 go_wp2_with fail
 refine hK.out _ _ hHeld (fun hHeld => ?_)
 clear hK K
 try simp only [Act.put,zsA,zsB,zsC]
 refine' wpAnyH_take (i := 12) (oi := _) (v := .int .i64 rr) rfl (by kernel_rfl) (by kernel_rfl) (by kernel_rfl) (fun _ _ _ h => h) (Or.inl ⟨by first | (go_simp;done) | rfl,fun X hX => by go_simp⟩) hHeld ?_
 try simp only [Act.put,zsA,zsB,zsC]
 refine wpAnyH_done (by kernel_rfl) ?_ _
 go_simp
 go_wp2
 go_ret
 refine ⟨rfl,1,#[Obj.cells #[.int .i64 x1,.int .i64 x2,.int .i64 x3] 67,Obj.cells #[.int .i64 y1,.int .i64 y2,.int .i64 y3] 67,Obj.cells #[.int .i64 c1,.int .i64 c2] 3],?_⟩
 rw [hY.out,hZ.out,alloc_eq_grow,alloc_eq_grow,alloc_eq_grow,grow_grow,grow_grow]
 rfl
theorem wincmp_enters : ∀ args w,(callFunc 37 args).run Tryz.prog w = .ok (.enter 37 args) w := enters_of Tryz.func37 (by kernel_rfl) rfl
instance inhWin : Inhabited WinD := ⟨⟨0,0,0⟩⟩
theorem win_one (x : WinD) : ∀ v ∈ winCells x,v.oneCell' = true := fun v hv => by
 simp [winCells] at hv
 rcases hv with rfl | rfl | rfl <;> rfl
theorem winsort_any (g : GameD) (r : ResD) (es : List EntD) (hd : DiffK es) (v : Value) (w : World) (base : Nat) (hO : OwnWin w base v (winsX g r es)) (hl : es.length ≤ 100000) :
  Calls Tryz.prog 36 #[v,.func (.func 37) #[] #[]] w (fun e w' => e = .returned (.tuple #[]) ∧ OwnWin w' base v (winsX g r (sortE es)) ∧ w.grownBy w' v.ownBlock) := by
 have hperm : (winsX g r (sortE es)).Perm (winsX g r es) := (sortE_perm es).filterMap _
 rcases hO.1.2 with ⟨rfl,h0⟩ | ⟨gb,cap,cur,rfl,h1⟩
 ·have hn : winsX g r es = [] := List.eq_nil_of_length_eq_zero h0
  have hn2 : winsX g r (sortE es) = [] := by rw [hn] at hperm;exact hperm.eq_nil
  have h := AnyF.slices_SortFunc_none Tryz.sortWin none 0 (.func (.func 37) #[] #[]) w
  change Calls Tryz.prog 36 _ _ _ at h
  refine h.mono ?_
  rintro e w' ⟨rfl,rfl⟩
  rw [hn2]
  exact ⟨rfl,OwnS.nil _ _ _,Gb.refl _ _⟩
 ·have hlen := wins_le g r es
  have hH := OwnS.holdsK win_len (by decide) hO
  have h := AnyQ.slices_SortFunc Tryz.sortWin 3 (fun w => by kernel_rfl) (fun w => by kernel_rfl) winCells win_len win_one cmpW cmpW_swo 37 #[] gb 0 cap (winsX g r es).toArray w wincmp_enters
   (fun m os dk _ x y => wincmp_any x y _) hH (OwnS.lt hO gb rfl).2 (by simp;omega)
  change Calls Tryz.prog 36 _ _ _ at h
  refine h.mono ?_
  rintro e w' ⟨rfl,d',n,os,hp,hs,rfl⟩
  have hw := sort_wins hd (d := (winsX g r es).toArray) rfl hp hs
  have hsz : d'.size = (winsX g r es).length := by have := hp.1;simpa using this
  obtain ⟨q1,q2⟩ := OwnS.sorted win_len (by decide) hO d' hsz n os
  rw [hw] at q1
  exact ⟨rfl,q1,q2⟩
end Go.Proofs.YtelgllgaofjgjaaGreat
end
section
open Go.RowKit
set_option linter.unusedVariables false
set_option linter.unusedSimpArgs false
namespace Go.Proofs.YtelgllgaofjgjaaGreat
theorem count_pos {g : GameD} (h : gameE g = 0) : 0 < countG g := by
 obtain ⟨f1,f2,f3,f4,f5,f6,f7,f8,f9,f10,f11⟩ := mat_facts (game_mat h)
 unfold countG
 by_cases hk : g.kind = 2
 ·rw [if_pos hk]
  have := f7 hk
  exact Nat.pow_pos (by omega)
 ·rw [if_neg hk]
  have := f8 hk
  exact Nat.mul_pos (choose_pos (by omega)) (choose_pos (by omega))
theorem LineR.drew' {w : World} {u v : Value} {a b : List Int} (h : LineR w u v a b) : LineR w.drew u v a b := h
set_option maxHeartbeats 8000000 in
set_option maxRecDepth 100000 in
theorem iwins_bad (ib : Nat) (col : Nat → Nat) (g : GameD) (es : List EntD) (mv bv xv : Value) (r : ResD) (w : World) (hI : IdxR w col ib g es) (hr : ResR w mv bv xv r) (hs : r.serial.size ≤ 9223372036854775807) (hres : resE g r ≠ 0) :
  Calls Tryz.prog 13 #[.pointer (some ⟨ib,0,none⟩),resVal mv bv xv r] w (WinsO [] (resE g r) w) := by
 obtain ⟨h1,h2,h3,h4,av,tv,kv,lv,ms,mk,mp,n,vs,h5,h6⟩ := id hI
 have hS := hide h6
 have hIh := hide hI
 have hrh := hide hr
 obtain ⟨U,hU⟩ : ∃ U,U = unrankG g 0 := ⟨_,rfl⟩
 have hUl : lineE g U.1 U.2 = 0 := by rw [hU];exact unrank_line h2 (count_pos h2)
 have hUP : unrankP g 0 = (U,0) := by
  unfold unrankP
  have := count_pos h2
  rw [if_neg (by simpa using h2),if_neg (by omega),hU]
  rfl
 have cU := hide (fun X (hX : Below w.heap.size w X) => munrank_any g av tv ms 0 X (h6.below hX fun _ _ => rfl).game.now)
 rw [hUP] at cU
 have cT := hide (fun (u v : Value) X (hX : Below w.heap.size w X) (hl : LineR X u v U.1 U.2) => mtier_any g av tv u v mv bv xv ms U r X (h6.below hX fun _ _ => rfl).game.now hl (hr.below hX) hs)
 have hcm : checkM g U r = resE g r := by unfold checkM;rw [if_neg (by simpa using hUl)]
 have htp : tierP g U r = if resE g r ≠ 0 then (0,resE g r) else (tierM g U r,0) := by unfold tierP;rw [hcm]
 rw [htp] at cT
 have hib := h6.ilt
 obtain ⟨ma,mn,mc,rfl⟩ := hr.1.shape
 obtain ⟨ba,bn,bc,rfl⟩ := hr.2.1.shape
 obtain ⟨xa,xn,xc,rfl⟩ := hr.2.2.shape
 unfold LineC at cU
 unfold resVal lineVal at cT
 unfold gameVal at cU cT
 rw [if_pos hres] at cT
 obtain ⟨c,hcc⟩ : ∃ c,c = resE g r := ⟨_,rfl⟩
 rw [← hcc] at cT hres ⊢
 have hcb : (c != 0) = true := by simpa using hres
 clear hcc hres
 clear hU hUl hUP hcm htp h1 h2 h3 h4 h5 h6 hI hr hs
 unfold resVal
 go_enter Tryz.func13,Tryz.ntmps13
 go_upto_region 3 with (fail)
 obtain ⟨W,hW⟩ : ∃ W,W = w.alloc (Obj.cells #[.slice ma mn mc,.slice ba bn bc,.slice xa xn xc,.int .i64 r.factor,.string r.serial] 29) := ⟨_,rfl⟩
 have bW : Below w.heap.size w W := by rw [hW];exact Bel.al (Below.refl _ _) _
 have rb : Row W w.heap.size 29 [.slice ma mn mc,.slice ba bn bc,.slice xa xn xc,.int .i64 r.factor,.string r.serial] := by rw [hW];exact Row.new _ _ _
 rw [← hW]
 clear hW
 have hga := hide (hS.out.below bW fun _ _ => rfl).gameAt
 go_upto_region 4 with (first | (refine wpList_load_mid rfl 25 _ rfl ib 0 rfl (gameCells g av tv) _ hga.out Tryz.underlying25 rfl (by kernel_rfl) ?_) | (go_at_call 33;(refine (cU.out _ bW).mono ?_);rintro e w2 ⟨uu,vv,rfl,hlr,hb2⟩;obtain ⟨u1,u2,u3,rfl⟩ := hlr.1.shape;obtain ⟨v1,v2,v3,rfl⟩ := hlr.2.shape;unfold lineVal) | fail)
 have b2 : Below w.heap.size w w2 := Bel.to bW hb2
 obtain ⟨W2,hW2⟩ : ∃ W2,W2 = w2.alloc (Obj.cells #[.slice u1 u2 u3,.slice v1 v2 v3] 53) := ⟨_,rfl⟩
 have bW2 : Below w2.heap.size w2 W2 := by rw [hW2];exact Bel.al (Below.refl _ _) _
 have rl : Row W2 w2.heap.size 53 [.slice u1 u2 u3,.slice v1 v2 v3] := by rw [hW2];exact Row.new _ _ _
 have rb2 : Row W2 w.heap.size 29 [.slice ma mn mc,.slice ba bn bc,.slice xa xn xc,.int .i64 r.factor,.string r.serial] := Row.keep (Row.keep rb hb2) bW2
 have bD : Below w.heap.size w W2.drew := Below.drew (Bel.to b2 bW2)
 replace hlr := LineR.below hlr bW2
 rw [← hW2]
 clear hW2 bW2 hb2 rb bW
 go_upto_region 6 with (fail)
 refine wp_region_held_drew (S := fun X => X.rangeAt ib 0 (gameCells g av tv) ∧ X.rangeAt w2.heap.size 0 [.slice u1 u2 u3,.slice v1 v2 v3] ∧ X.rangeAt w.heap.size 0 [.slice ma mn mc,.slice ba bn bc,.slice xa xn xc,.int .i64 r.factor,.string r.serial]) (by kernel_rfl) ⟨(hS.out.below bD fun _ _ => rfl).gameAt,Rng.at0 (Rng.cons rl.drew (Rng.nil _)),Rng.at0 (Rng.cons rb2.drew (Rng.nil _))⟩ (fun hHeld => ?_)
 refine' wpAnyH_take (i := 0) (oi := _) (v := .pointer (some ⟨ib,0,none⟩)) rfl (by kernel_rfl) (by kernel_rfl) (by kernel_rfl) (fun _ _ _ h => h) (Or.inl ⟨by first | (go_simp;done) | rfl,fun X hX => by go_simp⟩) hHeld ?_
 try simp only [Act.put,zsA,zsB,zsC]
 refine' wpAnyH_take (i := 1) (oi := _) (v := .pointer (some ⟨ib,0,none⟩)) rfl (by kernel_rfl) (by kernel_rfl) (by kernel_rfl) (fun _ _ _ h => h) (Or.inl ⟨by first | (go_simp;done) | rfl,fun X hX => by go_simp⟩) hHeld ?_
 try simp only [Act.put,zsA,zsB,zsC]
 refine' wpAnyH_take (i := 2) (oi := _) (v := .pointer (some ⟨ib,0,none⟩)) rfl (by kernel_rfl) (by kernel_rfl) (by kernel_rfl) (fun _ _ _ h => h) (Or.inl ⟨by first | (go_simp;done) | rfl,fun X hX => by go_simp⟩) hHeld ?_
 try simp only [Act.put,zsA,zsB,zsC]
 refine' wpAnyH_take (i := 3) (oi := _) (v := .agg (gameCells g av tv).toArray) rfl (by kernel_rfl) (by kernel_rfl) (by kernel_rfl) (fun _ _ _ h => h) (by refine (yieldsIf_load_mid ?_ 25 (.tmp 27) rfl (ib) 0 ?_ (gameCells g av tv) _ (fun X h => h.1) Tryz.underlying25 rfl (by kernel_rfl)) <;> go_simp) hHeld ?_
 try simp only [Act.put,zsA,zsB,zsC]
 refine' wpAnyH_take (i := 4) (oi := _) (v := .agg #[.slice u1 u2 u3,.slice v1 v2 v3]) rfl (by kernel_rfl) (by kernel_rfl) (by kernel_rfl) (fun _ _ _ h => h) (by refine (yieldsIf_load_mid ?_ 53 (.tmp 6) rfl (w2.heap.size) 0 ?_ [.slice u1 u2 u3,.slice v1 v2 v3] _ (fun X h => h.2.1) Tryz.underlying53 rfl (by kernel_rfl)) <;> go_simp) hHeld ?_
 try simp only [Act.put,zsA,zsB,zsC]
 refine' wpAnyH_take (i := 5) (oi := _) (v := .agg #[.slice ma mn mc,.slice ba bn bc,.slice xa xn xc,.int .i64 r.factor,.string r.serial]) rfl (by kernel_rfl) (by kernel_rfl) (by kernel_rfl) (fun _ _ _ h => h) (by refine (yieldsIf_load_mid ?_ 29 (.tmp 3) rfl (w.heap.size) 0 ?_ [.slice ma mn mc,.slice ba bn bc,.slice xa xn xc,.int .i64 r.factor,.string r.serial] _ (fun X h => h.2.2) Tryz.underlying29 rfl (by kernel_rfl)) <;> go_simp) hHeld ?_
 try simp only [Act.put,zsA,zsB,zsC]
 refine wpAnyH_ready (rs := [6]) (by kernel_rfl) (by simp) ?_
 refine AllReadyH.cons (o := _) rfl (fun K hK => ?_) AllReadyH.nil
 go_simp
 refine (cT.out _ _ _ bD (hlr.drew')).mono ?_
 rintro e w3 ⟨rfl,hb3⟩
 go_wp2_with fail
 refine hK.out _ _ ⟨fun j u hu => Bel.cellOf hb3 (hHeld.1 j u hu),fun j u hu => Bel.cellOf hb3 (hHeld.2.1 j u hu),fun j u hu => Bel.cellOf hb3 (hHeld.2.2 j u hu)⟩ (fun hHeld => ?_)
 clear hK K
 try simp only [Act.put,zsA,zsB,zsC]
 refine' wpAnyH_take (i := 7) (oi := _) (v := .tuple #[.int .i64 0,.int .i64 c]) rfl (by kernel_rfl) (by kernel_rfl) (by kernel_rfl) (fun _ _ _ h => h) (Or.inl ⟨by first | (go_simp;done) | rfl,fun X hX => by go_simp⟩) hHeld ?_
 try simp only [Act.put,zsA,zsB,zsC]
 refine' wpAnyH_take (i := 8) (oi := _) (v := .int .i64 0) rfl (by kernel_rfl) (by kernel_rfl) (by kernel_rfl) (fun _ _ _ h => h) (Or.inl ⟨by first | (go_simp;done) | rfl,fun X hX => by go_simp⟩) hHeld ?_
 try simp only [Act.put,zsA,zsB,zsC]
 refine' wpAnyH_take (i := 9) (oi := _) (v := .int .i64 c) rfl (by kernel_rfl) (by kernel_rfl) (by kernel_rfl) (fun _ _ _ h => h) (Or.inl ⟨by first | (go_simp;done) | rfl,fun X hX => by go_simp⟩) hHeld ?_
 try simp only [Act.put,zsA,zsB,zsC]
 refine' wpAnyH_take (i := 10) (oi := _) (v := .int .i64 0) rfl (by kernel_rfl) (by kernel_rfl) (by kernel_rfl) (fun _ _ _ h => h) (Or.inl ⟨by first | (go_simp;done) | rfl,fun X hX => by go_simp⟩) hHeld ?_
 try simp only [Act.put,zsA,zsB,zsC]
 refine' wpAnyH_take (i := 11) (oi := _) (v := .int .i64 c) rfl (by kernel_rfl) (by kernel_rfl) (by kernel_rfl) (fun _ _ _ h => h) (Or.inl ⟨by first | (go_simp;done) | rfl,fun X hX => by go_simp⟩) hHeld ?_
 try simp only [Act.put,zsA,zsB,zsC]
 refine wpAnyH_done (by kernel_rfl) ?_ _
 go_simp
 have b3 : Below w.heap.size w w3 := Bel.to bD hb3
 have rb3 := Row.keep rb2.drew hb3
 clear hb3 rl rb2 bD hHeld b2 hlr
 go_wp2
 go_ret2
 exact ⟨_,rfl,OwnS.nil _ _ _,b3⟩
set_option maxHeartbeats 8000000 in
set_option maxRecDepth 100000 in
theorem iwins_choose (ib : Nat) (col : Nat → Nat) (g : GameD) (es : List EntD) (mv bv xv : Value) (r : ResD) (w : World) (hI : IdxR w col ib g es) (hr : ResR w mv bv xv r) (hs : r.serial.size ≤ 9223372036854775807) (hsize : es.length ≤ 100000) (hres : resE g r = 0) (hkind : g.kind ≠ 2) :
  Calls Tryz.prog 13 #[.pointer (some ⟨ib,0,none⟩),resVal mv bv xv r] w (WinsO (winsX g r (sortE es)) 0 w) := by
 obtain ⟨h1,h2,h3,h4,av,tv,kv,lv,ms,mk,mp,n,vs,h5,h6⟩ := id hI
 have hS := hide h6
 have hIh := hide hI
 have hrh := hide hr
 obtain ⟨U,hU⟩ : ∃ U,U = unrankG g 0 := ⟨_,rfl⟩
 have hUl : lineE g U.1 U.2 = 0 := by rw [hU];exact unrank_line h2 (count_pos h2)
 have hUP : unrankP g 0 = (U,0) := by
  unfold unrankP
  have := count_pos h2
  rw [if_neg (by simpa using h2),if_neg (by omega),hU]
  rfl
 have cU := hide (fun X (hX : Below w.heap.size w X) => munrank_any g av tv ms 0 X (h6.below hX fun _ _ => rfl).game.now)
 rw [hUP] at cU
 have cT := hide (fun (u v : Value) X (hX : Below w.heap.size w X) (hl : LineR X u v U.1 U.2) => mtier_any g av tv u v mv bv xv ms U r X (h6.below hX fun _ _ => rfl).game.now hl (hr.below hX) hs)
 have hcm : checkM g U r = resE g r := by unfold checkM;rw [if_neg (by simpa using hUl)]
 have htp : tierP g U r = if resE g r ≠ 0 then (0,resE g r) else (tierM g U r,0) := by unfold tierP;rw [hcm]
 rw [htp] at cT
 have hib := h6.ilt
 obtain ⟨ma,mn,mc,rfl⟩ := hr.1.shape
 obtain ⟨ba,bn,bc,rfl⟩ := hr.2.1.shape
 obtain ⟨xa,xn,xc,rfl⟩ := hr.2.2.shape
 unfold LineC at cU
 unfold resVal lineVal at cT
 unfold gameVal at cU cT
 rw [if_neg (by simpa using hres)] at cT
 obtain ⟨t,htt⟩ : ∃ t,t = tierM g U r := ⟨_,rfl⟩
 rw [← htt] at cT
 have hdf := hide h4
 replace hres := hide hres
 replace hkind := hide hkind
 replace hsize := hide hsize
 clear htt
 clear hU hUl hUP hcm htp h1 h2 h3 h4 h5 h6 hI hr hs
 unfold resVal
 go_enter Tryz.func13,Tryz.ntmps13
 go_upto_region 3 with (fail)
 obtain ⟨W,hW⟩ : ∃ W,W = w.alloc (Obj.cells #[.slice ma mn mc,.slice ba bn bc,.slice xa xn xc,.int .i64 r.factor,.string r.serial] 29) := ⟨_,rfl⟩
 have bW : Below w.heap.size w W := by rw [hW];exact Bel.al (Below.refl _ _) _
 have rb : Row W w.heap.size 29 [.slice ma mn mc,.slice ba bn bc,.slice xa xn xc,.int .i64 r.factor,.string r.serial] := by rw [hW];exact Row.new _ _ _
 rw [← hW]
 clear hW
 have hga := hide (hS.out.below bW fun _ _ => rfl).gameAt
 go_upto_region 4 with (first | (refine wpList_load_mid rfl 25 _ rfl ib 0 rfl (gameCells g av tv) _ hga.out Tryz.underlying25 rfl (by kernel_rfl) ?_) | (go_at_call 33;(refine (cU.out _ bW).mono ?_);rintro e w2 ⟨uu,vv,rfl,hlr,hb2⟩;obtain ⟨u1,u2,u3,rfl⟩ := hlr.1.shape;obtain ⟨v1,v2,v3,rfl⟩ := hlr.2.shape;unfold lineVal) | fail)
 have b2 : Below w.heap.size w w2 := Bel.to bW hb2
 obtain ⟨W2,hW2⟩ : ∃ W2,W2 = w2.alloc (Obj.cells #[.slice u1 u2 u3,.slice v1 v2 v3] 53) := ⟨_,rfl⟩
 have bW2 : Below w2.heap.size w2 W2 := by rw [hW2];exact Bel.al (Below.refl _ _) _
 have rl : Row W2 w2.heap.size 53 [.slice u1 u2 u3,.slice v1 v2 v3] := by rw [hW2];exact Row.new _ _ _
 have rb2 : Row W2 w.heap.size 29 [.slice ma mn mc,.slice ba bn bc,.slice xa xn xc,.int .i64 r.factor,.string r.serial] := Row.keep (Row.keep rb hb2) bW2
 have bD : Below w.heap.size w W2.drew := Below.drew (Bel.to b2 bW2)
 replace hlr := LineR.below hlr bW2
 rw [← hW2]
 clear hW2 bW2 hb2 rb bW
 go_upto_region 6 with (fail)
 refine wp_region_held_drew (S := fun X => X.rangeAt ib 0 (gameCells g av tv) ∧ X.rangeAt w2.heap.size 0 [.slice u1 u2 u3,.slice v1 v2 v3] ∧ X.rangeAt w.heap.size 0 [.slice ma mn mc,.slice ba bn bc,.slice xa xn xc,.int .i64 r.factor,.string r.serial]) (by kernel_rfl) ⟨(hS.out.below bD fun _ _ => rfl).gameAt,Rng.at0 (Rng.cons rl.drew (Rng.nil _)),Rng.at0 (Rng.cons rb2.drew (Rng.nil _))⟩ (fun hHeld => ?_)
 refine' wpAnyH_take (i := 0) (oi := _) (v := .pointer (some ⟨ib,0,none⟩)) rfl (by kernel_rfl) (by kernel_rfl) (by kernel_rfl) (fun _ _ _ h => h) (Or.inl ⟨by first | (go_simp;done) | rfl,fun X hX => by go_simp⟩) hHeld ?_
 try simp only [Act.put,zsA,zsB,zsC]
 refine' wpAnyH_take (i := 1) (oi := _) (v := .pointer (some ⟨ib,0,none⟩)) rfl (by kernel_rfl) (by kernel_rfl) (by kernel_rfl) (fun _ _ _ h => h) (Or.inl ⟨by first | (go_simp;done) | rfl,fun X hX => by go_simp⟩) hHeld ?_
 try simp only [Act.put,zsA,zsB,zsC]
 refine' wpAnyH_take (i := 2) (oi := _) (v := .pointer (some ⟨ib,0,none⟩)) rfl (by kernel_rfl) (by kernel_rfl) (by kernel_rfl) (fun _ _ _ h => h) (Or.inl ⟨by first | (go_simp;done) | rfl,fun X hX => by go_simp⟩) hHeld ?_
 try simp only [Act.put,zsA,zsB,zsC]
 refine' wpAnyH_take (i := 3) (oi := _) (v := .agg (gameCells g av tv).toArray) rfl (by kernel_rfl) (by kernel_rfl) (by kernel_rfl) (fun _ _ _ h => h) (by refine (yieldsIf_load_mid ?_ 25 (.tmp 27) rfl (ib) 0 ?_ (gameCells g av tv) _ (fun X h => h.1) Tryz.underlying25 rfl (by kernel_rfl)) <;> go_simp) hHeld ?_
 try simp only [Act.put,zsA,zsB,zsC]
 refine' wpAnyH_take (i := 4) (oi := _) (v := .agg #[.slice u1 u2 u3,.slice v1 v2 v3]) rfl (by kernel_rfl) (by kernel_rfl) (by kernel_rfl) (fun _ _ _ h => h) (by refine (yieldsIf_load_mid ?_ 53 (.tmp 6) rfl (w2.heap.size) 0 ?_ [.slice u1 u2 u3,.slice v1 v2 v3] _ (fun X h => h.2.1) Tryz.underlying53 rfl (by kernel_rfl)) <;> go_simp) hHeld ?_
 try simp only [Act.put,zsA,zsB,zsC]
 refine' wpAnyH_take (i := 5) (oi := _) (v := .agg #[.slice ma mn mc,.slice ba bn bc,.slice xa xn xc,.int .i64 r.factor,.string r.serial]) rfl (by kernel_rfl) (by kernel_rfl) (by kernel_rfl) (fun _ _ _ h => h) (by refine (yieldsIf_load_mid ?_ 29 (.tmp 3) rfl (w.heap.size) 0 ?_ [.slice ma mn mc,.slice ba bn bc,.slice xa xn xc,.int .i64 r.factor,.string r.serial] _ (fun X h => h.2.2) Tryz.underlying29 rfl (by kernel_rfl)) <;> go_simp) hHeld ?_
 try simp only [Act.put,zsA,zsB,zsC]
 refine wpAnyH_ready (rs := [6]) (by kernel_rfl) (by simp) ?_
 refine AllReadyH.cons (o := _) rfl (fun K hK => ?_) AllReadyH.nil
 go_simp
 refine (cT.out _ _ _ bD (hlr.drew')).mono ?_
 rintro e w3 ⟨rfl,hb3⟩
 go_wp2_with fail
 refine hK.out _ _ ⟨fun j u hu => Bel.cellOf hb3 (hHeld.1 j u hu),fun j u hu => Bel.cellOf hb3 (hHeld.2.1 j u hu),fun j u hu => Bel.cellOf hb3 (hHeld.2.2 j u hu)⟩ (fun hHeld => ?_)
 clear hK K
 try simp only [Act.put,zsA,zsB,zsC]
 refine' wpAnyH_take (i := 7) (oi := _) (v := .tuple #[.int .i64 t,.int .i64 0]) rfl (by kernel_rfl) (by kernel_rfl) (by kernel_rfl) (fun _ _ _ h => h) (Or.inl ⟨by first | (go_simp;done) | rfl,fun X hX => by go_simp⟩) hHeld ?_
 try simp only [Act.put,zsA,zsB,zsC]
 refine' wpAnyH_take (i := 8) (oi := _) (v := .int .i64 t) rfl (by kernel_rfl) (by kernel_rfl) (by kernel_rfl) (fun _ _ _ h => h) (Or.inl ⟨by first | (go_simp;done) | rfl,fun X hX => by go_simp⟩) hHeld ?_
 try simp only [Act.put,zsA,zsB,zsC]
 refine' wpAnyH_take (i := 9) (oi := _) (v := .int .i64 0) rfl (by kernel_rfl) (by kernel_rfl) (by kernel_rfl) (fun _ _ _ h => h) (Or.inl ⟨by first | (go_simp;done) | rfl,fun X hX => by go_simp⟩) hHeld ?_
 try simp only [Act.put,zsA,zsB,zsC]
 refine' wpAnyH_take (i := 10) (oi := _) (v := .int .i64 t) rfl (by kernel_rfl) (by kernel_rfl) (by kernel_rfl) (fun _ _ _ h => h) (Or.inl ⟨by first | (go_simp;done) | rfl,fun X hX => by go_simp⟩) hHeld ?_
 try simp only [Act.put,zsA,zsB,zsC]
 refine' wpAnyH_take (i := 11) (oi := _) (v := .int .i64 0) rfl (by kernel_rfl) (by kernel_rfl) (by kernel_rfl) (fun _ _ _ h => h) (Or.inl ⟨by first | (go_simp;done) | rfl,fun X hX => by go_simp⟩) hHeld ?_
 try simp only [Act.put,zsA,zsB,zsC]
 refine wpAnyH_done (by kernel_rfl) ?_ _
 go_simp
 have b3 : Below w.heap.size w w3 := Bel.to bD hb3
 have rb3 := Row.keep rb2.drew hb3
 clear hb3 rl rb2 bD hHeld b2 hlr
 obtain ⟨c0,hc0⟩ : ∃ c0,c0 = g.kind := ⟨_,rfl⟩
 have hk1 : w3.cell? ⟨ib,1,none⟩ = some (.int .i64 c0) := by rw [hc0];exact (hS.out.below b3 fun _ _ => rfl).at1
 have hkb : (c0 == 2) = false := by rw [hc0];simpa using hkind.out
 have cW := hide (ichoose_any ib col g es (.slice ma mn mc) (.slice ba bn bc) (.slice xa xn xc) r w3 (hIh.out.below b3) (hrh.out.below b3) hres.out hkind.out hsize.out)
 unfold resVal at cW
 clear hc0
 go_upto_region 13 with (first | (refine wpList_load_row rfl 29 _ rfl _ rfl _ _ _ _ rb3 Tryz.underlying29 rfl (by kernel_rfl) ?_) | (go_at_call 35;(refine cW.out.mono ?_);rintro e w4 ⟨v4,rfl,hO4,hb4⟩;obtain ⟨o1,oc,rfl⟩ := OwnS.shape hO4) | fail)
 have hO5 := OwnS.lower (base' := w.heap.size) hO4 b3.size
 have b4 : Below w.heap.size w w4 := Bel.to b3 hb4
 have cQ := hide (winsort_any g r es hdf.out _ w4 w.heap.size hO5 hsize.out)
 obtain ⟨on,hon⟩ : ∃ on,on = (winsX g r es).length := ⟨_,rfl⟩
 rw [← hon] at cQ ⊢
 clear hO4 hb4 hk1 hkb cW rb3 b3
 replace hon := hide hon
 have hlt5 := hide (OwnS.lt hO5)
 clear hO5
 go_wp2_with (first | (go_at_call 36;(refine cQ.out.mono ?_);rintro e w5 ⟨rfl,hO6,hg6⟩) | fail)
 go_ret2
 exact ⟨_,rfl,hO6,b4.grown hg6 b4.size fun k hk => (hlt5.out k (by rw [← hon.out];exact hk)).1⟩
set_option maxHeartbeats 8000000 in
set_option maxRecDepth 100000 in
theorem iwins_digits (ib : Nat) (col : Nat → Nat) (g : GameD) (es : List EntD) (mv bv xv : Value) (r : ResD) (w : World) (hI : IdxR w col ib g es) (hr : ResR w mv bv xv r) (hs : r.serial.size ≤ 9223372036854775807) (hsize : es.length ≤ 100000) (hres : resE g r = 0) (hkind : g.kind = 2) :
  Calls Tryz.prog 13 #[.pointer (some ⟨ib,0,none⟩),resVal mv bv xv r] w (WinsO (winsX g r (sortE es)) 0 w) := by
 obtain ⟨h1,h2,h3,h4,av,tv,kv,lv,ms,mk,mp,n,vs,h5,h6⟩ := id hI
 have hS := hide h6
 have hIh := hide hI
 have hrh := hide hr
 obtain ⟨U,hU⟩ : ∃ U,U = unrankG g 0 := ⟨_,rfl⟩
 have hUl : lineE g U.1 U.2 = 0 := by rw [hU];exact unrank_line h2 (count_pos h2)
 have hUP : unrankP g 0 = (U,0) := by
  unfold unrankP
  have := count_pos h2
  rw [if_neg (by simpa using h2),if_neg (by omega),hU]
  rfl
 have cU := hide (fun X (hX : Below w.heap.size w X) => munrank_any g av tv ms 0 X (h6.below hX fun _ _ => rfl).game.now)
 rw [hUP] at cU
 have cT := hide (fun (u v : Value) X (hX : Below w.heap.size w X) (hl : LineR X u v U.1 U.2) => mtier_any g av tv u v mv bv xv ms U r X (h6.below hX fun _ _ => rfl).game.now hl (hr.below hX) hs)
 have hcm : checkM g U r = resE g r := by unfold checkM;rw [if_neg (by simpa using hUl)]
 have htp : tierP g U r = if resE g r ≠ 0 then (0,resE g r) else (tierM g U r,0) := by unfold tierP;rw [hcm]
 rw [htp] at cT
 have hib := h6.ilt
 obtain ⟨ma,mn,mc,rfl⟩ := hr.1.shape
 obtain ⟨ba,bn,bc,rfl⟩ := hr.2.1.shape
 obtain ⟨xa,xn,xc,rfl⟩ := hr.2.2.shape
 unfold LineC at cU
 unfold resVal lineVal at cT
 unfold gameVal at cU cT
 rw [if_neg (by simpa using hres)] at cT
 obtain ⟨t,htt⟩ : ∃ t,t = tierM g U r := ⟨_,rfl⟩
 rw [← htt] at cT
 have hdf := hide h4
 replace hres := hide hres
 replace hkind := hide hkind
 replace hsize := hide hsize
 clear htt
 clear hU hUl hUP hcm htp h1 h2 h3 h4 h5 h6 hI hr hs
 unfold resVal
 go_enter Tryz.func13,Tryz.ntmps13
 go_upto_region 3 with (fail)
 obtain ⟨W,hW⟩ : ∃ W,W = w.alloc (Obj.cells #[.slice ma mn mc,.slice ba bn bc,.slice xa xn xc,.int .i64 r.factor,.string r.serial] 29) := ⟨_,rfl⟩
 have bW : Below w.heap.size w W := by rw [hW];exact Bel.al (Below.refl _ _) _
 have rb : Row W w.heap.size 29 [.slice ma mn mc,.slice ba bn bc,.slice xa xn xc,.int .i64 r.factor,.string r.serial] := by rw [hW];exact Row.new _ _ _
 rw [← hW]
 clear hW
 have hga := hide (hS.out.below bW fun _ _ => rfl).gameAt
 go_upto_region 4 with (first | (refine wpList_load_mid rfl 25 _ rfl ib 0 rfl (gameCells g av tv) _ hga.out Tryz.underlying25 rfl (by kernel_rfl) ?_) | (go_at_call 33;(refine (cU.out _ bW).mono ?_);rintro e w2 ⟨uu,vv,rfl,hlr,hb2⟩;obtain ⟨u1,u2,u3,rfl⟩ := hlr.1.shape;obtain ⟨v1,v2,v3,rfl⟩ := hlr.2.shape;unfold lineVal) | fail)
 have b2 : Below w.heap.size w w2 := Bel.to bW hb2
 obtain ⟨W2,hW2⟩ : ∃ W2,W2 = w2.alloc (Obj.cells #[.slice u1 u2 u3,.slice v1 v2 v3] 53) := ⟨_,rfl⟩
 have bW2 : Below w2.heap.size w2 W2 := by rw [hW2];exact Bel.al (Below.refl _ _) _
 have rl : Row W2 w2.heap.size 53 [.slice u1 u2 u3,.slice v1 v2 v3] := by rw [hW2];exact Row.new _ _ _
 have rb2 : Row W2 w.heap.size 29 [.slice ma mn mc,.slice ba bn bc,.slice xa xn xc,.int .i64 r.factor,.string r.serial] := Row.keep (Row.keep rb hb2) bW2
 have bD : Below w.heap.size w W2.drew := Below.drew (Bel.to b2 bW2)
 replace hlr := LineR.below hlr bW2
 rw [← hW2]
 clear hW2 bW2 hb2 rb bW
 go_upto_region 6 with (fail)
 refine wp_region_held_drew (S := fun X => X.rangeAt ib 0 (gameCells g av tv) ∧ X.rangeAt w2.heap.size 0 [.slice u1 u2 u3,.slice v1 v2 v3] ∧ X.rangeAt w.heap.size 0 [.slice ma mn mc,.slice ba bn bc,.slice xa xn xc,.int .i64 r.factor,.string r.serial]) (by kernel_rfl) ⟨(hS.out.below bD fun _ _ => rfl).gameAt,Rng.at0 (Rng.cons rl.drew (Rng.nil _)),Rng.at0 (Rng.cons rb2.drew (Rng.nil _))⟩ (fun hHeld => ?_)
 refine' wpAnyH_take (i := 0) (oi := _) (v := .pointer (some ⟨ib,0,none⟩)) rfl (by kernel_rfl) (by kernel_rfl) (by kernel_rfl) (fun _ _ _ h => h) (Or.inl ⟨by first | (go_simp;done) | rfl,fun X hX => by go_simp⟩) hHeld ?_
 try simp only [Act.put,zsA,zsB,zsC]
 refine' wpAnyH_take (i := 1) (oi := _) (v := .pointer (some ⟨ib,0,none⟩)) rfl (by kernel_rfl) (by kernel_rfl) (by kernel_rfl) (fun _ _ _ h => h) (Or.inl ⟨by first | (go_simp;done) | rfl,fun X hX => by go_simp⟩) hHeld ?_
 try simp only [Act.put,zsA,zsB,zsC]
 refine' wpAnyH_take (i := 2) (oi := _) (v := .pointer (some ⟨ib,0,none⟩)) rfl (by kernel_rfl) (by kernel_rfl) (by kernel_rfl) (fun _ _ _ h => h) (Or.inl ⟨by first | (go_simp;done) | rfl,fun X hX => by go_simp⟩) hHeld ?_
 try simp only [Act.put,zsA,zsB,zsC]
 refine' wpAnyH_take (i := 3) (oi := _) (v := .agg (gameCells g av tv).toArray) rfl (by kernel_rfl) (by kernel_rfl) (by kernel_rfl) (fun _ _ _ h => h) (by refine (yieldsIf_load_mid ?_ 25 (.tmp 27) rfl (ib) 0 ?_ (gameCells g av tv) _ (fun X h => h.1) Tryz.underlying25 rfl (by kernel_rfl)) <;> go_simp) hHeld ?_
 try simp only [Act.put,zsA,zsB,zsC]
 refine' wpAnyH_take (i := 4) (oi := _) (v := .agg #[.slice u1 u2 u3,.slice v1 v2 v3]) rfl (by kernel_rfl) (by kernel_rfl) (by kernel_rfl) (fun _ _ _ h => h) (by refine (yieldsIf_load_mid ?_ 53 (.tmp 6) rfl (w2.heap.size) 0 ?_ [.slice u1 u2 u3,.slice v1 v2 v3] _ (fun X h => h.2.1) Tryz.underlying53 rfl (by kernel_rfl)) <;> go_simp) hHeld ?_
 try simp only [Act.put,zsA,zsB,zsC]
 refine' wpAnyH_take (i := 5) (oi := _) (v := .agg #[.slice ma mn mc,.slice ba bn bc,.slice xa xn xc,.int .i64 r.factor,.string r.serial]) rfl (by kernel_rfl) (by kernel_rfl) (by kernel_rfl) (fun _ _ _ h => h) (by refine (yieldsIf_load_mid ?_ 29 (.tmp 3) rfl (w.heap.size) 0 ?_ [.slice ma mn mc,.slice ba bn bc,.slice xa xn xc,.int .i64 r.factor,.string r.serial] _ (fun X h => h.2.2) Tryz.underlying29 rfl (by kernel_rfl)) <;> go_simp) hHeld ?_
 try simp only [Act.put,zsA,zsB,zsC]
 refine wpAnyH_ready (rs := [6]) (by kernel_rfl) (by simp) ?_
 refine AllReadyH.cons (o := _) rfl (fun K hK => ?_) AllReadyH.nil
 go_simp
 refine (cT.out _ _ _ bD (hlr.drew')).mono ?_
 rintro e w3 ⟨rfl,hb3⟩
 go_wp2_with fail
 refine hK.out _ _ ⟨fun j u hu => Bel.cellOf hb3 (hHeld.1 j u hu),fun j u hu => Bel.cellOf hb3 (hHeld.2.1 j u hu),fun j u hu => Bel.cellOf hb3 (hHeld.2.2 j u hu)⟩ (fun hHeld => ?_)
 clear hK K
 try simp only [Act.put,zsA,zsB,zsC]
 refine' wpAnyH_take (i := 7) (oi := _) (v := .tuple #[.int .i64 t,.int .i64 0]) rfl (by kernel_rfl) (by kernel_rfl) (by kernel_rfl) (fun _ _ _ h => h) (Or.inl ⟨by first | (go_simp;done) | rfl,fun X hX => by go_simp⟩) hHeld ?_
 try simp only [Act.put,zsA,zsB,zsC]
 refine' wpAnyH_take (i := 8) (oi := _) (v := .int .i64 t) rfl (by kernel_rfl) (by kernel_rfl) (by kernel_rfl) (fun _ _ _ h => h) (Or.inl ⟨by first | (go_simp;done) | rfl,fun X hX => by go_simp⟩) hHeld ?_
 try simp only [Act.put,zsA,zsB,zsC]
 refine' wpAnyH_take (i := 9) (oi := _) (v := .int .i64 0) rfl (by kernel_rfl) (by kernel_rfl) (by kernel_rfl) (fun _ _ _ h => h) (Or.inl ⟨by first | (go_simp;done) | rfl,fun X hX => by go_simp⟩) hHeld ?_
 try simp only [Act.put,zsA,zsB,zsC]
 refine' wpAnyH_take (i := 10) (oi := _) (v := .int .i64 t) rfl (by kernel_rfl) (by kernel_rfl) (by kernel_rfl) (fun _ _ _ h => h) (Or.inl ⟨by first | (go_simp;done) | rfl,fun X hX => by go_simp⟩) hHeld ?_
 try simp only [Act.put,zsA,zsB,zsC]
 refine' wpAnyH_take (i := 11) (oi := _) (v := .int .i64 0) rfl (by kernel_rfl) (by kernel_rfl) (by kernel_rfl) (fun _ _ _ h => h) (Or.inl ⟨by first | (go_simp;done) | rfl,fun X hX => by go_simp⟩) hHeld ?_
 try simp only [Act.put,zsA,zsB,zsC]
 refine wpAnyH_done (by kernel_rfl) ?_ _
 go_simp
 have b3 : Below w.heap.size w w3 := Bel.to bD hb3
 have rb3 := Row.keep rb2.drew hb3
 clear hb3 rl rb2 bD hHeld b2 hlr
 obtain ⟨c0,hc0⟩ : ∃ c0,c0 = g.kind := ⟨_,rfl⟩
 have hk1 : w3.cell? ⟨ib,1,none⟩ = some (.int .i64 c0) := by rw [hc0];exact (hS.out.below b3 fun _ _ => rfl).at1
 have hkb : (c0 == 2) = true := by rw [hc0];simpa using hkind.out
 have cW := hide (idigits_any ib col g es (.slice ma mn mc) (.slice ba bn bc) (.slice xa xn xc) r w3 (hIh.out.below b3) (hrh.out.below b3) hres.out hkind.out hsize.out)
 unfold resVal at cW
 clear hc0
 go_upto_region 13 with (first | (refine wpList_load_row rfl 29 _ rfl _ rfl _ _ _ _ rb3 Tryz.underlying29 rfl (by kernel_rfl) ?_) | (go_at_call 34;(refine cW.out.mono ?_);rintro e w4 ⟨v4,rfl,hO4,hb4⟩;obtain ⟨o1,oc,rfl⟩ := OwnS.shape hO4) | fail)
 have hO5 := OwnS.lower (base' := w.heap.size) hO4 b3.size
 have b4 : Below w.heap.size w w4 := Bel.to b3 hb4
 have cQ := hide (winsort_any g r es hdf.out _ w4 w.heap.size hO5 hsize.out)
 obtain ⟨on,hon⟩ : ∃ on,on = (winsX g r es).length := ⟨_,rfl⟩
 rw [← hon] at cQ ⊢
 clear hO4 hb4 hk1 hkb cW rb3 b3
 replace hon := hide hon
 have hlt5 := hide (OwnS.lt hO5)
 clear hO5
 go_wp2_with (first | (go_at_call 36;(refine cQ.out.mono ?_);rintro e w5 ⟨rfl,hO6,hg6⟩) | fail)
 go_ret2
 exact ⟨_,rfl,hO6,b4.grown hg6 b4.size fun k hk => (hlt5.out k (by rw [← hon.out];exact hk)).1⟩
def winsQ (g : GameD) (r : ResD) (es : List EntD) : List WinD := if resE g r ≠ 0 then [] else winsX g r (sortE es)
theorem iwins_any (ib : Nat) (col : Nat → Nat) (g : GameD) (es : List EntD) (mv bv xv : Value) (r : ResD) (w : World) (hI : IdxR w col ib g es) (hr : ResR w mv bv xv r) (hs : r.serial.size ≤ 9223372036854775807) (hsize : es.length ≤ 100000) :
  Calls Tryz.prog 13 #[.pointer (some ⟨ib,0,none⟩),resVal mv bv xv r] w (WinsO (winsQ g r es) (resE g r) w) := by
 unfold winsQ
 by_cases h : resE g r = 0
 ·rw [if_neg (by simpa using h),h]
  by_cases hk : g.kind = 2
  ·exact iwins_digits ib col g es mv bv xv r w hI hr hs hsize h hk
  ·exact iwins_choose ib col g es mv bv xv r w hI hr hs hsize h hk
 ·rw [if_pos h]
  exact iwins_bad ib col g es mv bv xv r w hI hr hs h
def IntsO (l : List Int) (c : Int) (w : World) (e : Ending) (w' : World) : Prop := ∃ v,e = .returned (.tuple #[v,.int .i64 c]) ∧ Rd I64 w' v l ∧ Below w.heap.size w w'
theorem winsX_tier {g : GameD} {r : ResD} {es : List EntD} : ∀ x ∈ winsX g r es,0 ≤ x.tier ∧ x.tier < (g.tiers.length : Int) := fun x hx => by
 unfold winsX at hx
 obtain ⟨e,he,hw⟩ := List.mem_filterMap.1 hx
 unfold winE at hw
 split at hw
 ·cases hw
 ·rename_i h1
  injection hw with hw
  subst hw
  have h2 : -1 ≤ tierM g e.l r := tierGo_lo _ _ _
  have h3 : tierM g e.l r < ((0 + g.tiers.length : Nat) : Int) := tierGo_hi _ _ _
  simp only
  omega
set_option maxHeartbeats 8000000 in
set_option maxRecDepth 100000 in
theorem icounts_bad (ib : Nat) (col : Nat → Nat) (g : GameD) (es : List EntD) (mv bv xv : Value) (r : ResD) (w : World) (hI : IdxR w col ib g es) (hr : ResR w mv bv xv r) (hs : r.serial.size ≤ 9223372036854775807) (hsize : es.length ≤ 100000) (hres : resE g r ≠ 0) :
  Calls Tryz.prog 14 #[.pointer (some ⟨ib,0,none⟩),resVal mv bv xv r] w (IntsO [] (resE g r) w) := by
 have cW := hide (fun X (hX : Below w.heap.size w X) => iwins_any ib col g es mv bv xv r X (hI.below hX) (hr.below hX) hs hsize)
 obtain ⟨ma,mn,mc,rfl⟩ := hr.1.shape
 obtain ⟨ba,bn,bc,rfl⟩ := hr.2.1.shape
 obtain ⟨xa,xn,xc,rfl⟩ := hr.2.2.shape
 obtain ⟨c,hcc⟩ : ∃ c,c = resE g r := ⟨_,rfl⟩
 rw [← hcc] at cW hres ⊢
 have hcb : (c != 0) = true := by simpa using hres
 unfold resVal WinsO at cW
 clear hcc hres hI hr hs hsize
 unfold resVal
 go_enter Tryz.func14,Tryz.ntmps14
 go_upto_region 3 with (fail)
 obtain ⟨W,hW⟩ : ∃ W,W = w.alloc (Obj.cells #[.slice ma mn mc,.slice ba bn bc,.slice xa xn xc,.int .i64 r.factor,.string r.serial] 29) := ⟨_,rfl⟩
 have bW : Below w.heap.size w W := by rw [hW];exact Bel.al (Below.refl _ _) _
 have rb : Row W w.heap.size 29 [.slice ma mn mc,.slice ba bn bc,.slice xa xn xc,.int .i64 r.factor,.string r.serial] := by rw [hW];exact Row.new _ _ _
 rw [← hW]
 clear hW
 go_upto_region 4 with (first | (refine wpList_load_row rfl 29 _ rfl _ rfl _ _ _ _ rb Tryz.underlying29 rfl (by kernel_rfl) ?_) | (go_at_call 13;(refine (cW.out _ bW).mono ?_);rintro e w2 ⟨v2,rfl,hO2,hb2⟩;obtain ⟨oa,oc,rfl⟩ := OwnS.shape hO2) | fail)
 have b2 : Below w.heap.size w w2 := Bel.to bW hb2
 clear hb2 rb bW
 go_wp2
 go_ret2
 exact ⟨_,rfl,Rd.nil,b2⟩
set_option maxHeartbeats 8000000 in
set_option maxRecDepth 100000 in
theorem icounts_ok (ib : Nat) (col : Nat → Nat) (g : GameD) (es : List EntD) (mv bv xv : Value) (r : ResD) (w : World) (hI : IdxR w col ib g es) (hr : ResR w mv bv xv r) (hs : r.serial.size ≤ 9223372036854775807) (hsize : es.length ≤ 100000) (hres : resE g r = 0) :
  Calls Tryz.prog 14 #[.pointer (some ⟨ib,0,none⟩),resVal mv bv xv r] w (IntsO (cntGo g.tiers.length (winsX g r (sortE es))) 0 w) := by
 have cW := hide (fun X (hX : Below w.heap.size w X) => iwins_any ib col g es mv bv xv r X (hI.below hX) (hr.below hX) hs hsize)
 unfold winsQ at cW
 rw [if_neg (by simpa using hres),hres] at cW
 have htier := hide (fun x (hx : x ∈ winsX g r (sortE es)) => winsX_tier x hx)
 have hll : (winsX g r (sortE es)).length ≤ 100000 := by
  have h1 := wins_le g r (sortE es)
  have h2 := (sortE_perm es).length_eq
  omega
 obtain ⟨l,hl⟩ : ∃ l,l = winsX g r (sortE es) := ⟨_,rfl⟩
 rw [← hl] at cW htier hll ⊢
 have htn := tiers_pos hI.good
 obtain ⟨h1,h2,h3,h4,av,tv,kv,lv,ms,mk,mp,n0,vs,h5,h6⟩ := id hI
 obtain ⟨ta,tc,hte,-,-⟩ := h6.game.now.2.2.shape
 subst hte
 have h21 := hide (fun X (hX : Below w.heap.size w X) => (h6.below hX fun _ _ => rfl).at21)
 have hib := h6.ilt
 obtain ⟨tn,htne⟩ : ∃ tn,tn = g.tiers.length := ⟨_,rfl⟩
 rw [← htne] at h21 htier htn ⊢
 have hn1 : (tn : Int) ≤ 1000 := by omega
 obtain ⟨ma,mn,mc,rfl⟩ := hr.1.shape
 obtain ⟨ba,bn,bc,rfl⟩ := hr.2.1.shape
 obtain ⟨xa,xn,xc,rfl⟩ := hr.2.2.shape
 unfold resVal WinsO at cW
 obtain ⟨n,hnn⟩ : ∃ n,n = l.length := ⟨_,rfl⟩
 have hn63 : (n : Int) ≤ 100000 := by omega
 obtain ⟨R,hR⟩ : ∃ R,R = cntGo tn l := ⟨_,rfl⟩
 rw [← hR]
 replace hR := hide hR
 clear hres hI hr hs hsize hl hll h1 h2 h3 h4 h5 h6 htne htn
 unfold resVal
 go_enter Tryz.func14,Tryz.ntmps14
 go_upto_region 3 with (fail)
 obtain ⟨W,hW⟩ : ∃ W,W = w.alloc (Obj.cells #[.slice ma mn mc,.slice ba bn bc,.slice xa xn xc,.int .i64 r.factor,.string r.serial] 29) := ⟨_,rfl⟩
 have bW : Below w.heap.size w W := by rw [hW];exact Bel.al (Below.refl _ _) _
 have rb : Row W w.heap.size 29 [.slice ma mn mc,.slice ba bn bc,.slice xa xn xc,.int .i64 r.factor,.string r.serial] := by rw [hW];exact Row.new _ _ _
 rw [← hW]
 clear hW
 go_upto_region 4 with (first | (refine wpList_load_row rfl 29 _ rfl _ rfl _ _ _ _ rb Tryz.underlying29 rfl (by kernel_rfl) ?_) | (go_at_call 13;(refine (cW.out _ bW).mono ?_);rintro e w2 ⟨v2,rfl,hO2,hb2⟩;obtain ⟨oa,oc,rfl⟩ := OwnS.shape hO2) | fail)
 have b2 : Below w.heap.size w w2 := Bel.to bW hb2
 clear hb2 rb bW
 rw [← hnn] at hO2 ⊢
 have hll := hide (fun X (hX : Below w2.heap.size w2 X) => RdS.below (OwnWin.rd hO2) hX)
 replace hnn := hide hnn
 have x21 : w2.cell? ⟨ib,21,none⟩ = some (.slice ta tn tc) := h21.out w2 b2
 clear hO2
 go_wp2_with (first | (with_reducible refine wpList_make_row _ rfl _ _ 27 rfl 3 (.int .i64 0) 8 Tryz.underlying27 (by kernel_rfl) rfl .i64 .i64 _ _ tn tn rfl rfl rfl rfl (Nat.le_refl _) (by omega) (by omega) ?_) | fail)
 intro X rX bX sX
 have hz : List.replicate tn (Value.int .i64 0) = (cntGo tn []).map I64 := by simp [cntGo]
 rw [hz] at rX
 obtain ⟨cb,hcb⟩ : ∃ cb,cb = w2.heap.size := ⟨_,rfl⟩
 rw [← hcb] at rX ⊢
 have hcw : Hid (w2.heap.size ≤ cb) := by show _ ≤ _;omega
 have hws : Hid (w.heap.size ≤ w2.heap.size) := b2.size
 have hBX := bX
 have b2h := hide b2
 clear x21 hz hcb sX bX b2
 go_wp2
 go_loopg [10,31] n (fun gh _ t wr => ∃ (i : Nat),gh = n - i ∧ i ≤ n ∧ t = .int .i64 (i : Int) ∧ Hid (Row wr cb 3 ((cntGo tn (l.take i)).map I64)) ∧ Hid (Below w2.heap.size w2 wr))
 case atStart => exact ⟨0,rfl,Nat.zero_le _,rfl,rX,hBX⟩
 case round =>
  clear rX hBX
  obtain ⟨i,hgh,hi,rfl,hrow,hB⟩ := hrel
  replace hgh := hide hgh
  by_cases hlt : i < n
  ·have hlt2 := hide hlt
   have hil : i < l.length := by rw [← hnn.out];exact hlt
   obtain ⟨b,off,rfl,hbb,hcell⟩ := (hll.out wr hB.out).at_ hil
   obtain ⟨x,hx⟩ : ∃ x,x = l[i] := ⟨_,rfl⟩
   have hxi : l[i]? = some x := by rw [hx];exact List.getElem?_eq_getElem hil
   have htx := htier.out x (by rw [hx];exact List.getElem_mem _)
   have hrange : wr.rangeAt b (off + i * 3) (winCells x) := fun j u hu => hcell i x hxi j u hu
   have hsn : l.take (i + 1) = l.take i ++ [x] := by rw [List.take_succ_eq_append_getElem hil,hx]
   have hle : ∀ t,cntT t (l.take i) ≤ i := fun t => Nat.le_trans (cntT_le _ _) (by rw [List.length_take];omega)
   obtain ⟨L,hL⟩ : ∃ L,L = l.take i := ⟨_,rfl⟩
   rw [← hL] at hrow hsn hle
   clear hcell hx hxi hL
   obtain ⟨x1,x2,x3⟩ := x
   have hthere := hide (show (wr.alloc (.cells #[.int .i64 0,.int .i64 0,.int .i64 0] 67)).there wr.heap.size 0 3 from Row.there (Row.newOf (cs := [.int .i64 0,.int .i64 0,.int .i64 0]) _ rfl))
   have i1 : (0 : Int) ≤ (i : Int) := by omega
   have i2 : (i : Int) < (n : Int) := by omega
   unfold winCells at hrange
   simp only [] at hrange
   go_upto_region 10 with (first | (refine wpList_load_mid rfl 67 _ rfl b (off + i * 3) rfl [.int .i64 x1,.int .i64 x2,.int .i64 x3] _ hrange Tryz.underlying67 rfl (by kernel_rfl) ?_) | (refine wpList_store_mid rfl 67 _ _ rfl wr.heap.size 0 _ rfl rfl hthere.out (by kernel_rfl) (by rfl) ?_) | fail)
   obtain ⟨X1,hX1⟩ : ∃ X1,X1 = wr.alloc (.cells #[.int .i64 x1,.int .i64 x2,.int .i64 x3] 67) := ⟨_,rfl⟩
   have b1 : Below wr.heap.size wr X1 := by rw [hX1];exact Bel.al (Below.refl _ _) _
   have p1 : Row X1 wr.heap.size 67 [.int .i64 x1,.int .i64 x2,.int .i64 x3] := by rw [hX1];exact Row.newOf _ rfl
   rw [← hX1]
   clear hX1 hthere hrange
   obtain ⟨t,rfl⟩ := Int.eq_ofNat_of_zero_le (show 0 ≤ x3 from htx.1)
   have ht : t < tn := by have h := htx.2;simp only at h;omega
   have c2 : X1.cell? ⟨wr.heap.size,2,none⟩ = some (.int .i64 (t : Int)) := (p1.cell? 2).trans rfl
   have hrow1 := Row.keep hrow.out b1
   have hB1 := hide (Bel.to hB.out b1)
   have hat := cntGo_at tn t L ht
   have c5 : X1.cell? ⟨cb,t,none⟩ = some (.int .i64 (cntT t L : Int)) := by rw [hrow1.cell?,List.getElem?_map,hat];rfl
   have f5 := hrow1.frozen t
   have hwr : IntKind.i64.wrap ((cntT t L : Int) + 1) = ((cntT t L + 1 : Nat) : Int) := by
    have := hle t
    rw [IntWalk.i64_in _ (by omega)]
    omega
   have hrow2 : Hid (Row (X1.setCell ⟨cb,t,none⟩ (.int .i64 ((cntT t L + 1 : Nat) : Int))) cb 3 ((cntGo tn (l.take (i + 1))).map I64)) := by
    show Row _ _ _ _
    have h9 := Row.setV hrow1 t ((cntT t L + 1 : Nat) : Int)
    rw [hsn,cntGo_snoc,cntStep,if_pos ⟨by show (0 : Int) ≤ (t : Int);omega,by show (t : Int) < _;omega⟩]
    have e9 : (cntGo tn L).getD ((⟨x1,x2,(t : Int)⟩ : WinD).tier.toNat) 0 + 1 = ((cntT t L + 1 : Nat) : Int) := by
     show (cntGo tn L).getD ((t : Int).toNat) 0 + 1 = _
     rw [Int.toNat_natCast,List.getD_eq_getElem?_getD,hat]
     simp
    rw [e9]
    exact h9
   have hB2 : Hid (Below w2.heap.size w2 (X1.setCell ⟨cb,t,none⟩ (.int .i64 ((cntT t L + 1 : Nat) : Int)))) := Bel.st hB1.out (by exact hcw.out) _
   obtain ⟨q,hq⟩ : ∃ q,q = cntT t L := ⟨_,rfl⟩
   rw [← hq] at c5 hwr hrow2 hB2
   have t1 : (0 : Int) ≤ (t : Int) := by omega
   have t2 : (t : Int) < (tn : Int) := by omega
   clear hq hat hsn hle hrow1 hrow hB p1 b1 htx
   go_wp2
   go_roundg (n - (i + 1))
   case measure => have := hgh.out;have := hlt2.out;omega
   case rel => exact ⟨i + 1,rfl,by have := hlt2.out;omega,by go_num,hrow2,hB2⟩
  ·obtain rfl : n = i := by omega
   have hrd : Rd I64 wr (.slice (some ⟨cb,0,none⟩) tn tn) R := by
    have h9 := hrow.out
    rw [List.take_of_length_le (by rw [← hnn.out];exact Nat.le_refl _),← hR.out] at h9
    exact Row.rdAll h9 (by rw [hR.out,cntGo_len]) (Nat.le_refl _) (by omega)
   go_wp2
   go_ret2
   exact ⟨_,rfl,hrd,Bel.to b2h.out hB.out⟩
def cntQ (g : GameD) (r : ResD) (es : List EntD) : List Int := if resE g r ≠ 0 then [] else cntGo g.tiers.length (winsX g r (sortE es))
theorem icounts_any (ib : Nat) (col : Nat → Nat) (g : GameD) (es : List EntD) (mv bv xv : Value) (r : ResD) (w : World) (hI : IdxR w col ib g es) (hr : ResR w mv bv xv r) (hs : r.serial.size ≤ 9223372036854775807) (hsize : es.length ≤ 100000) :
  Calls Tryz.prog 14 #[.pointer (some ⟨ib,0,none⟩),resVal mv bv xv r] w (IntsO (cntQ g r es) (resE g r) w) := by
 unfold cntQ
 by_cases h : resE g r = 0
 ·rw [if_neg (by simpa using h),h]
  exact icounts_ok ib col g es mv bv xv r w hI hr hs hsize h
 ·rw [if_pos h]
  exact icounts_bad ib col g es mv bv xv r w hI hr hs hsize h
def IdxB (w X : World) (col : Nat → Nat) (ib : Nat) (g : GameD) (es : List EntD) : Prop := IdxR X col ib g es ∧ (∀ k,k < w.heap.size → 5 ≤ col k) ∧ Below w.heap.size w X
section
variable {w X Y : World} {col : Nat → Nat} {ib : Nat} {g : GameD} {es : List EntD} {d : EntD} {mv bv : Value}
theorem IdxB.below (h : IdxB w X col ib g es) (hb : Below X.heap.size X Y) : IdxB w Y col ib g es := ⟨h.1.below hb,h.2.1,Bel.to h.2.2 hb⟩
theorem IdxB.bel (h : IdxB w X col ib g es) : Below w.heap.size w X := h.2.2
theorem IdxB.ilt (h : IdxB w X col ib g es) : ib < X.heap.size := h.1.ilt
theorem IdxB.chg (h : IdxB w X col ib g es) (hc : Chg (Mine col) X Y) : Below w.heap.size w Y := h.2.2.trans (hc.below h.2.2.size fun k hk hm => by have := h.2.1 k hk;unfold Mine at hm;omega)
theorem IdxB.new6 (h : IdxB w X col ib g es) : ∀ k,X.heap.size ≤ k → col k = 6 := h.1.bound
theorem IdxB.turn {p : Nat → Prop} (h : IdxB w X col ib g es) (hc : Chg p X Y) (hp : ∀ k,k < X.heap.size → p k → col k = 6 ∧ w.heap.size ≤ k) : IdxB w Y col ib g es :=
 ⟨h.1.turn hc fun k hk hpk => (hp k hk hpk).1,h.2.1,h.2.2.trans (hc.below h.2.2.size fun k hk hpk => by have := (hp k (Nat.lt_of_lt_of_le hk h.2.2.size) hpk).2;omega)⟩
theorem iadd_any (hI : IdxB w X col ib g es) (hlk : ∀ Y,Chg (Mine col) X Y → LineR Y mv bv d.l.1 d.l.2) (hsize : es.length ≤ 100000) (it : d.ticket ≤ 9223372036854775807) (il : d.line ≤ 9223372036854775807) :
  Calls Tryz.prog 12 #[.pointer (some ⟨ib,0,none⟩),.int .i64 d.ticket,.int .i64 d.line,lineVal mv bv] X (fun e w' => e = .returned (.int .i64 (addX g es d)) ∧ ∃ col',Later X col col' ∧ IdxB w w' col' ib g (putX g es d) ∧ Chg (Mine col) X w') := by
 have bad : ∀ c,c ≠ 0 → addX g es d = c → Calls Tryz.prog 12 #[.pointer (some ⟨ib,0,none⟩),.int .i64 d.ticket,.int .i64 d.line,lineVal mv bv] X (fun e w' => e = .returned (.int .i64 c) ∧ Below X.heap.size X w') →
   Calls Tryz.prog 12 #[.pointer (some ⟨ib,0,none⟩),.int .i64 d.ticket,.int .i64 d.line,lineVal mv bv] X (fun e w' => e = .returned (.int .i64 (addX g es d)) ∧ ∃ col',Later X col col' ∧ IdxB w w' col' ib g (putX g es d) ∧ Chg (Mine col) X w') := fun c hc he h =>
  h.mono fun e w' ⟨h1,h2⟩ => by
   have hp : putX g es d = es := by unfold putX;rw [if_neg (by rw [he];exact hc)]
   rw [he,hp]
   exact ⟨h1,col,fun _ _ => rfl,hI.below h2,Chg.ofBelow h2⟩
 have hl := hlk X (Chg.refl _ _)
 by_cases hr : d.ticket < 0 ∨ d.line < 0
 ·exact bad 2 (by decide) (by unfold addX;rw [if_pos hr]) (iadd_range ib d.ticket d.line mv bv X hr)
 ·by_cases hc : lineE g d.l.1 d.l.2 = 0
  ·by_cases hk : keyD d ∈ es.map keyD
   ·exact bad 6 (by decide) (by unfold addX;rw [if_neg hr,if_neg (by simpa using hc),if_pos hk]) (iadd_there ib col g es d mv bv X hI.1 hl (by omega) (by omega) it il hc hk)
   ·have ha : addX g es d = 0 := by unfold addX;rw [if_neg hr,if_neg (by simpa using hc),if_neg hk]
    have hp : putX g es d = es ++ [d] := by unfold putX;rw [if_pos ha]
    rw [ha,hp]
    refine (iadd_ok ib col g es d mv bv X hI.1 hlk hsize (by omega) (by omega) it il hc hk).mono ?_
    rintro e w' ⟨h1,col',h2,h3,h4⟩
    exact ⟨h1,col',h2,⟨h3,fun k hk => by rw [h2 k (Nat.lt_of_lt_of_le hk hI.2.2.size)];exact hI.2.1 k hk,hI.chg h4⟩,h4⟩
  ·exact bad (lineE g d.l.1 d.l.2) hc (by unfold addX;rw [if_neg hr,if_pos hc]) (iadd_line ib col g es d mv bv X hI.1 hl (by omega) (by omega) hc)
theorem NewO.idxB {w X W : World} {e : Ending} (hg : gameE g = 0) (hw : Below w.heap.size w W) (h : NewO g W e X) : ∃ ib col,e = .returned (.tuple #[.pointer (some ⟨ib,0,none⟩),.int .i64 0]) ∧ IdxB w X col ib g [] ∧ Below W.heap.size W X ∧ (∀ k,k < W.heap.size → col k = 5) := by
 obtain ⟨ib,col,rfl,h1,h2,h3⟩ := h.idx hg
 exact ⟨ib,col,rfl,⟨h2,fun k hk => by rw [h3 k (Nat.lt_of_lt_of_le hk hw.size)];exact Nat.le_refl _,Bel.to hw h1⟩,h1,h3⟩
end
end Go.Proofs.YtelgllgaofjgjaaGreat
end

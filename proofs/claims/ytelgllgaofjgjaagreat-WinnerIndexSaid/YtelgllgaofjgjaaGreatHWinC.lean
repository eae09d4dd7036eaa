/- Lemmas, merged out of smaller texts (wip/tools/mergedce.py). No condition. -/
import Derived.Test.YtelgllgaofjgjaaGreatHWinA
import Derived.Test.YtelgllgaofjgjaaGreatHLine
import Derived.Test.YtelgllgaofjgjaaGreatHIdxA
import Derived.Test.YtelgllgaofjgjaaGreatHBetA
import Derived.Test.YtelgllgaofjgjaaGreatHWinB
import Derived.Test.YtelgllgaofjgjaaGreatHIdxB
import Derived.Test.YtelgllgaofjgjaaGreatHCore
section
open Go.RowKit
set_option linter.unusedVariables false
set_option linter.unusedSimpArgs false
namespace Go.Proofs.YtelgllgaofjgjaaGreat
def SameR (lo hi : Nat) (w X : World) : Prop := (∀ k,lo ≤ k → k < hi → X.heap[k]? = w.heap[k]?) ∧ hi ≤ X.heap.size
def KeepIn (w0 w w' : World) (P : World → Prop) : Prop := ∀ X,Below w0.heap.size w0 X → SameR w.heap.size w'.heap.size w' X → P X
theorem SameR.refl (lo : Nat) (w : World) : SameR lo w.heap.size w w := ⟨fun _ _ _ => rfl,Nat.le_refl _⟩
theorem SameR.of {lo hi : Nat} {w X : World} {row : Option Nat} (h : w.grownBy X row) (hr : ∀ k,row = some k → k < lo) (hh : hi ≤ w.heap.size) : SameR lo hi w X :=
 ⟨fun k h1 h2 => h.block k (by omega) (fun e => by have := hr k e.symm;omega),by have := h.size;omega⟩
theorem SameR.then {lo hi : Nat} {w X Y : World} {row : Option Nat} (h : SameR lo hi w X) (hg : X.grownBy Y row) (hr : ∀ k,row = some k → k < lo ∨ hi ≤ k) : SameR lo hi w Y :=
 ⟨fun k h1 h2 => (hg.block k (by have := h.2;omega) (fun e => by have := hr k e.symm;omega)).trans (h.1 k h1 h2),Nat.le_trans h.2 hg.size⟩
theorem Below.gb {w X : World} (h : Below w.heap.size w X) : w.grownBy X none := ⟨h.os,h.tape,h.output,h.size,fun k hk _ => h.block k hk⟩
theorem SameR.keep {lo hi : Nat} {w X Y : World} (h : SameR lo hi w X) (hb : Below X.heap.size X Y) : SameR lo hi w Y := h.then (row := none) (Below.gb hb) (fun k e => by cases e)
theorem SameR.drew {lo hi : Nat} {w X : World} (h : SameR lo hi w X) : SameR lo hi w X.drew := h
theorem KeepIn.now {w0 w w' : World} {P : World → Prop} (h : KeepIn w0 w w' P) (hb : Below w.heap.size w w') (h0 : Below w0.heap.size w0 w) : P w' := h w' (Bel.to h0 hb) (SameR.refl _ _)
theorem SameR.mono {lo lo' hi : Nat} {w X : World} (h : SameR lo hi w X) (hl : lo ≤ lo') : SameR lo' hi w X := ⟨fun k h1 h2 => h.1 k (by omega) h2,h.2⟩
section
variable {α : Type} {sz : Nat} {V : α → List Value} {R : World → α → Prop} {w X : World} {base e : Nat} {v : Value} {l : List α}
theorem OwnS.same (h : OwnS sz V R w base e v l) (hX : SameR base w.heap.size w X) : OwnS sz V (fun _ _ => True) X base e v l := by
 have hlt := h.lt
 refine ⟨⟨h.1.1,?_⟩,fun _ _ _ _ => trivial⟩
 rcases h.1.2 with hn | ⟨g,cap,cur,rfl,hb,hg,hr⟩
 ·exact .inl hn
 ·exact .inr ⟨g,cap,cur,rfl,hb,(hX.1 g hb (hlt g rfl).2).trans hg,hr⟩
end
theorem sliced_to (ao : Option Addr) (k cap s : Nat) : sliced ao 0 k cap s = .slice ao k cap := by
 unfold sliced
 have : (ao.map fun x => x.add (0 * s)) = ao := by cases ao <;> simp [Addr.add]
 split
 ·simp
 ·rw [this];simp
theorem elemInts2 : Tryz.prog.underlying 27 = some (.slice (Tryz.prog.elem 27)) := by kernel_rfl
theorem sizeEI2 : ∀ w,(sizeOf (Tryz.prog.elem 27)).run Tryz.prog w = .ok 1 w := fun w => by kernel_rfl
theorem run_cut0 {P : Program} {w : World} {o : Oper} {a : Act} (x hi : Operand) (t : TypeId) (hop : o.op = .slice t x none (some hi) none) (ht : P.underlying t = some (.slice (P.elem t))) (hs : ∀ w,(sizeOf (P.elem t)).run P w = .ok 1 w)
  (ao : Option Addr) (n cap : Nat) (hx : a.eval x = .slice ao n cap) (m : Nat) (hm : a.eval hi = .int .i64 m) (hmc : m ≤ cap) : (execOp a.eval o).run P w = .ok (.value (.slice ao m cap)) w := by
 have hrun := run_slice_h (P := P) (w := w) t ao n cap ht .i64 m (by omega) (by omega)
 have hrun' := (run_sliceAt_slice (P := P) (w := w) t (.slice ao n cap) none (some (.int .i64 m)) none ht).trans hrun
 simp [execOp,hop,hx,hm,hrun',hs,Result.andThen,sliced_to]
set_option maxHeartbeats 2000000 in
set_option maxRecDepth 100000 in
theorem few25_any (ao : Option Addr) (n cap : Nat) (l : List Int) (w : World) (h : Rd I64 w (.slice ao n cap) l) :
  Calls Tryz.prog 17 #[.slice ao n cap] w (Pure (.slice ao (min 14 n) cap) w) := by
 obtain ⟨ao',cap',e,h1,h2,h3⟩ := h.form
 injection e with e1 e2 e3
 subst e1 e2 e3
 obtain ⟨k,hk⟩ : ∃ k,k = min 14 l.length := ⟨_,rfl⟩
 have e1 : min ((l.length : Nat) : Int) 14 = (k : Int) := by omega
 have k1 : k ≤ cap := by omega
 have e2 := fun s => sliced_to ao k cap s
 rw [← hk]
 obtain ⟨n,hn⟩ : ∃ n,n = l.length := ⟨_,rfl⟩
 rw [← hn] at e1 ⊢
 clear h h3 hk hn
 go_enter Tryz.func17,Tryz.ntmps17
 go_wp2
 go_ret
 exact ⟨rfl,rfl⟩
def ResO (w0 w : World) (e : Ending) (w' : World) : Prop := ∃ mv bv xv r,e = .returned (resVal mv bv xv r) ∧ (∀ X,Below w0.heap.size w0 X → ResR X mv bv xv r) ∧ r.serial.size ≤ 20 ∧ Below w.heap.size w w'
set_option maxHeartbeats 4000000 in
set_option maxRecDepth 100000 in
theorem result34_any (mv bv xv : Value) (r : ResD) (w0 w : World) (h0 : ResR w0 mv bv xv r) (hb0 : Below w0.heap.size w0 w) :
  Calls Tryz.prog 6 #[resVal mv bv xv r] w (ResO w0 w) := by
 have h := fun X (hX : Below w0.heap.size w0 X) => h0.below hX
 obtain ⟨h1,h2,h3⟩ := h w hb0
 obtain ⟨a1,c1,rfl,p1,q1,t1⟩ := h1.form
 obtain ⟨a2,c2,rfl,p2,q2,t2⟩ := h2.form
 obtain ⟨a3,c3,rfl,p3,q3,t3⟩ := h3.form
 obtain ⟨r1,r2,r3,r4,r5⟩ := r
 replace h : ∀ X,Below w0.heap.size w0 X → Rd I64 X (.slice a1 r1.length c1) r1 ∧ Rd I64 X (.slice a2 r2.length c2) r2 ∧ Rd I64 X (.slice a3 r3.length c3) r3 := fun X hX => h X hX
 simp only [] at h1 h2 h3 p1 p2 p3 t1 t2 t3 ⊢
 obtain ⟨k1,hk1⟩ : ∃ k,k = min 16 r1.length := ⟨_,rfl⟩
 obtain ⟨k2,hk2⟩ : ∃ k,k = min 6 r2.length := ⟨_,rfl⟩
 obtain ⟨k3,hk3⟩ : ∃ k,k = min 6 r3.length := ⟨_,rfl⟩
 obtain ⟨k4,hk4⟩ : ∃ k,k = min 20 r5.size := ⟨_,rfl⟩
 have e1 : min ((r1.length : Nat) : Int) 16 = (k1 : Int) := by omega
 have e2 : min ((r2.length : Nat) : Int) 6 = (k2 : Int) := by omega
 have e3 : min ((r3.length : Nat) : Int) 6 = (k3 : Int) := by omega
 have e4 : min ((r5.size : Nat) : Int) 20 = (k4 : Int) := by omega
 have m1 : k1 ≤ c1 := by omega
 have m2 : k2 ≤ c2 := by omega
 have m3 : k3 ≤ c3 := by omega
 have m4 : k4 ≤ r5.size := by omega
 have g1 := fun s => sliced_to a1 k1 c1 s
 have g2 := fun s => sliced_to a2 k2 c2 s
 have g3 := fun s => sliced_to a3 k3 c3 s
 have f1 := hide (fun X (hX : Below w0.heap.size w0 X) => (h X hX).1.take (n := k1) (c := c1) rfl (by omega) m1 q1)
 have f2 := hide (fun X (hX : Below w0.heap.size w0 X) => (h X hX).2.1.take (n := k2) (c := c2) rfl (by omega) m2 q2)
 have f3 := hide (fun X (hX : Below w0.heap.size w0 X) => (h X hX).2.2.take (n := k3) (c := c3) rfl (by omega) m3 q3)
 have hk5 : Hid (k4 ≤ 20) := by show k4 ≤ 20;omega
 obtain ⟨n1,hn1⟩ : ∃ n,n = r1.length := ⟨_,rfl⟩
 obtain ⟨n2,hn2⟩ : ∃ n,n = r2.length := ⟨_,rfl⟩
 obtain ⟨n3,hn3⟩ : ∃ n,n = r3.length := ⟨_,rfl⟩
 unfold resVal
 simp only []
 rw [← hn1] at e1 ⊢
 rw [← hn2] at e2 ⊢
 rw [← hn3] at e3 ⊢
 clear h0 hb0 h h1 h2 h3 p1 p2 p3 q1 q2 q3 t1 t2 t3 hk1 hk2 hk3 hk4 hn1 hn2 hn3
 go_enter Tryz.func6,Tryz.ntmps6
 go_upto_region 1 with (fail)
 obtain ⟨W,hW⟩ : ∃ W,W = ((w.alloc (Obj.cells #[.slice a1 n1 c1,.slice a2 n2 c2,.slice a3 n3 c3,.int .i64 r4,.string r5] 29)).alloc (Obj.cells #[.slice none 0 0,.slice none 0 0,.slice none 0 0,.int .i64 0,.string ⟨#[]⟩] 29)) := ⟨_,rfl⟩
 have bW : Below w.heap.size w W := by rw [hW];exact Bel.al (Bel.al (Below.refl _ _) _) _
 have r0 : Row W ((w.heap.size)) 29 [.slice a1 n1 c1,.slice a2 n2 c2,.slice a3 n3 c3,.int .i64 r4,.string r5] := by rw [hW];exact Row.alloc (Row.new _ _ _) _
 have r1 : Row W ((w.heap.size + 1)) 29 [.slice none 0 0,.slice none 0 0,.slice none 0 0,.int .i64 0,.string ⟨#[]⟩] := by rw [hW];exact Row.at2 _ _ _ _
 have sW : w.heap.size + 1 < W.heap.size := by rw [hW];simp
 rw [← hW]
 clear hW
 have x0 := (r0.cell? 0).trans rfl
 have x1 := (r0.cell? 1).trans rfl
 have x2 := (r0.cell? 2).trans rfl
 have y0 := r0.frozen 0
 have y1 := r0.frozen 1
 have y2 := r0.frozen 2
 refine till_begin 22 (fun X => X.cell? ⟨w.heap.size,0,none⟩ = some (.slice a1 n1 c1) ∧ X.cell? ⟨w.heap.size,1,none⟩ = some (.slice a2 n2 c2) ∧ X.cell? ⟨w.heap.size,2,none⟩ = some (.slice a3 n3 c3)) (by kernel_rfl) (⟨x0,x1,x2⟩) (fun hHeld => ?_)
 refine' till_pure (i := 0) (oi := _) (v := .pointer (some ⟨w.heap.size,0,none⟩)) rfl (by kernel_rfl) (by kernel_rfl) (by kernel_rfl) (by kernel_rfl) (fun _ _ _ h => h) (Or.inl ⟨by first | (go_simp;done) | rfl,fun X _ => by go_simp⟩) hHeld ?_
 try simp only [Act.put,zsA,zsB,zsC]
 refine' till_take (i := 1) (oi := _) (v := .slice a1 n1 c1) rfl (by kernel_rfl) (by kernel_rfl) (by kernel_rfl) (by kernel_rfl) (fun _ _ _ h => h) (Or.inl ⟨by first | (go_simp;done) | rfl,fun X hX => by have cX := hX.1;go_simp⟩) hHeld ?_
 try simp only [Act.put,zsA,zsB,zsC]
 refine' till_pure (i := 2) (oi := _) (v := .pointer (some ⟨w.heap.size,0,none⟩)) rfl (by kernel_rfl) (by kernel_rfl) (by kernel_rfl) (by kernel_rfl) (fun _ _ _ h => h) (Or.inl ⟨by first | (go_simp;done) | rfl,fun X _ => by go_simp⟩) hHeld ?_
 try simp only [Act.put,zsA,zsB,zsC]
 refine' till_take (i := 3) (oi := _) (v := .slice a1 n1 c1) rfl (by kernel_rfl) (by kernel_rfl) (by kernel_rfl) (by kernel_rfl) (fun _ _ _ h => h) (Or.inl ⟨by first | (go_simp;done) | rfl,fun X hX => by have cX := hX.1;go_simp⟩) hHeld ?_
 try simp only [Act.put,zsA,zsB,zsC]
 refine' till_pure (i := 4) (oi := _) (v := .int .i64 (n1 : Int)) rfl (by kernel_rfl) (by kernel_rfl) (by kernel_rfl) (by kernel_rfl) (fun _ _ _ h => h) (Or.inl ⟨by first | (go_simp;done) | rfl,fun X _ => by go_simp⟩) hHeld ?_
 try simp only [Act.put,zsA,zsB,zsC]
 refine' till_pure (i := 5) (oi := _) (v := .int .i64 (k1 : Int)) rfl (by kernel_rfl) (by kernel_rfl) (by kernel_rfl) (by kernel_rfl) (fun _ _ _ h => h) (Or.inl ⟨by first | (go_simp;done) | rfl,fun X _ => by go_simp⟩) hHeld ?_
 try simp only [Act.put,zsA,zsB,zsC]
 refine' till_pure (i := 6) (oi := _) (v := .slice a1 k1 c1) rfl (by kernel_rfl) (by kernel_rfl) (by kernel_rfl) (by kernel_rfl) (fun _ _ _ h => h) (Or.inl ⟨by first | (go_simp;done) | rfl,fun X _ => by refine run_cut0 (.tmp 4) (.tmp 8) 27 rfl elemInts2 sizeEI2 a1 n1 c1 ?_ k1 ?_ m1 <;> go_simp⟩) hHeld ?_
 try simp only [Act.put,zsA,zsB,zsC]
 refine' till_pure (i := 7) (oi := _) (v := .pointer (some ⟨w.heap.size,1,none⟩)) rfl (by kernel_rfl) (by kernel_rfl) (by kernel_rfl) (by kernel_rfl) (fun _ _ _ h => h) (Or.inl ⟨by first | (go_simp;done) | rfl,fun X _ => by go_simp⟩) hHeld ?_
 try simp only [Act.put,zsA,zsB,zsC]
 refine' till_take (i := 8) (oi := _) (v := .slice a2 n2 c2) rfl (by kernel_rfl) (by kernel_rfl) (by kernel_rfl) (by kernel_rfl) (fun _ _ _ h => h) (Or.inl ⟨by first | (go_simp;done) | rfl,fun X hX => by have cX := hX.2.1;go_simp⟩) hHeld ?_
 try simp only [Act.put,zsA,zsB,zsC]
 refine' till_pure (i := 9) (oi := _) (v := .pointer (some ⟨w.heap.size,1,none⟩)) rfl (by kernel_rfl) (by kernel_rfl) (by kernel_rfl) (by kernel_rfl) (fun _ _ _ h => h) (Or.inl ⟨by first | (go_simp;done) | rfl,fun X _ => by go_simp⟩) hHeld ?_
 try simp only [Act.put,zsA,zsB,zsC]
 refine' till_take (i := 10) (oi := _) (v := .slice a2 n2 c2) rfl (by kernel_rfl) (by kernel_rfl) (by kernel_rfl) (by kernel_rfl) (fun _ _ _ h => h) (Or.inl ⟨by first | (go_simp;done) | rfl,fun X hX => by have cX := hX.2.1;go_simp⟩) hHeld ?_
 try simp only [Act.put,zsA,zsB,zsC]
 refine' till_pure (i := 11) (oi := _) (v := .int .i64 (n2 : Int)) rfl (by kernel_rfl) (by kernel_rfl) (by kernel_rfl) (by kernel_rfl) (fun _ _ _ h => h) (Or.inl ⟨by first | (go_simp;done) | rfl,fun X _ => by go_simp⟩) hHeld ?_
 try simp only [Act.put,zsA,zsB,zsC]
 refine' till_pure (i := 12) (oi := _) (v := .int .i64 (k2 : Int)) rfl (by kernel_rfl) (by kernel_rfl) (by kernel_rfl) (by kernel_rfl) (fun _ _ _ h => h) (Or.inl ⟨by first | (go_simp;done) | rfl,fun X _ => by go_simp⟩) hHeld ?_
 try simp only [Act.put,zsA,zsB,zsC]
 refine' till_pure (i := 13) (oi := _) (v := .slice a2 k2 c2) rfl (by kernel_rfl) (by kernel_rfl) (by kernel_rfl) (by kernel_rfl) (fun _ _ _ h => h) (Or.inl ⟨by first | (go_simp;done) | rfl,fun X _ => by refine run_cut0 (.tmp 11) (.tmp 15) 27 rfl elemInts2 sizeEI2 a2 n2 c2 ?_ k2 ?_ m2 <;> go_simp⟩) hHeld ?_
 try simp only [Act.put,zsA,zsB,zsC]
 refine' till_pure (i := 14) (oi := _) (v := .pointer (some ⟨w.heap.size,2,none⟩)) rfl (by kernel_rfl) (by kernel_rfl) (by kernel_rfl) (by kernel_rfl) (fun _ _ _ h => h) (Or.inl ⟨by first | (go_simp;done) | rfl,fun X _ => by go_simp⟩) hHeld ?_
 try simp only [Act.put,zsA,zsB,zsC]
 refine' till_take (i := 15) (oi := _) (v := .slice a3 n3 c3) rfl (by kernel_rfl) (by kernel_rfl) (by kernel_rfl) (by kernel_rfl) (fun _ _ _ h => h) (Or.inl ⟨by first | (go_simp;done) | rfl,fun X hX => by have cX := hX.2.2;go_simp⟩) hHeld ?_
 try simp only [Act.put,zsA,zsB,zsC]
 refine' till_pure (i := 16) (oi := _) (v := .pointer (some ⟨w.heap.size,2,none⟩)) rfl (by kernel_rfl) (by kernel_rfl) (by kernel_rfl) (by kernel_rfl) (fun _ _ _ h => h) (Or.inl ⟨by first | (go_simp;done) | rfl,fun X _ => by go_simp⟩) hHeld ?_
 try simp only [Act.put,zsA,zsB,zsC]
 refine' till_take (i := 17) (oi := _) (v := .slice a3 n3 c3) rfl (by kernel_rfl) (by kernel_rfl) (by kernel_rfl) (by kernel_rfl) (fun _ _ _ h => h) (Or.inl ⟨by first | (go_simp;done) | rfl,fun X hX => by have cX := hX.2.2;go_simp⟩) hHeld ?_
 try simp only [Act.put,zsA,zsB,zsC]
 refine' till_pure (i := 18) (oi := _) (v := .int .i64 (n3 : Int)) rfl (by kernel_rfl) (by kernel_rfl) (by kernel_rfl) (by kernel_rfl) (fun _ _ _ h => h) (Or.inl ⟨by first | (go_simp;done) | rfl,fun X _ => by go_simp⟩) hHeld ?_
 try simp only [Act.put,zsA,zsB,zsC]
 refine' till_pure (i := 19) (oi := _) (v := .int .i64 (k3 : Int)) rfl (by kernel_rfl) (by kernel_rfl) (by kernel_rfl) (by kernel_rfl) (fun _ _ _ h => h) (Or.inl ⟨by first | (go_simp;done) | rfl,fun X _ => by go_simp⟩) hHeld ?_
 try simp only [Act.put,zsA,zsB,zsC]
 refine' till_pure (i := 20) (oi := _) (v := .slice a3 k3 c3) rfl (by kernel_rfl) (by kernel_rfl) (by kernel_rfl) (by kernel_rfl) (fun _ _ _ h => h) (Or.inl ⟨by first | (go_simp;done) | rfl,fun X _ => by refine run_cut0 (.tmp 18) (.tmp 22) 27 rfl elemInts2 sizeEI2 a3 n3 c3 ?_ k3 ?_ m3 <;> go_simp⟩) hHeld ?_
 try simp only [Act.put,zsA,zsB,zsC]
 refine' till_pure (i := 21) (oi := _) (v := .pointer (some ⟨w.heap.size,0,none⟩)) rfl (by kernel_rfl) (by kernel_rfl) (by kernel_rfl) (by kernel_rfl) (fun _ _ _ h => h) (Or.inl ⟨by first | (go_simp;done) | rfl,fun X _ => by go_simp⟩) hHeld ?_
 try simp only [Act.put,zsA,zsB,zsC]
 refine till_ready (rs := [22]) (by kernel_rfl) (by simp) ?_
 refine TillReady.last (o := _) rfl (by kernel_rfl) (fun K hK => ?_) TillReady.nil
 go_simp
 refine hK.out _ _ ?_
 clear hK K
 try simp only [Act.put,zsA,zsB,zsC]
 refine' till_late (i := 23) (oi := _) (v := .pointer (some ⟨w.heap.size,1,none⟩)) rfl (by kernel_rfl) (by kernel_rfl) (Or.inl ⟨by first | (go_simp;done) | rfl,fun X _ => by go_simp⟩) ?_
 try simp only [Act.put,zsA,zsB,zsC]
 refine till_ready (rs := [24]) (by kernel_rfl) (by simp) ?_
 refine TillReady.last (o := _) rfl (by kernel_rfl) (fun K hK => ?_) TillReady.nil
 go_simp
 refine hK.out _ _ ?_
 clear hK K
 try simp only [Act.put,zsA,zsB,zsC]
 refine' till_late (i := 25) (oi := _) (v := .pointer (some ⟨w.heap.size,2,none⟩)) rfl (by kernel_rfl) (by kernel_rfl) (Or.inl ⟨by first | (go_simp;done) | rfl,fun X _ => by go_simp⟩) ?_
 try simp only [Act.put,zsA,zsB,zsC]
 refine till_ready (rs := [26]) (by kernel_rfl) (by simp) ?_
 refine TillReady.last (o := _) rfl (by kernel_rfl) (fun K hK => ?_) TillReady.nil
 go_simp
 refine hK.out _ _ ?_
 clear hK K
 try simp only [Act.put,zsA,zsB,zsC]
 refine till_done (by kernel_rfl) ?_ _
 go_simp
 obtain ⟨Y,hY⟩ : ∃ Y,Y = (((W.setCell ⟨w.heap.size,0,none⟩ (.slice a1 k1 c1)).setCell ⟨w.heap.size,1,none⟩ (.slice a2 k2 c2)).setCell ⟨w.heap.size,2,none⟩ (.slice a3 k3 c3)).drew := ⟨_,rfl⟩
 have q0 : Row Y w.heap.size 29 [.slice a1 k1 c1,.slice a2 k2 c2,.slice a3 k3 c3,.int .i64 r4,.string r5] := by rw [hY];exact ((r0.set 0 _).set 1 _).set 2 _
 have q1 : Row Y (w.heap.size + 1) 29 [.slice none 0 0,.slice none 0 0,.slice none 0 0,.int .i64 0,.string ⟨#[]⟩] := by rw [hY];exact ((r1.far (by simp) _).far (by simp) _).far (by simp) _
 have bY : Below w.heap.size w Y := by rw [hY];exact Bel.drN (Bel.st (Bel.st (Bel.st bW (Nat.le_refl _) _) (Nat.le_refl _) _) (Nat.le_refl _) _) 1
 rw [← hY]
 clear hY x0 x1 x2 y0 y1 y2 r0 r1 bW sW hHeld
 have x4 : Y.cell? ⟨w.heap.size,4,none⟩ = some (.string r5) := (q0.cell? 4).trans rfl
 have y4 := q0.frozen 4
 go_upto_region 3 with (fail)
 obtain ⟨Z,hZ⟩ : ∃ Z,Z = Y.setCell ⟨w.heap.size,4,none⟩ (.string (r5.extract 0 k4)) := ⟨_,rfl⟩
 have z0 : Row Z w.heap.size 29 [.slice a1 k1 c1,.slice a2 k2 c2,.slice a3 k3 c3,.int .i64 r4,.string (r5.extract 0 k4)] := by rw [hZ];exact q0.set 4 _
 have z1 : Row Z (w.heap.size + 1) 29 [.slice none 0 0,.slice none 0 0,.slice none 0 0,.int .i64 0,.string ⟨#[]⟩] := by rw [hZ];exact q1.far (by simp) _
 have bZ : Below w.heap.size w Z := by rw [hZ];exact Bel.st bY (Nat.le_refl _) _
 have hsz : Hid ((r5.extract 0 k4).size ≤ 20) := by show _ ≤ 20;have := hk5.out;simp;omega
 rw [← hZ]
 obtain ⟨S,hS⟩ : ∃ S,S = r5.extract 0 k4 := ⟨_,rfl⟩
 rw [← hS] at z0 hsz
 clear hZ x4 y4 q0 q1 bY hS
 go_wp2_with (first | (refine wpList_load_row rfl 29 _ rfl _ rfl _ _ _ _ z0 Tryz.underlying29 rfl (by kernel_rfl) ?_) | (with_reducible refine wpList_store_whole rfl 29 _ _ rfl (w.heap.size + 1) _ rfl rfl 29 _ z1 ?_ ?_ ?_ ?_) | fail)
 case refine_1 => kernel_rfl
 case refine_2 => rfl
 case refine_3 => simp [Value.oneCell']
 intro W2 hrow hgr
 have hw : Below w.heap.size w W2 := Below.grown bZ hgr bZ.size (fun k hk => by injection hk with hk;omega)
 have hR : ∀ X,Below w0.heap.size w0 X → ResR X (.slice a1 k1 c1) (.slice a2 k2 c2) (.slice a3 k3 c3) ⟨r1.take k1,r2.take k2,r3.take k3,r4,S⟩ := by
  exact fun X hX => ⟨f1.out X hX,f2.out X hX,f3.out X hX⟩
 go_wp2
 exact bodyPost_ret (v := resVal (.slice a1 k1 c1) (.slice a2 k2 c2) (.slice a3 k3 c3) ⟨r1.take k1,r2.take k2,r3.take k3,r4,S⟩) (results_cell_row rfl _ _ (w.heap.size + 1) 29 _ (0,0) _ rfl hrow Tryz.underlying29 rfl (by kernel_rfl)) rfl ⟨_,_,_,_,rfl,hR,hsz.out,hw⟩
def GameE (w0 w : World) (e : Ending) (w' : World) : Prop := ∃ g av tv ms,e = .returned (gameVal g av tv) ∧ KeepIn w0 w w' (fun X => GameR X av tv ms g) ∧ g.tiers.length ≤ 14 ∧ Below w.heap.size w w'
theorem addonOne (m : AddonM) (h1 : m.fv.oneCell' = true) (h2 : m.pv.oneCell' = true) : ∀ u ∈ m.cells,u.oneCell' = true := by
 intro u hu
 simp only [AddonM.cells,List.mem_cons,List.not_mem_nil,or_false] at hu
 rcases hu with rfl | rfl | rfl | rfl | rfl | rfl <;> first | rfl | assumption
set_option maxHeartbeats 8000000 in
set_option maxRecDepth 100000 in
theorem small25_any (g : GameD) (av tv : Value) (ms : List AddonM) (w0 w : World) (h9 : GameR w0 av tv ms g) (hb0 : Below w0.heap.size w0 w) :
  Calls Tryz.prog 4 #[gameVal g av tv] w (GameE w0 w) := by
 have h := fun X (hX : Below w0.heap.size w0 X) => h9.below hX
 have h0 := h w hb0
 have hh := hide (fun X (hX : Below w0.heap.size w0 X) => (h X hX).1)
 have hloh := hide hb0
 obtain ⟨aa,ac,rfl,hal,ham⟩ := h0.1.1.shape
 obtain ⟨ta,tc,rfl,htl,htm⟩ := h0.2.2.shape
 obtain ⟨k0,hk0⟩ : ∃ k,k = min 40 g.name.size := ⟨_,rfl⟩
 obtain ⟨k1,hk1⟩ : ∃ k,k = min 14 g.tiers.length := ⟨_,rfl⟩
 have e0 : min ((g.name.size : Nat) : Int) 40 = (k0 : Int) := by omega
 have e1 : min ((g.tiers.length : Nat) : Int) 14 = (k1 : Int) := by omega
 have m0 : k0 ≤ g.name.size := by omega
 have m1 : k1 ≤ tc := by omega
 have m2 := fun s => sliced_to ta k1 tc s
 have hk14 : Hid (k1 ≤ 14) := by show k1 ≤ 14;omega
 have hT := hide (fun X (hX : Below w0.heap.size w0 X) => (h X hX).2.2.take (n := k1) (c := tc) rfl (by omega) m1 htm)
 obtain ⟨n,hn⟩ : ∃ n,n = ms.length := ⟨_,rfl⟩
 obtain ⟨tn,htn⟩ : ∃ n,n = g.tiers.length := ⟨_,rfl⟩
 rw [← hn] at hh
 rw [← htn] at e1
 unfold gameVal
 rw [← hn,← htn]
 replace hn := hide hn
 clear h h9 h0 hb0 hal ham htl htm hk0 hk1 htn
 go_enter Tryz.func4,Tryz.ntmps4
 go_upto_region 1 with (fail)
 obtain ⟨W,hW⟩ : ∃ W,W = ((w.alloc (Obj.cells #[.string g.name,.int .i64 g.kind,.int .i64 g.price,.int .i64 g.main,.int .i64 g.of,.int .i64 g.bonus,.int .i64 g.bonusOf,.int .i64 g.extra,.int .i64 g.draws,.int .i64 g.system,.int .i64 g.days,.int .i64 g.at_,.int .i64 g.close,.int .i64 g.cancel,.int .i64 g.expiry,.int .i64 g.pool,.int .i64 g.reserve,.int .i64 g.round,.int .i64 g.cap,.int .i64 g.rolls,(.slice aa n ac),(.slice ta tn tc)] 25)).alloc (Obj.cells #[.string ⟨#[]⟩,.int .i64 0,.int .i64 0,.int .i64 0,.int .i64 0,.int .i64 0,.int .i64 0,.int .i64 0,.int .i64 0,.int .i64 0,.int .i64 0,.int .i64 0,.int .i64 0,.int .i64 0,.int .i64 0,.int .i64 0,.int .i64 0,.int .i64 0,.int .i64 0,.int .i64 0,.slice none 0 0,.slice none 0 0] 25)) := ⟨_,rfl⟩
 have bW : Below w.heap.size w W := by rw [hW];exact Bel.al (Bel.al (Below.refl _ _) _) _
 have r0 : GameAt W (w.heap.size) g ((.slice aa n ac)) ((.slice ta tn tc)) := by rw [hW];exact Row.alloc (Row.new _ _ _) _
 have r1 : Row W ((w.heap.size + 1)) 25 [.string ⟨#[]⟩,.int .i64 0,.int .i64 0,.int .i64 0,.int .i64 0,.int .i64 0,.int .i64 0,.int .i64 0,.int .i64 0,.int .i64 0,.int .i64 0,.int .i64 0,.int .i64 0,.int .i64 0,.int .i64 0,.int .i64 0,.int .i64 0,.int .i64 0,.int .i64 0,.int .i64 0,.slice none 0 0,.slice none 0 0] := by rw [hW];exact Row.at2 _ _ _ _
 have sW : w.heap.size + 1 < W.heap.size := by rw [hW];simp
 rw [← hW]
 clear hW
 have x0 := r0.name
 have y0 := Row.frozen r0 0
 go_upto_region 2 with (fail)
 obtain ⟨U,hU⟩ : ∃ U,U = W.setCell ⟨w.heap.size,0,none⟩ (.string (g.name.extract 0 k0)) := ⟨_,rfl⟩
 obtain ⟨S,hS⟩ : ∃ S,S = g.name.extract 0 k0 := ⟨_,rfl⟩
 rw [← hS] at hU ⊢
 have u0 : GameAt U w.heap.size { g with name := S } (.slice aa n ac) (.slice ta tn tc) := by rw [hU];exact Row.set r0 0 _
 have u1 := Row.far (w := W) r1 (p := ⟨w.heap.size,0,none⟩) (by simp) (.string S)
 rw [← hU] at u1 ⊢
 have bU : Below w.heap.size w U := by rw [hU];exact Bel.st bW (Nat.le_refl _) _
 have sU : w.heap.size + 1 < U.heap.size := u1.lt
 clear hU hS r0 r1 bW sW x0 y0 e0 m0
 have x21 : U.cell? ⟨w.heap.size,21,none⟩ = some (.slice ta tn tc) := u0.tiers
 have y21 := Row.frozen u0 21
 go_upto_region 3 with (fail)
 obtain ⟨W2,hW2⟩ : ∃ W2,W2 = U.setCell ⟨w.heap.size,21,none⟩ (.slice ta k1 tc) := ⟨_,rfl⟩
 obtain ⟨g1,hg1⟩ : ∃ g1 : GameD,g1 = { g with name := S,tiers := g.tiers.take k1 } := ⟨_,rfl⟩
 have r0 : GameAt W2 w.heap.size g1 (.slice aa n ac) (.slice ta k1 tc) := by rw [hW2,hg1];exact Row.set u0 21 _
 have r1 := Row.far (w := U) u1 (p := ⟨w.heap.size,21,none⟩) (by simp) (.slice ta k1 tc)
 rw [← hW2] at r1 ⊢
 have bW : Below w.heap.size w W2 := by rw [hW2];exact Bel.st bU (Nat.le_refl _) _
 have sW : w.heap.size + 1 < W2.heap.size := r1.lt
 have hT2 : Hid (∀ X,Below w0.heap.size w0 X → RdS 6 tierCells X (.slice ta k1 tc) g1.tiers) := by rw [hg1];exact hT.out
 have hgt : Hid (g1.tiers.length ≤ 14) := by show g1.tiers.length ≤ 14;rw [hg1];simp;have := hk14.out;omega
 have sWh := hide sW
 clear hW2 hg1 u0 u1 bU sU x21 y21 e1 m1 m2 hT hk14
 go_wp2
 go_loopg [3,4,5] n (fun gh v3 t _ wr => ∃ (i : Nat) (E : List AddonM) (ea : Option Addr) (ec : Nat),gh = n - i ∧ i ≤ n ∧ i ≤ 6 ∧ t = .int .i64 (i : Int) ∧ v3 = .slice ea E.length ec ∧ E.length = i ∧ Hid (OwnS 6 AddonM.cells (fun _ _ => True) wr W2.heap.size 61 (.slice ea E.length ec) E) ∧ Hid (∀ m ∈ E,∀ X,Below w0.heap.size w0 X → AddonR X m) ∧ Hid (GameAt wr w.heap.size g1 (.slice aa n ac) (.slice ta k1 tc)) ∧ Hid (Row wr (w.heap.size + 1) 25 [.string ⟨#[]⟩,.int .i64 0,.int .i64 0,.int .i64 0,.int .i64 0,.int .i64 0,.int .i64 0,.int .i64 0,.int .i64 0,.int .i64 0,.int .i64 0,.int .i64 0,.int .i64 0,.int .i64 0,.int .i64 0,.int .i64 0,.int .i64 0,.int .i64 0,.int .i64 0,.int .i64 0,.slice none 0 0,.slice none 0 0]) ∧ Hid (Below w.heap.size w wr) ∧ Hid (W2.heap.size ≤ wr.heap.size))
 case atStart => exact ⟨0,[],none,0,rfl,Nat.zero_le _,Nat.zero_le _,rfl,rfl,rfl,OwnS.nil _ _ _,(by intro m hm;cases hm),r0,r1,bW,Nat.le_refl _⟩
 case round =>
  clear r0 r1 bW
  obtain ⟨i,E,ea,ec,hgh,hi,hi6,rfl,rfl,hEi,hown,hAll,r0,r1,hB,hsz⟩ := hrel
  replace hgh := hide hgh
  replace hEi := hide hEi
  replace r0 := r0.out
  replace r1 := r1.out
  replace hB := hB.out
  have c20 := r0.addons
  by_cases hlt : i < n ∧ i < 6
  rotate_left
  ·have hlt2 := hide hlt
   have hgo : i < n → ¬ i < 6 := fun h1 h2 => hlt ⟨h1,h2⟩
   by_cases h1 : i < n
   ·have i2 : (i : Int) < (n : Int) := by omega
    have h6 : i = 6 := by have := hgo h1;omega
    have i3 : ¬ (i : Int) < 6 := by omega
    replace h6 := hide h6
    clear h1
    have y20 := Row.frozen r0 20
    have hownh := hide hown.out
    have hBh := hide hB
    clear hown hsz hgo hlt2 hgh hlt
    go_upto_region 12 with (fail)
    obtain ⟨Z,hZ⟩ : ∃ Z,Z = wr.setCell ⟨w.heap.size,20,none⟩ (.slice ea E.length ec) := ⟨_,rfl⟩
    obtain ⟨g2,hg2⟩ : ∃ g2 : GameD,g2 = { g1 with addons := E.map (·.d) } := ⟨_,rfl⟩
    have z0 : GameAt Z w.heap.size g2 (.slice ea E.length ec) (.slice ta k1 tc) := by rw [hZ,hg2];exact Row.set r0 20 _
    have z1 := Row.far (w := wr) r1 (p := ⟨w.heap.size,20,none⟩) (by simp) (.slice ea E.length ec)
    have bZ : Below w.heap.size w Z := by rw [hZ];exact Bel.st hB (Nat.le_refl _) _
    have hAd : OwnS 6 AddonM.cells (fun _ _ => True) Z W2.heap.size 61 (.slice ea E.length ec) E := by
     rw [hZ]
     exact OwnS.farR hownh.out (p := ⟨w.heap.size,20,none⟩) (by show w.heap.size < W2.heap.size;have := sWh.out;omega) _ (fun _ _ _ _ => trivial)
    rw [← hZ] at z1 ⊢
    replace hAd := hide hAd
    clear hZ r0 r1 c20 y20 hownh hBh hB
    go_wp2_with (first | (refine wpList_load_row rfl 25 _ rfl _ rfl _ _ _ _ z0 Tryz.underlying25 rfl (by kernel_rfl) ?_) | ((with_reducible refine wpList_store_game rfl _ _ rfl (w.heap.size + 1) g2 _ _ rfl rfl ⟨_,_,_,rfl⟩ ⟨_,_,_,rfl⟩ _ z1 ?_ ?_);(rfl);intro V rV gV) | fail)
    have hw : Below w.heap.size w V := Below.grown bZ gV bZ.size (fun k hk => by injection hk with hk;omega)
    have hAd2 : OwnS 6 AddonM.cells (fun _ _ => True) V W2.heap.size 61 (.slice ea E.length ec) E := ⟨World.ownsRow.kept hAd.out.1 gV (by
     cases hv : (Value.slice ea E.length ec).ownBlock with
     | none => exact .inl rfl
     | some q =>
      refine .inr (fun e => ?_)
      injection e with e
      have h8 := (hAd.out.lt q hv).1
      have h9 := sWh.out
      omega),fun _ _ _ _ => trivial⟩
    have hG : KeepIn w0 w V (fun X => GameR X (.slice ea E.length ec) (.slice ta k1 tc) E g2) := by
     intro X hX hS
     refine ⟨⟨OwnS.rd addon_len (OwnS.same hAd2 (hS.mono (by have := sWh.out;omega))),fun j m hm => hAll.out m (List.mem_of_getElem? hm) X hX⟩,by rw [hg2],?_⟩
     have h9 := hT2.out X hX
     rw [hg2]
     exact h9
    have hgt2 : g2.tiers.length ≤ 14 := by rw [hg2];exact hgt.out
    go_wp2
    exact bodyPost_ret (v := gameVal g2 (.slice ea E.length ec) (.slice ta k1 tc)) (results_cell_row rfl _ _ (w.heap.size + 1) 25 _ (0,0) _ rfl rV Tryz.underlying25 rfl (by kernel_rfl)) rfl ⟨_,_,_,_,rfl,hG,hgt2,hw⟩
   ·have i2 : ¬ (i : Int) < (n : Int) := by omega
    clear h1
    have y20 := Row.frozen r0 20
    have hownh := hide hown.out
    have hBh := hide hB
    clear hown hsz hgo hlt2 hgh hlt
    go_upto_region 12 with (fail)
    obtain ⟨Z,hZ⟩ : ∃ Z,Z = wr.setCell ⟨w.heap.size,20,none⟩ (.slice ea E.length ec) := ⟨_,rfl⟩
    obtain ⟨g2,hg2⟩ : ∃ g2 : GameD,g2 = { g1 with addons := E.map (·.d) } := ⟨_,rfl⟩
    have z0 : GameAt Z w.heap.size g2 (.slice ea E.length ec) (.slice ta k1 tc) := by rw [hZ,hg2];exact Row.set r0 20 _
    have z1 := Row.far (w := wr) r1 (p := ⟨w.heap.size,20,none⟩) (by simp) (.slice ea E.length ec)
    have bZ : Below w.heap.size w Z := by rw [hZ];exact Bel.st hB (Nat.le_refl _) _
    have hAd : OwnS 6 AddonM.cells (fun _ _ => True) Z W2.heap.size 61 (.slice ea E.length ec) E := by
     rw [hZ]
     exact OwnS.farR hownh.out (p := ⟨w.heap.size,20,none⟩) (by show w.heap.size < W2.heap.size;have := sWh.out;omega) _ (fun _ _ _ _ => trivial)
    rw [← hZ] at z1 ⊢
    replace hAd := hide hAd
    clear hZ r0 r1 c20 y20 hownh hBh hB
    go_wp2_with (first | (refine wpList_load_row rfl 25 _ rfl _ rfl _ _ _ _ z0 Tryz.underlying25 rfl (by kernel_rfl) ?_) | ((with_reducible refine wpList_store_game rfl _ _ rfl (w.heap.size + 1) g2 _ _ rfl rfl ⟨_,_,_,rfl⟩ ⟨_,_,_,rfl⟩ _ z1 ?_ ?_);(rfl);intro V rV gV) | fail)
    have hw : Below w.heap.size w V := Below.grown bZ gV bZ.size (fun k hk => by injection hk with hk;omega)
    have hAd2 : OwnS 6 AddonM.cells (fun _ _ => True) V W2.heap.size 61 (.slice ea E.length ec) E := ⟨World.ownsRow.kept hAd.out.1 gV (by
     cases hv : (Value.slice ea E.length ec).ownBlock with
     | none => exact .inl rfl
     | some q =>
      refine .inr (fun e => ?_)
      injection e with e
      have h8 := (hAd.out.lt q hv).1
      have h9 := sWh.out
      omega),fun _ _ _ _ => trivial⟩
    have hG : KeepIn w0 w V (fun X => GameR X (.slice ea E.length ec) (.slice ta k1 tc) E g2) := by
     intro X hX hS
     refine ⟨⟨OwnS.rd addon_len (OwnS.same hAd2 (hS.mono (by have := sWh.out;omega))),fun j m hm => hAll.out m (List.mem_of_getElem? hm) X hX⟩,by rw [hg2],?_⟩
     have h9 := hT2.out X hX
     rw [hg2]
     exact h9
    have hgt2 : g2.tiers.length ≤ 14 := by rw [hg2];exact hgt.out
    go_wp2
    exact bodyPost_ret (v := gameVal g2 (.slice ea E.length ec) (.slice ta k1 tc)) (results_cell_row rfl _ _ (w.heap.size + 1) 25 _ (0,0) _ rfl rV Tryz.underlying25 rfl (by kernel_rfl)) rfl ⟨_,_,_,_,rfl,hG,hgt2,hw⟩
  ·obtain ⟨h1,h2⟩ := hlt
   have h1h := hide h1
   have him : i < ms.length := by rw [← hn.out];exact h1
   have hhw := hh.out wr (Bel.to hloh.out hB)
   obtain ⟨b,off,rfl,hbb,hcell⟩ := hhw.1.at_ him
   obtain ⟨m,hm⟩ : ∃ m,m = ms[i] := ⟨_,rfl⟩
   have hmi : ms[i]? = some m := by rw [hm];exact List.getElem?_eq_getElem him
   have hrange : wr.rangeAt b (off + i * 6) m.cells := fun j u hu => hcell i m hmi j u hu
   have hmR := fun X (hX : Below w0.heap.size w0 X) => (hh.out X hX).2 i m hmi
   have hmw := hhw.2 i m hmi
   clear hcell hmi hhw hm
   obtain ⟨⟨aname,akind,aprice,af,adigits,ap⟩,fv,pv⟩ := m
   have hq1 : Rd I64 wr fv af := hmw.1
   have hq2 : Rd I64 wr pv ap := hmw.2
   obtain ⟨fa,fc,rfl,hfl,hfm,-⟩ := Rd.form hq1
   obtain ⟨pa,pc,rfl,hpl,hpm,-⟩ := Rd.form hq2
   clear hmw hq1 hq2
   obtain ⟨fn,hfn⟩ : ∃ x,x = af.length := ⟨_,rfl⟩
   obtain ⟨pn,hpn⟩ : ∃ x,x = ap.length := ⟨_,rfl⟩
   unfold AddonM.cells at hrange
   simp only [] at hrange
   rw [← hfn,← hpn] at hrange hmR
   obtain ⟨fn2,hfn2⟩ : ∃ k,k = min 14 fn := ⟨_,rfl⟩
   obtain ⟨pn2,hpn2⟩ : ∃ k,k = min 14 pn := ⟨_,rfl⟩
   have hfz : Hid (fn = af.length ∧ fn2 ≤ af.length ∧ fn2 ≤ fc ∧ fc ≤ maxLen) := by refine ⟨hfn,?_,?_,hfm⟩ <;> omega
   have hpz : Hid (pn = ap.length ∧ pn2 ≤ ap.length ∧ pn2 ≤ pc ∧ pc ≤ maxLen) := by refine ⟨hpn,?_,?_,hpm⟩ <;> omega
   replace hfn2 := hide hfn2
   replace hpn2 := hide hpn2
   clear hfl hfm hpl hpm hfn hpn
   replace hmR : Hid (∀ X,Below w0.heap.size w0 X → Rd I64 X (.slice fa fn fc) af ∧ Rd I64 X (.slice pa pn pc) ap) := fun X hX => hmR X hX
   have hthere := hide (show (wr.alloc (.cells #[.string ⟨#[]⟩,.int .i64 0,.int .i64 0,.slice none 0 0,.int .i64 0,.slice none 0 0] 61)).there wr.heap.size 0 6 from Row.there (Row.newOf (cs := [.string ⟨#[]⟩,.int .i64 0,.int .i64 0,.slice none 0 0,.int .i64 0,.slice none 0 0]) _ rfl))
   have i1 : (0 : Int) ≤ (i : Int) := by omega
   have i2 : (i : Int) < (n : Int) := by omega
   have i3 : (i : Int) < 6 := by omega
   go_upto_region 8 with (first | (refine wpList_load_mid rfl 61 _ rfl b (off + i * 6) rfl [.string aname,.int .i64 akind,.int .i64 aprice,.slice fa fn fc,.int .i64 adigits,.slice pa pn pc] _ hrange Tryz.underlying61 rfl (by kernel_rfl) ?_) | (refine wpList_store_mid rfl 61 _ _ rfl wr.heap.size 0 _ rfl rfl hthere.out (by kernel_rfl) (by rfl) ?_) | fail)
   obtain ⟨X1,hX1⟩ : ∃ X1,X1 = wr.alloc (.cells #[.string aname,.int .i64 akind,.int .i64 aprice,.slice fa fn fc,.int .i64 adigits,.slice pa pn pc] 61) := ⟨_,rfl⟩
   have b1 : Below wr.heap.size wr X1 := by rw [hX1];exact Bel.al (Below.refl _ _) _
   have p1 : Row X1 wr.heap.size 61 [.string aname,.int .i64 akind,.int .i64 aprice,.slice fa fn fc,.int .i64 adigits,.slice pa pn pc] := by rw [hX1];exact Row.newOf _ rfl
   rw [← hX1]
   clear hX1 hthere hrange
   obtain ⟨ka,hka⟩ : ∃ k,k = min 40 aname.size := ⟨_,rfl⟩
   have e0 : min ((aname.size : Nat) : Int) 40 = (ka : Int) := by omega
   have m0 : ka ≤ aname.size := by omega
   have x0 : X1.cell? ⟨wr.heap.size,0,none⟩ = some (.string aname) := (p1.cell? 0).trans rfl
   have y0 := p1.frozen 0
   clear hka
   go_upto_region 9 with (fail)
   obtain ⟨X2,hX2⟩ : ∃ X2,X2 = X1.setCell ⟨wr.heap.size,0,none⟩ (.string (aname.extract 0 ka)) := ⟨_,rfl⟩
   obtain ⟨aname2,hna⟩ : ∃ S,S = aname.extract 0 ka := ⟨_,rfl⟩
   rw [← hna] at hX2 ⊢
   have p2 : Row X2 wr.heap.size 61 [.string aname2,.int .i64 akind,.int .i64 aprice,.slice fa fn fc,.int .i64 adigits,.slice pa pn pc] := by rw [hX2];exact p1.set 0 _
   have b2 : Below wr.heap.size wr X2 := by rw [hX2];exact Bel.st b1 (Nat.le_refl _) _
   rw [← hX2]
   clear hX2 hna p1 b1 x0 y0 e0 m0
   have x3 : X2.cell? ⟨wr.heap.size,3,none⟩ = some (.slice fa fn fc) := (p2.cell? 3).trans rfl
   have x5 : X2.cell? ⟨wr.heap.size,5,none⟩ = some (.slice pa pn pc) := (p2.cell? 5).trans rfl
   have y3 := p2.frozen 3
   have y5 := p2.frozen 5
   have rdF := hide (hmR.out X2 (Bel.to hloh.out (Bel.to hB b2))).1
   have rdP := hide (hmR.out X2 (Bel.to hloh.out (Bel.to hB b2))).2
   refine till_begin 7 (fun X => X.cell? ⟨wr.heap.size,3,none⟩ = some (.slice fa fn fc) ∧ X.cell? ⟨wr.heap.size,5,none⟩ = some (.slice pa pn pc)) (by kernel_rfl) (⟨x3,x5⟩) (fun hHeld => ?_)
   refine' till_pure (i := 0) (oi := _) (v := .pointer (some ⟨wr.heap.size,3,none⟩)) rfl (by kernel_rfl) (by kernel_rfl) (by kernel_rfl) (by kernel_rfl) (fun _ _ _ h => h) (Or.inl ⟨by first | (go_simp;done) | rfl,fun X _ => by go_simp⟩) hHeld ?_
   try simp only [Act.put,zsA,zsB,zsC]
   refine' till_take (i := 1) (oi := _) (v := .slice fa fn fc) rfl (by kernel_rfl) (by kernel_rfl) (by kernel_rfl) (by kernel_rfl) (fun _ _ _ h => h) (Or.inl ⟨by first | (go_simp;done) | rfl,fun X hX => by have cX := hX.1;go_simp⟩) hHeld ?_
   try simp only [Act.put,zsA,zsB,zsC]
   refine' till_pure (i := 3) (oi := _) (v := .pointer (some ⟨wr.heap.size,5,none⟩)) rfl (by kernel_rfl) (by kernel_rfl) (by kernel_rfl) (by kernel_rfl) (fun _ _ _ h => h) (Or.inl ⟨by first | (go_simp;done) | rfl,fun X _ => by go_simp⟩) hHeld ?_
   try simp only [Act.put,zsA,zsB,zsC]
   refine' till_take (i := 4) (oi := _) (v := .slice pa pn pc) rfl (by kernel_rfl) (by kernel_rfl) (by kernel_rfl) (by kernel_rfl) (fun _ _ _ h => h) (Or.inl ⟨by first | (go_simp;done) | rfl,fun X hX => by have cX := hX.2;go_simp⟩) hHeld ?_
   try simp only [Act.put,zsA,zsB,zsC]
   refine till_ready (rs := [2]) (by kernel_rfl) (by simp) ?_
   refine TillReady.cons (o := _) rfl (fun K hK => ?_) TillReady.nil
   go_simp
   refine (few25_any _ _ _ _ X2.drew (rdF.out.drew)).mono ?_
   rintro e w9 ⟨rfl,rfl⟩
   rw [← hfn2.out]
   go_wp2_with fail
   refine hK.out _ _ hHeld (fun hHeld => ?_)
   clear hK K
   try simp only [Act.put,zsA,zsB,zsC]
   refine' till_pure (i := 6) (oi := _) (v := .pointer (some ⟨wr.heap.size,3,none⟩)) rfl (by kernel_rfl) (by kernel_rfl) (by kernel_rfl) (by kernel_rfl) (fun _ _ _ h => h) (Or.inl ⟨by first | (go_simp;done) | rfl,fun X _ => by go_simp⟩) hHeld ?_
   try simp only [Act.put,zsA,zsB,zsC]
   refine till_ready (rs := [5]) (by kernel_rfl) (by simp) ?_
   refine TillReady.cons (o := _) rfl (fun K hK => ?_) TillReady.nil
   go_simp
   refine (few25_any _ _ _ _ X2.drew (rdP.out.drew)).mono ?_
   rintro e w9 ⟨rfl,rfl⟩
   rw [← hpn2.out]
   go_wp2_with fail
   refine hK.out _ _ hHeld (fun hHeld => ?_)
   clear hK K
   try simp only [Act.put,zsA,zsB,zsC]
   refine till_ready (rs := [7]) (by kernel_rfl) (by simp) ?_
   refine TillReady.last (o := _) rfl (by kernel_rfl) (fun K hK => ?_) TillReady.nil
   go_simp
   refine hK.out _ _ ?_
   clear hK K
   try simp only [Act.put,zsA,zsB,zsC]
   refine' till_late (i := 8) (oi := _) (v := .pointer (some ⟨wr.heap.size,5,none⟩)) rfl (by kernel_rfl) (by kernel_rfl) (Or.inl ⟨by first | (go_simp;done) | rfl,fun X _ => by go_simp⟩) ?_
   try simp only [Act.put,zsA,zsB,zsC]
   refine till_ready (rs := [9]) (by kernel_rfl) (by simp) ?_
   refine TillReady.last (o := _) rfl (by kernel_rfl) (fun K hK => ?_) TillReady.nil
   go_simp
   refine hK.out _ _ ?_
   clear hK K
   try simp only [Act.put,zsA,zsB,zsC]
   refine till_done (by kernel_rfl) ?_ _
   go_simp
   obtain ⟨X3,hX3⟩ : ∃ X3,X3 = ((X2.setCell ⟨wr.heap.size,3,none⟩ (.slice fa fn2 fc)).setCell ⟨wr.heap.size,5,none⟩ (.slice pa pn2 pc)).drew := ⟨_,rfl⟩
   have p3 : Row X3 wr.heap.size 61 [.string aname2,.int .i64 akind,.int .i64 aprice,.slice fa fn2 fc,.int .i64 adigits,.slice pa pn2 pc] := by rw [hX3];exact (p2.set 3 _).set 5 _
   have b3 : Below wr.heap.size wr X3 := by rw [hX3];exact Bel.drN (Bel.st (Bel.st b2 (Nat.le_refl _) _) (Nat.le_refl _) _) 1
   rw [← hX3]
   have hmR2 : Hid (∀ X,Below w0.heap.size w0 X → AddonR X ⟨⟨aname2,akind,aprice,af.take fn2,adigits,ap.take pn2⟩,.slice fa fn2 fc,.slice pa pn2 pc⟩) := by
    intro X hX
    obtain ⟨q1,q2⟩ := hmR.out X hX
    obtain ⟨z1,z2,z3,z4⟩ := hfz.out
    obtain ⟨y1,y2,y3,y4⟩ := hpz.out
    exact ⟨q1.take (by rw [← z1]) z2 z3 z4,q2.take (by rw [← y1]) y2 y3 y4⟩
   clear hX3 p2 b2 x3 x5 y3 y5 rdF rdP hHeld
   have hE5 : Hid (E.length ≤ 5) := by show E.length ≤ 5;have := hEi.out;omega
   have p3h := hide p3
   have hlth := hide (OwnS.lt hown.out)
   go_wp2_with (first | (refine wpList_load_row rfl 61 _ rfl _ rfl _ _ _ _ p3 Tryz.underlying61 rfl (by kernel_rfl) ?_) | (with_reducible refine wpList_appendS _ rfl _ _ 22 rfl (sz := 6) (V := AddonM.cells) (R := fun _ _ => True) addon_len W2.heap.size 61 (.agg #[.string ⟨#[]⟩,.int .i64 0,.int .i64 0,.slice none 0 0,.int .i64 0,.slice none 0 0]) 88 Tryz.underlying22 infoA rfl (by decide) _ E rfl ?_ _ [⟨⟨aname2,akind,aprice,af.take fn2,adigits,ap.take pn2⟩,.slice fa fn2 fc,.slice pa pn2 pc⟩] rfl ?_ ?_ ?_ ?_ ?_ ?_ ?_) | fail)
   case refine_1 => exact OwnS.keep (OwnS.keep hown.out b3) (Bel.al (Below.refl _ _) _)
   case refine_2 => exact rdS_one (V := AddonM.cells) (x := (⟨⟨aname2,akind,aprice,af.take fn2,adigits,ap.take pn2⟩,.slice fa fn2 fc,.slice pa pn2 pc⟩ : AddonM)) _ (Row.newOf _ rfl) (Nat.le_refl 1) (by unfold maxLen;omega)
   case refine_3 => intro y hy X hX;trivial
   case refine_4 => intro y hy;rcases List.mem_singleton.1 hy with rfl;exact addonOne _ rfl rfl
   case refine_5 => have := hE5.out;simp;omega
   case refine_6 => have := hE5.out;simp;omega
   case refine_7 => have := hsz.out;have := b3.size;simp;omega
   intro v3 w3 hown3 hg3 hv3
   have hB3 : Below w.heap.size w w3 := (Bel.al (Bel.to hB b3) _).grown hg3 (Bel.al (Bel.to hB b3) _).size (fun k hk => by have h8 := (hlth.out k hk).1;have h9 := sWh.out;omega)
   have hne : ∀ q,q < W2.heap.size → some q ≠ (Value.slice ea E.length ec).ownBlock := fun q hq e => by have h8 := (hlth.out q e.symm).1;omega
   have r0' := hide (Row.grown (Row.alloc (Row.keep r0 b3) _) hg3 (hne _ (by have h9 := sWh.out;omega)))
   have r1' := hide (Row.grown (Row.alloc (Row.keep r1 b3) _) hg3 (hne _ sWh.out))
   have hs3 : Hid (W2.heap.size ≤ w3.heap.size) := by show _ ≤ _;have := hsz.out;have := b3.size;have := hg3.size;simp at this;omega
   obtain ⟨a3,c3,rfl⟩ := OwnS.shape hown3
   obtain ⟨E2,hE2⟩ : ∃ E2,E2 = E ++ [(⟨⟨aname2,akind,aprice,af.take fn2,adigits,ap.take pn2⟩,.slice fa fn2 fc,.slice pa pn2 pc⟩ : AddonM)] := ⟨_,rfl⟩
   rw [← hE2] at hown3 ⊢
   have hE2l : E2.length = i + 1 := by rw [hE2,List.length_append,hEi.out];rfl
   have hAll2 : Hid (∀ m ∈ E2,∀ X,Below w0.heap.size w0 X → AddonR X m) := by
    show ∀ m ∈ E2,∀ X,Below w0.heap.size w0 X → AddonR X m
    intro m hm
    rw [hE2] at hm
    rcases List.mem_append.1 hm with hm | hm
    ·exact hAll.out m hm
    ·rcases List.mem_singleton.1 hm with rfl
     exact hmR2.out
   have hown3h := hide hown3
   replace hB3 := hide hB3
   replace hE2l := hide hE2l
   clear hv3 hg3 hne hown3 p3 b3 r0 r1 hB c20 hE2
   go_wp2
   go_roundg (n - (i + 1))
   case measure => have := hgh.out;have := h1h.out;omega
   case rel => exact ⟨i + 1,E2,a3,c3,rfl,by have := h1h.out;omega,by omega,by go_num,rfl,hE2l.out,hown3h,hAll2,r0',r1',hB3,hs3⟩
abbrev LnM := (Value × Value) × LineD
def lnC (p : LnM) : List Value := [p.1.1,p.1.2]
theorem lines_lnC {w : World} {v : Value} {F : List LnM} (h : RdS 2 lnC w v F) (hF : ∀ p ∈ F,LineR w p.1.1 p.1.2 p.2.1 p.2.2) : LinesR w v (F.map (·.2)) := by
 obtain ⟨ao,cap,rfl,h1,h2,h3⟩ := h
 refine ⟨F.map (·.1),⟨ao,cap,by rw [List.length_map],by rw [List.length_map];exact h1,h2,fun hp => ?_⟩,by simp,fun i p x hp hx => ?_⟩
 ·rw [List.length_map] at hp
  obtain ⟨b,off,e,hb,hc⟩ := h3 hp
  refine ⟨b,off,e,hb,fun i y hy j u hu => ?_⟩
  rw [List.getElem?_map] at hy
  cases hq : F[i]? with
  | none => rw [hq] at hy;cases hy
  | some q =>
   rw [hq] at hy
   injection hy with hy
   subst hy
   exact hc i q hq j u hu
 ·rw [List.getElem?_map] at hp hx
  cases hq : F[i]? with
  | none => rw [hq] at hp;cases hp
  | some q =>
   rw [hq] at hp hx
   injection hp with hp
   injection hx with hx
   subst hp hx
   exact hF q (List.mem_of_getElem? hq)
theorem lnOne (p : Value × Value) (x : LineD) (h1 : p.1.oneCell' = true) (h2 : p.2.oneCell' = true) : ∀ u ∈ lnC (p,x),u.oneCell' = true := by
 intro u hu
 simp only [lnC,List.mem_cons,List.not_mem_nil,or_false] at hu
 rcases hu with rfl | rfl <;> assumption
theorem infoLn : (Tryz.prog.info? 53).map (fun i => (i.zero,i.size,i.bytes)) = some (some (.agg #[.slice none 0 0,.slice none 0 0]),2,48) := by kernel_rfl
theorem infoTk : (Tryz.prog.info? 50).map (fun i => (i.zero,i.size,i.bytes)) = some (some (.agg #[.string ⟨#[]⟩,.string ⟨#[]⟩,.slice none 0 0,.bool false,.int .i64 0,.int .i64 0,.string ⟨#[]⟩,.int .i64 0,.int .i64 0,.int .i64 0,.int .i64 0,.int .i64 0,.int .i64 0,.bool false]),14,152) := by kernel_rfl
def FarT (size : Nat) (w0 X : World) (m : TickM) : Prop := ∃ (F : List LnM) (base : Nat),size ≤ base ∧ OwnS 2 lnC (fun _ _ => True) X base 53 m.lv F ∧ F.map (·.2) = m.d.bet.lines ∧ (∀ p ∈ F,∀ Z,Below w0.heap.size w0 Z → LineR Z p.1.1 p.1.2 p.2.1 p.2.2) ∧ InI m.d.first ∧ InI m.d.bet.draws
theorem FarT.tick {size : Nat} {w0 W X : World} {m : TickM} (h : FarT size w0 W m) (hX : Below w0.heap.size w0 X) (hS : SameR size W.heap.size W X) : TickR X m := by
 obtain ⟨F,base,hb,hown,hm,hF,h1,h2⟩ := h
 refine ⟨?_,h1,h2⟩
 rw [← hm]
 exact lines_lnC (OwnS.rd (fun _ => rfl) (OwnS.same hown (hS.mono hb))) (fun p hp => hF p hp X hX)
def FewO (w0 : World) (K : Nat) (w : World) (e : Ending) (w' : World) : Prop := ∃ u tm,e = .returned u ∧ KeepIn w0 w w' (fun X => TicketsR X u tm) ∧ tm.length ≤ K ∧ Below w.heap.size w w'
theorem few_fin {w0 w W : World} {v : Value} {E : List TickM} (h : OwnS 14 TickM.cells (FarT w.heap.size w0) W w.heap.size 50 v E) : KeepIn w0 w W (fun X => TicketsR X v E) := by
 intro X hX hS
 exact ⟨OwnS.rd tick_len (OwnS.same h hS),fun m hm => (h.reads m hm).tick hX hS⟩
set_option maxHeartbeats 16000000 in
set_option maxRecDepth 100000 in
theorem few34_any (v : Value) (ms : List TickM) (K : Nat) (w0 w : World) (h9 : TicketsR w0 v ms) (hb0 : Below w0.heap.size w0 w) (hK : K ≤ 100) :
  Calls Tryz.prog 5 #[v,.int .i64 (K : Int)] w (FewO w0 K w) := by
 have h := fun X (hX : Below w0.heap.size w0 X) => h9.below hX
 obtain ⟨ao,cap,rfl,hle,hmax⟩ := h9.1.shape
 have hloh := hide hb0
 obtain ⟨n,hn⟩ : ∃ n,n = ms.length := ⟨_,rfl⟩
 have hh := hide h
 rw [← hn] at hh ⊢
 replace hn := hide hn
 have hK63 : (K : Int) ≤ 100 := by omega
 have hKh := hide hK
 clear h h9 hle hmax hK hb0
 go_enter Tryz.func5,Tryz.ntmps5
 go_wp2
 go_loopg [5,6,7,8,9,10] n (fun gh v5 t _ _ _ _ wr => ∃ (i : Nat) (E : List TickM) (ea : Option Addr) (ec : Nat),gh = n - i ∧ i ≤ n ∧ i ≤ K ∧ t = .int .i64 (i : Int) ∧ v5 = .slice ea E.length ec ∧ E.length = i ∧ Hid (OwnS 14 TickM.cells (FarT w.heap.size w0) wr w.heap.size 50 (.slice ea E.length ec) E) ∧ Hid (Below w.heap.size w wr))
 case atStart => exact ⟨0,[],none,0,rfl,Nat.zero_le _,Nat.zero_le _,rfl,rfl,rfl,OwnS.nil _ _ _,Below.refl _ _⟩
 case round =>
  obtain ⟨i,E,ea,ec,hgh,hi,hi6,rfl,rfl,hEi,hownE,hB⟩ := hrel
  obtain ⟨wo,hwo⟩ : ∃ wo,wo = wr := ⟨_,rfl⟩
  subst hwo
  replace hgh := hide hgh
  have hE100 : Hid (E.length ≤ 100) := by show E.length ≤ 100;have := hKh.out;omega
  replace hEi := hide hEi
  by_cases hlt : i < n ∧ i < K
  rotate_left
  ·have hgo : i < n → ¬ i < K := fun h1 h2 => hlt ⟨h1,h2⟩
   replace hlt := hide hlt
   have hEK : Hid (E.length ≤ K) := by show E.length ≤ K;rw [hEi.out];exact hi6
   by_cases h1 : i < n
   ·have i2 : (i : Int) < (n : Int) := by omega
    have i3 : ¬ (i : Int) < (K : Int) := by have := hgo h1;omega
    clear hgo h1 hi hi6
    go_wp2
    go_ret
    exact ⟨_,E,rfl,few_fin hownE.out,hEK.out,hB.out⟩
   ·have i2 : ¬ (i : Int) < (n : Int) := by omega
    clear hgo h1 hi hi6
    go_wp2
    go_ret
    exact ⟨_,E,rfl,few_fin hownE.out,hEK.out,hB.out⟩
  ·obtain ⟨h1,h2⟩ := hlt
   have h1h := hide h1
   have h2h := hide h2
   have him : i < ms.length := by rw [← hn.out];exact h1
   have hhw := hh.out wo (Bel.to hloh.out hB.out)
   obtain ⟨b,off,rfl,hbb,hcell⟩ := hhw.1.at_ him
   obtain ⟨m,hm⟩ : ∃ m,m = ms[i] := ⟨_,rfl⟩
   have hmi : ms[i]? = some m := by rw [hm];exact List.getElem?_eq_getElem him
   have hmem : m ∈ ms := by rw [hm];exact List.getElem_mem him
   have hR9 := hhw.2 m hmem
   have hR8 := fun X (hX : Below w0.heap.size w0 X) => ((hh.out X hX).2 m hmem).1
   have hrange : wo.rangeAt b (off + i * 14) m.cells := fun j u hu => hcell i m hmi j u hu
   obtain ⟨hl9,hif,hid⟩ := hR9
   clear hcell hmi hhw hm hmem
   obtain ⟨⟨t1,gm,⟨tl,t4,t5,t6⟩,t7,t8,t9,t10,t11,t12,t13,t14⟩,lv⟩ := m
   unfold TickM.cells at hrange
   simp only [] at hrange hl9 hif hid hR8
   obtain ⟨l1,l3,rfl,-,-⟩ := hl9.shape
   obtain ⟨l2,hl2⟩ : ∃ x,x = tl.length := ⟨_,rfl⟩
   rw [← hl2] at hrange hR8
   have hll := hide hR8
   replace hl2 := hide hl2
   clear hl9 hR8
   have hthere := hide (show (wo.alloc (.cells #[.string ⟨#[]⟩,.string ⟨#[]⟩,.slice none 0 0,.bool false,.int .i64 0,.int .i64 0,.string ⟨#[]⟩,.int .i64 0,.int .i64 0,.int .i64 0,.int .i64 0,.int .i64 0,.int .i64 0,.bool false] 50)).there wo.heap.size 0 14 from Row.there (Row.newOf (cs := [.string ⟨#[]⟩,.string ⟨#[]⟩,.slice none 0 0,.bool false,.int .i64 0,.int .i64 0,.string ⟨#[]⟩,.int .i64 0,.int .i64 0,.int .i64 0,.int .i64 0,.int .i64 0,.int .i64 0,.bool false]) _ rfl))
   have i1 : (0 : Int) ≤ (i : Int) := by omega
   have i2 : (i : Int) < (n : Int) := by omega
   have i3 : (i : Int) < (K : Int) := by omega
   go_upto_region 6 with (first | (refine wpList_load_mid rfl 50 _ rfl b (off + i * 14) rfl [.string t1,.string gm,.slice l1 l2 l3,.bool t4,.int .i64 t5,.int .i64 t6,.string t7,.int .i64 t8,.int .i64 t9,.int .i64 t10,.int .i64 t11,.int .i64 t12,.int .i64 t13,.bool t14] _ hrange Tryz.underlying50 rfl (by kernel_rfl) ?_) | (refine wpList_store_mid rfl 50 _ _ rfl wo.heap.size 0 _ rfl rfl hthere.out (by kernel_rfl) (by rfl) ?_) | fail)
   obtain ⟨X1,hX1⟩ : ∃ X1,X1 = wo.alloc (.cells #[.string t1,.string gm,.slice l1 l2 l3,.bool t4,.int .i64 t5,.int .i64 t6,.string t7,.int .i64 t8,.int .i64 t9,.int .i64 t10,.int .i64 t11,.int .i64 t12,.int .i64 t13,.bool t14] 50) := ⟨_,rfl⟩
   have b1 : Below wo.heap.size wo X1 := by rw [hX1];exact Bel.al (Below.refl _ _) _
   have p1 : Row X1 wo.heap.size 50 [.string t1,.string gm,.slice l1 l2 l3,.bool t4,.int .i64 t5,.int .i64 t6,.string t7,.int .i64 t8,.int .i64 t9,.int .i64 t10,.int .i64 t11,.int .i64 t12,.int .i64 t13,.bool t14] := by rw [hX1];exact Row.newOf _ rfl
   rw [← hX1]
   clear hX1 hthere hrange
   obtain ⟨kg,hkg⟩ : ∃ k,k = min 40 gm.size := ⟨_,rfl⟩
   have e0 : min ((gm.size : Nat) : Int) 40 = (kg : Int) := by omega
   have m0 : kg ≤ gm.size := by omega
   have x1 : X1.cell? ⟨wo.heap.size,1,none⟩ = some (.string gm) := (p1.cell? 1).trans rfl
   have x0 : X1.cell? ⟨wo.heap.size,0,none⟩ = some (.string t1) := (p1.cell? 0).trans rfl
   have x6 : X1.cell? ⟨wo.heap.size,6,none⟩ = some (.string t7) := (p1.cell? 6).trans rfl
   have y0 := p1.frozen 0
   have y1 := p1.frozen 1
   have y6 := p1.frozen 6
   clear hkg
   refine till_begin 8 (fun X => X.cell? ⟨wo.heap.size,1,none⟩ = some (.string gm)) (by kernel_rfl) (x1) (fun hHeld => ?_)
   refine' till_pure (i := 0) (oi := _) (v := .pointer (some ⟨wo.heap.size,1,none⟩)) rfl (by kernel_rfl) (by kernel_rfl) (by kernel_rfl) (by kernel_rfl) (fun _ _ _ h => h) (Or.inl ⟨by first | (go_simp;done) | rfl,fun X _ => by go_simp⟩) hHeld ?_
   try simp only [Act.put,zsA,zsB,zsC]
   refine' till_take (i := 1) (oi := _) (v := .string gm) rfl (by kernel_rfl) (by kernel_rfl) (by kernel_rfl) (by kernel_rfl) (fun _ _ _ h => h) (Or.inl ⟨by first | (go_simp;done) | rfl,fun X hX => by have cX := hX;go_simp⟩) hHeld ?_
   try simp only [Act.put,zsA,zsB,zsC]
   refine' till_pure (i := 2) (oi := _) (v := .pointer (some ⟨wo.heap.size,1,none⟩)) rfl (by kernel_rfl) (by kernel_rfl) (by kernel_rfl) (by kernel_rfl) (fun _ _ _ h => h) (Or.inl ⟨by first | (go_simp;done) | rfl,fun X _ => by go_simp⟩) hHeld ?_
   try simp only [Act.put,zsA,zsB,zsC]
   refine' till_take (i := 3) (oi := _) (v := .string gm) rfl (by kernel_rfl) (by kernel_rfl) (by kernel_rfl) (by kernel_rfl) (fun _ _ _ h => h) (Or.inl ⟨by first | (go_simp;done) | rfl,fun X hX => by have cX := hX;go_simp⟩) hHeld ?_
   try simp only [Act.put,zsA,zsB,zsC]
   refine' till_pure (i := 4) (oi := _) (v := .int .i64 (gm.size : Int)) rfl (by kernel_rfl) (by kernel_rfl) (by kernel_rfl) (by kernel_rfl) (fun _ _ _ h => h) (Or.inl ⟨by first | (go_simp;done) | rfl,fun X _ => by go_simp⟩) hHeld ?_
   try simp only [Act.put,zsA,zsB,zsC]
   refine' till_pure (i := 5) (oi := _) (v := .int .i64 (kg : Int)) rfl (by kernel_rfl) (by kernel_rfl) (by kernel_rfl) (by kernel_rfl) (fun _ _ _ h => h) (Or.inl ⟨by first | (go_simp;done) | rfl,fun X _ => by go_simp⟩) hHeld ?_
   try simp only [Act.put,zsA,zsB,zsC]
   refine' till_pure (i := 6) (oi := _) (v := .string (gm.extract 0 kg)) rfl (by kernel_rfl) (by kernel_rfl) (by kernel_rfl) (by kernel_rfl) (fun _ _ _ h => h) (Or.inl ⟨by first | (go_simp;done) | rfl,fun X _ => by go_simp⟩) hHeld ?_
   try simp only [Act.put,zsA,zsB,zsC]
   refine' till_pure (i := 7) (oi := _) (v := .pointer (some ⟨wo.heap.size,0,none⟩)) rfl (by kernel_rfl) (by kernel_rfl) (by kernel_rfl) (by kernel_rfl) (fun _ _ _ h => h) (Or.inl ⟨by first | (go_simp;done) | rfl,fun X _ => by go_simp⟩) hHeld ?_
   try simp only [Act.put,zsA,zsB,zsC]
   refine till_ready (rs := [8]) (by kernel_rfl) (by simp) ?_
   refine TillReady.last (o := _) rfl (by kernel_rfl) (fun K hK => ?_) TillReady.nil
   go_simp
   refine hK.out _ _ ?_
   clear hK K
   try simp only [Act.put,zsA,zsB,zsC]
   refine' till_late (i := 9) (oi := _) (v := .pointer (some ⟨wo.heap.size,1,none⟩)) rfl (by kernel_rfl) (by kernel_rfl) (Or.inl ⟨by first | (go_simp;done) | rfl,fun X _ => by go_simp⟩) ?_
   try simp only [Act.put,zsA,zsB,zsC]
   refine till_ready (rs := [10]) (by kernel_rfl) (by simp) ?_
   refine TillReady.last (o := _) rfl (by kernel_rfl) (fun K hK => ?_) TillReady.nil
   go_simp
   refine hK.out _ _ ?_
   clear hK K
   try simp only [Act.put,zsA,zsB,zsC]
   refine' till_late (i := 11) (oi := _) (v := .pointer (some ⟨wo.heap.size,6,none⟩)) rfl (by kernel_rfl) (by kernel_rfl) (Or.inl ⟨by first | (go_simp;done) | rfl,fun X _ => by go_simp⟩) ?_
   try simp only [Act.put,zsA,zsB,zsC]
   refine till_ready (rs := [12]) (by kernel_rfl) (by simp) ?_
   refine TillReady.last (o := _) rfl (by kernel_rfl) (fun K hK => ?_) TillReady.nil
   go_simp
   refine hK.out _ _ ?_
   clear hK K
   try simp only [Act.put,zsA,zsB,zsC]
   refine till_done (by kernel_rfl) ?_ _
   go_simp
   obtain ⟨gs,hgs⟩ : ∃ S,S = gm.extract 0 kg := ⟨_,rfl⟩
   rw [← hgs]
   obtain ⟨X2,hX2⟩ : ∃ X2,X2 = (((X1.setCell ⟨wo.heap.size,0,none⟩ (.string ⟨#[]⟩)).setCell ⟨wo.heap.size,1,none⟩ (.string gs)).setCell ⟨wo.heap.size,6,none⟩ (.string ⟨#[]⟩)).drew := ⟨_,rfl⟩
   have p2 : Row X2 wo.heap.size 50 [.string ⟨#[]⟩,.string gs,.slice l1 l2 l3,.bool t4,.int .i64 t5,.int .i64 t6,.string ⟨#[]⟩,.int .i64 t8,.int .i64 t9,.int .i64 t10,.int .i64 t11,.int .i64 t12,.int .i64 t13,.bool t14] := by rw [hX2];exact ((p1.set 0 _).set 1 _).set 6 _
   have b2 : Below wo.heap.size wo X2 := by rw [hX2];exact Bel.drN (Bel.st (Bel.st (Bel.st b1 (Nat.le_refl _) _) (Nat.le_refl _) _) (Nat.le_refl _) _) 1
   have htX := hide p2.lt
   rw [← hX2]
   clear hX2 hgs p1 b1 x0 x1 x6 y0 y1 y6 e0 m0 hHeld
   go_wp2
   go_loopg [8,9,10] l2 (fun gh2 v8 t _ wr => ∃ (k : Nat) (F : List LnM) (fa : Option Addr) (fc : Nat),gh2 = l2 - k ∧ k ≤ l2 ∧ k ≤ 5 ∧ t = .int .i64 (k : Int) ∧ v8 = .slice fa F.length fc ∧ F.length = k ∧ Hid (OwnS 2 lnC (fun _ _ => True) wr X2.heap.size 53 (.slice fa F.length fc) F) ∧ Hid (∀ p ∈ F,∀ X,Below w0.heap.size w0 X → LineR X p.1.1 p.1.2 p.2.1 p.2.2) ∧ Hid (Row wr wo.heap.size 50 [.string ⟨#[]⟩,.string gs,.slice l1 l2 l3,.bool t4,.int .i64 t5,.int .i64 t6,.string ⟨#[]⟩,.int .i64 t8,.int .i64 t9,.int .i64 t10,.int .i64 t11,.int .i64 t12,.int .i64 t13,.bool t14]) ∧ Hid (Below wo.heap.size wo wr) ∧ Hid (X2.heap.size ≤ wr.heap.size))
   case atStart => exact ⟨0,[],none,0,rfl,Nat.zero_le _,Nat.zero_le _,rfl,rfl,rfl,OwnS.nil _ _ _,(by intro p hp;cases hp),p2,b2,Nat.le_refl _⟩
   case round =>
    clear p2 b2
    obtain ⟨k,F,fa,fc,hgh2,hk,hk5,rfl,rfl,hFk,hownF,hFall,rT,hBr,hszi⟩ := hrel
    replace hgh2 := hide hgh2
    have hF5 : Hid (F.length ≤ 5) := by show F.length ≤ 5;omega
    replace hFk := hide hFk
    replace rT := rT.out
    replace hBr := hBr.out
    have c2 : wr.cell? ⟨wo.heap.size,2,none⟩ = some (.slice l1 l2 l3) := (rT.cell? 2).trans rfl
    by_cases hlt : k < l2 ∧ k < 5
    rotate_left
    ·have hgo : k < l2 → ¬ k < 5 := fun h1 h2 => hlt ⟨h1,h2⟩
     replace hlt := hide hlt
     by_cases h3 : k < l2
     ·have j2 : (k : Int) < (l2 : Int) := by omega
      have j3 : ¬ (k : Int) < 5 := by have := hgo h3;omega
      clear hgo h3 hk hk5
      have y2 := Row.frozen rT 2
      have hown3 := hownF
      have hlF := hide (OwnS.lt hownF.out)
      have hBrh := hide hBr
      have hBI : Below w.heap.size w wr := Bel.to hB.out hBr
      clear hownF hll
      go_upto_region 14 with (fail)
      obtain ⟨X3,hX3⟩ : ∃ X3,X3 = wr.setCell ⟨wo.heap.size,2,none⟩ (.slice fa F.length fc) := ⟨_,rfl⟩
      have p3 : Row X3 wo.heap.size 50 [.string ⟨#[]⟩,.string gs,.slice fa F.length fc,.bool t4,.int .i64 t5,.int .i64 t6,.string ⟨#[]⟩,.int .i64 t8,.int .i64 t9,.int .i64 t10,.int .i64 t11,.int .i64 t12,.int .i64 t13,.bool t14] := by rw [hX3];exact rT.set 2 _
      have b3 : Below wo.heap.size wo X3 := by rw [hX3];exact Bel.st hBr (Nat.le_refl _) _
      have hown4 : OwnS 2 lnC (fun _ _ => True) X3 X2.heap.size 53 (.slice fa F.length fc) F := by
       rw [hX3]
       exact OwnS.farR hown3.out (p := ⟨wo.heap.size,2,none⟩) (by show wo.heap.size < X2.heap.size;have := htX.out;omega) _ (fun _ _ _ _ => trivial)
      rw [← hX3]
      replace hown4 := hide hown4
      have hlE := hide (OwnS.lt hownE.out)
      have hF6 : Hid (F.length ≤ 5) := hF5
      clear hX3 hBr rT y2 c2 hBI
      obtain ⟨m',hm'⟩ : ∃ m' : TickM,m' = ⟨⟨⟨#[]⟩,gs,⟨F.map (·.2),t4,t5,t6⟩,⟨#[]⟩,t8,t9,t10,t11,t12,t13,t14⟩,.slice fa F.length fc⟩ := ⟨_,rfl⟩
      have hcell : m'.cells = [.string ⟨#[]⟩,.string gs,.slice fa F.length fc,.bool t4,.int .i64 t5,.int .i64 t6,.string ⟨#[]⟩,.int .i64 t8,.int .i64 t9,.int .i64 t10,.int .i64 t11,.int .i64 t12,.int .i64 t13,.bool t14] := by rw [hm'];rfl
      have hStay : ∀ W,Below X3.heap.size X3 W → Stay W (Value.slice ea E.length ec).ownBlock fun X => FarT w.heap.size w0 X m' := by
       intro W hW X hX
       have hownW := OwnS.keep hown4.out hW
       have hownX : OwnS 2 lnC (fun _ _ => True) X X2.heap.size 53 (.slice fa F.length fc) F := ⟨World.ownsRow.kept hownW.1 hX (by
        cases hv : (Value.slice fa F.length fc).ownBlock with
        | none => exact .inl rfl
        | some q =>
         refine .inr (fun e => ?_)
         have h8 := (hlF.out q hv).1
         have h9 := (hlE.out q e.symm).2
         have h7 := htX.out
         omega),fun _ _ _ _ => trivial⟩
       rw [hm']
       exact ⟨F,X2.heap.size,by have := hB.out.size;have := htX.out;omega,hownX,rfl,hFall.out,hif,hid⟩
      replace hStay := hide hStay
      replace hm' := hide hm'
      replace hcell := hide hcell
      go_wp2_with (first | (refine wpList_load_row rfl 50 _ rfl _ rfl _ _ _ _ p3 Tryz.underlying50 rfl (by kernel_rfl) ?_) | (with_reducible refine wpList_appendS _ rfl _ _ 26 rfl (sz := 14) (V := TickM.cells) (R := FarT w.heap.size w0) tick_len w.heap.size 50 (.agg #[.string ⟨#[]⟩,.string ⟨#[]⟩,.slice none 0 0,.bool false,.int .i64 0,.int .i64 0,.string ⟨#[]⟩,.int .i64 0,.int .i64 0,.int .i64 0,.int .i64 0,.int .i64 0,.int .i64 0,.bool false]) 152 Tryz.underlying26 infoTk rfl (by decide) _ E rfl ?_ _ [m'] rfl ?_ ?_ ?_ ?_ ?_ ?_ ?_) | fail)
      case refine_1 => exact OwnS.keep (OwnS.keep hownE.out b3) (Bel.al (Below.refl _ _) _)
      case refine_2 => exact rdS_one (V := TickM.cells) (x := m') _ (Row.newOf _ (by rw [hcell.out])) (Nat.le_refl 1) (by unfold maxLen;omega)
      case refine_3 => exact hStay.out _ (Bel.al (Below.refl _ _) _)
      case refine_4 => rw [hcell.out];intro u hu;simp only [List.mem_cons,List.not_mem_nil,or_false] at hu;rcases hu with rfl | rfl | rfl | rfl | rfl | rfl | rfl | rfl | rfl | rfl | rfl | rfl | rfl | rfl <;> rfl
      case refine_5 => have := hE100.out;simp;omega
      case refine_6 => have := hE100.out;simp;omega
      case refine_7 => have := hB.out.size;have := b3.size;simp;omega
      intro v5 w5 hown5 hg5 hv5
      have hB5 : Below w.heap.size w w5 := (Bel.al (Bel.to hB.out b3) _).grown hg5 (Bel.al (Bel.to hB.out b3) _).size (fun k hk => (hlE.out k hk).1)
      obtain ⟨a5,c5,rfl⟩ := OwnS.shape hown5
      have hE5l : (E ++ [m']).length = i + 1 := by rw [List.length_append,hEi.out];rfl
      obtain ⟨E2,hE2⟩ : ∃ E2,E2 = E ++ [m'] := ⟨_,rfl⟩
      rw [← hE2] at hown5 hE5l ⊢
      have hown5h := hide hown5
      replace hB5 := hide hB5
      replace hE5l := hide hE5l
      clear hv5 hg5 hown5 p3 b3 hE2 hm' hcell hStay
      go_wp2
      go_roundg (n - (i + 1))
      case measure => have := hgh.out;have := h1h.out;omega
      case rel => exact ⟨i + 1,E2,a5,c5,rfl,by have := h1h.out;omega,by have := h2h.out;omega,by go_num,rfl,hE5l.out,hown5h,hB5⟩
     ·have j2 : ¬ (k : Int) < (l2 : Int) := by omega
      clear hgo h3 hk hk5
      have y2 := Row.frozen rT 2
      have hown3 := hownF
      have hlF := hide (OwnS.lt hownF.out)
      have hBrh := hide hBr
      have hBI : Below w.heap.size w wr := Bel.to hB.out hBr
      clear hownF hll
      go_upto_region 14 with (fail)
      obtain ⟨X3,hX3⟩ : ∃ X3,X3 = wr.setCell ⟨wo.heap.size,2,none⟩ (.slice fa F.length fc) := ⟨_,rfl⟩
      have p3 : Row X3 wo.heap.size 50 [.string ⟨#[]⟩,.string gs,.slice fa F.length fc,.bool t4,.int .i64 t5,.int .i64 t6,.string ⟨#[]⟩,.int .i64 t8,.int .i64 t9,.int .i64 t10,.int .i64 t11,.int .i64 t12,.int .i64 t13,.bool t14] := by rw [hX3];exact rT.set 2 _
      have b3 : Below wo.heap.size wo X3 := by rw [hX3];exact Bel.st hBr (Nat.le_refl _) _
      have hown4 : OwnS 2 lnC (fun _ _ => True) X3 X2.heap.size 53 (.slice fa F.length fc) F := by
       rw [hX3]
       exact OwnS.farR hown3.out (p := ⟨wo.heap.size,2,none⟩) (by show wo.heap.size < X2.heap.size;have := htX.out;omega) _ (fun _ _ _ _ => trivial)
      rw [← hX3]
      replace hown4 := hide hown4
      have hlE := hide (OwnS.lt hownE.out)
      have hF6 : Hid (F.length ≤ 5) := hF5
      clear hX3 hBr rT y2 c2 hBI
      obtain ⟨m',hm'⟩ : ∃ m' : TickM,m' = ⟨⟨⟨#[]⟩,gs,⟨F.map (·.2),t4,t5,t6⟩,⟨#[]⟩,t8,t9,t10,t11,t12,t13,t14⟩,.slice fa F.length fc⟩ := ⟨_,rfl⟩
      have hcell : m'.cells = [.string ⟨#[]⟩,.string gs,.slice fa F.length fc,.bool t4,.int .i64 t5,.int .i64 t6,.string ⟨#[]⟩,.int .i64 t8,.int .i64 t9,.int .i64 t10,.int .i64 t11,.int .i64 t12,.int .i64 t13,.bool t14] := by rw [hm'];rfl
      have hStay : ∀ W,Below X3.heap.size X3 W → Stay W (Value.slice ea E.length ec).ownBlock fun X => FarT w.heap.size w0 X m' := by
       intro W hW X hX
       have hownW := OwnS.keep hown4.out hW
       have hownX : OwnS 2 lnC (fun _ _ => True) X X2.heap.size 53 (.slice fa F.length fc) F := ⟨World.ownsRow.kept hownW.1 hX (by
        cases hv : (Value.slice fa F.length fc).ownBlock with
        | none => exact .inl rfl
        | some q =>
         refine .inr (fun e => ?_)
         have h8 := (hlF.out q hv).1
         have h9 := (hlE.out q e.symm).2
         have h7 := htX.out
         omega),fun _ _ _ _ => trivial⟩
       rw [hm']
       exact ⟨F,X2.heap.size,by have := hB.out.size;have := htX.out;omega,hownX,rfl,hFall.out,hif,hid⟩
      replace hStay := hide hStay
      replace hm' := hide hm'
      replace hcell := hide hcell
      go_wp2_with (first | (refine wpList_load_row rfl 50 _ rfl _ rfl _ _ _ _ p3 Tryz.underlying50 rfl (by kernel_rfl) ?_) | (with_reducible refine wpList_appendS _ rfl _ _ 26 rfl (sz := 14) (V := TickM.cells) (R := FarT w.heap.size w0) tick_len w.heap.size 50 (.agg #[.string ⟨#[]⟩,.string ⟨#[]⟩,.slice none 0 0,.bool false,.int .i64 0,.int .i64 0,.string ⟨#[]⟩,.int .i64 0,.int .i64 0,.int .i64 0,.int .i64 0,.int .i64 0,.int .i64 0,.bool false]) 152 Tryz.underlying26 infoTk rfl (by decide) _ E rfl ?_ _ [m'] rfl ?_ ?_ ?_ ?_ ?_ ?_ ?_) | fail)
      case refine_1 => exact OwnS.keep (OwnS.keep hownE.out b3) (Bel.al (Below.refl _ _) _)
      case refine_2 => exact rdS_one (V := TickM.cells) (x := m') _ (Row.newOf _ (by rw [hcell.out])) (Nat.le_refl 1) (by unfold maxLen;omega)
      case refine_3 => exact hStay.out _ (Bel.al (Below.refl _ _) _)
      case refine_4 => rw [hcell.out];intro u hu;simp only [List.mem_cons,List.not_mem_nil,or_false] at hu;rcases hu with rfl | rfl | rfl | rfl | rfl | rfl | rfl | rfl | rfl | rfl | rfl | rfl | rfl | rfl <;> rfl
      case refine_5 => have := hE100.out;simp;omega
      case refine_6 => have := hE100.out;simp;omega
      case refine_7 => have := hB.out.size;have := b3.size;simp;omega
      intro v5 w5 hown5 hg5 hv5
      have hB5 : Below w.heap.size w w5 := (Bel.al (Bel.to hB.out b3) _).grown hg5 (Bel.al (Bel.to hB.out b3) _).size (fun k hk => (hlE.out k hk).1)
      obtain ⟨a5,c5,rfl⟩ := OwnS.shape hown5
      have hE5l : (E ++ [m']).length = i + 1 := by rw [List.length_append,hEi.out];rfl
      obtain ⟨E2,hE2⟩ : ∃ E2,E2 = E ++ [m'] := ⟨_,rfl⟩
      rw [← hE2] at hown5 hE5l ⊢
      have hown5h := hide hown5
      replace hB5 := hide hB5
      replace hE5l := hide hE5l
      clear hv5 hg5 hown5 p3 b3 hE2 hm' hcell hStay
      go_wp2
      go_roundg (n - (i + 1))
      case measure => have := hgh.out;have := h1h.out;omega
      case rel => exact ⟨i + 1,E2,a5,c5,rfl,by have := h1h.out;omega,by have := h2h.out;omega,by go_num,rfl,hE5l.out,hown5h,hB5⟩
    ·obtain ⟨h3,h4⟩ := hlt
     have h3h := hide h3
     have h4h := hide h4
     have hkl : k < tl.length := by rw [← hl2.out];exact h3
     obtain ⟨b2,off2,mv2,bv2,rfl,hb2,z0,z1,hl⟩ := (hll.out w0 (Below.refl _ _)).at_ hkl
     obtain ⟨x,hx⟩ : ∃ x,x = tl[k] := ⟨_,rfl⟩
     rw [← hx] at hl
     obtain ⟨s1,k1,rfl,hl1,hm1,-⟩ := Rd.form hl.1
     obtain ⟨s2,k2,rfl,hl3,hm2,-⟩ := Rd.form hl.2
     have hBI : Below w.heap.size w wr := Bel.to hB.out hBr
     have hlX := hide (fun X (hX : Below w0.heap.size w0 X) => hl.below hX)
     replace z0 := Bel.cellOf (Bel.to hloh.out hBI) z0
     replace z1 := Bel.cellOf (Bel.to hloh.out hBI) z1
     obtain ⟨m1,hm1e⟩ : ∃ m,m = x.1.length := ⟨_,rfl⟩
     obtain ⟨m2,hm2e⟩ : ∃ m,m = x.2.length := ⟨_,rfl⟩
     obtain ⟨d1,hd1⟩ : ∃ d,d = min 16 m1 := ⟨_,rfl⟩
     obtain ⟨d2,hd2⟩ : ∃ d,d = min 6 m2 := ⟨_,rfl⟩
     have e1 : min (m1 : Int) 16 = (d1 : Int) := by omega
     have e2 : min (m2 : Int) 6 = (d2 : Int) := by omega
     have hc1 : d1 ≤ k1 := by omega
     have hc2 : d2 ≤ k2 := by omega
     have hlX2 : Hid (∀ X,Below w0.heap.size w0 X → LineR X (.slice s1 d1 k1) (.slice s2 d2 k2) (x.1.take d1) (x.2.take d2)) := by
      intro X hX
      have h9 := hlX.out X hX
      exact ⟨h9.1.take rfl (by omega) hc1 hm1,h9.2.take rfl (by omega) hc2 hm2⟩
     rw [← hm1e] at z0
     rw [← hm2e] at z1
     have hrange : wr.rangeAt b2 (off2 + k * 2) [.slice s1 m1 k1,.slice s2 m2 k2] := by
      intro j u hu
      match j,hu with
      | 0,hu => simp at hu;subst hu;exact z0
      | 1,hu => simp at hu;subst hu;exact z1
     clear z0 z1 hl hl1 hl3 hm1 hm2 hm1e hm2e hd1 hd2 hx hlX
     have j1 : (0 : Int) ≤ (k : Int) := by omega
     have j2 : (k : Int) < (l2 : Int) := by omega
     have j3 : (k : Int) < 5 := by omega
     go_upto_region 12 with (first | (refine wpList_load_mid rfl 53 _ rfl b2 (off2 + k * 2) rfl [.slice s1 m1 k1,.slice s2 m2 k2] _ hrange Tryz.underlying53 rfl (by kernel_rfl) ?_) | fail)
     obtain ⟨Y1,hY1⟩ : ∃ Y1,Y1 = wr.alloc (.cells #[.slice s1 m1 k1,.slice s2 m2 k2] 53) := ⟨_,rfl⟩
     have b1 : Below wr.heap.size wr Y1 := by rw [hY1];exact Bel.al (Below.refl _ _) _
     have q1 : Row Y1 wr.heap.size 53 [.slice s1 m1 k1,.slice s2 m2 k2] := by rw [hY1];exact Row.newOf _ rfl
     rw [← hY1]
     clear hY1 hrange c2
     refine wp_region_held_drew (S := fun X => X.cell? ⟨wr.heap.size,0,none⟩ = some (.slice s1 m1 k1) ∧ X.cell? ⟨wr.heap.size,1,none⟩ = some (.slice s2 m2 k2)) (by kernel_rfl) (⟨(q1.cell? 0).trans rfl,(q1.cell? 1).trans rfl⟩) (fun hHeld => ?_)
     refine' wpAnyH_take (i := 0) (oi := _) (v := .slice fa F.length fc) rfl (by kernel_rfl) (by kernel_rfl) (by kernel_rfl) (fun _ _ _ h => h) (Or.inl ⟨by first | (go_simp;done) | rfl,fun X _ => by go_simp⟩) hHeld ?_
     try simp only [Act.put,zsA,zsB,zsC]
     refine' wpAnyH_take (i := 1) (oi := _) (v := .pointer (some ⟨wr.heap.size,0,none⟩)) rfl (by kernel_rfl) (by kernel_rfl) (by kernel_rfl) (fun _ _ _ h => h) (Or.inl ⟨by first | (go_simp;done) | rfl,fun X _ => by go_simp⟩) hHeld ?_
     try simp only [Act.put,zsA,zsB,zsC]
     refine' wpAnyH_take (i := 2) (oi := _) (v := .slice s1 m1 k1) rfl (by kernel_rfl) (by kernel_rfl) (by kernel_rfl) (fun _ _ _ h => h) (Or.inl ⟨by first | (go_simp;done) | rfl,fun X hX => by have cX := hX.1;go_simp⟩) hHeld ?_
     try simp only [Act.put,zsA,zsB,zsC]
     refine' wpAnyH_take (i := 3) (oi := _) (v := .pointer (some ⟨wr.heap.size,0,none⟩)) rfl (by kernel_rfl) (by kernel_rfl) (by kernel_rfl) (fun _ _ _ h => h) (Or.inl ⟨by first | (go_simp;done) | rfl,fun X _ => by go_simp⟩) hHeld ?_
     try simp only [Act.put,zsA,zsB,zsC]
     refine' wpAnyH_take (i := 4) (oi := _) (v := .slice s1 m1 k1) rfl (by kernel_rfl) (by kernel_rfl) (by kernel_rfl) (fun _ _ _ h => h) (Or.inl ⟨by first | (go_simp;done) | rfl,fun X hX => by have cX := hX.1;go_simp⟩) hHeld ?_
     try simp only [Act.put,zsA,zsB,zsC]
     refine' wpAnyH_take (i := 5) (oi := _) (v := .int .i64 (m1 : Int)) rfl (by kernel_rfl) (by kernel_rfl) (by kernel_rfl) (fun _ _ _ h => h) (Or.inl ⟨by first | (go_simp;done) | rfl,fun X _ => by go_simp⟩) hHeld ?_
     try simp only [Act.put,zsA,zsB,zsC]
     refine' wpAnyH_take (i := 6) (oi := _) (v := .int .i64 (d1 : Int)) rfl (by kernel_rfl) (by kernel_rfl) (by kernel_rfl) (fun _ _ _ h => h) (Or.inl ⟨by first | (go_simp;done) | rfl,fun X _ => by go_simp⟩) hHeld ?_
     try simp only [Act.put,zsA,zsB,zsC]
     refine' wpAnyH_take (i := 7) (oi := _) (v := .slice s1 d1 k1) rfl (by kernel_rfl) (by kernel_rfl) (by kernel_rfl) (fun _ _ _ h => h) (Or.inl ⟨by first | (go_simp;done) | rfl,fun X _ => by refine run_cut0 (.tmp 56) (.tmp 60) 27 rfl elemInts2 sizeEI2 s1 m1 k1 ?_ d1 ?_ hc1 <;> go_simp⟩) hHeld ?_
     try simp only [Act.put,zsA,zsB,zsC]
     refine' wpAnyH_take (i := 8) (oi := _) (v := .pointer (some ⟨wr.heap.size,1,none⟩)) rfl (by kernel_rfl) (by kernel_rfl) (by kernel_rfl) (fun _ _ _ h => h) (Or.inl ⟨by first | (go_simp;done) | rfl,fun X _ => by go_simp⟩) hHeld ?_
     try simp only [Act.put,zsA,zsB,zsC]
     refine' wpAnyH_take (i := 9) (oi := _) (v := .slice s2 m2 k2) rfl (by kernel_rfl) (by kernel_rfl) (by kernel_rfl) (fun _ _ _ h => h) (Or.inl ⟨by first | (go_simp;done) | rfl,fun X hX => by have cX := hX.2;go_simp⟩) hHeld ?_
     try simp only [Act.put,zsA,zsB,zsC]
     refine' wpAnyH_take (i := 10) (oi := _) (v := .pointer (some ⟨wr.heap.size,1,none⟩)) rfl (by kernel_rfl) (by kernel_rfl) (by kernel_rfl) (fun _ _ _ h => h) (Or.inl ⟨by first | (go_simp;done) | rfl,fun X _ => by go_simp⟩) hHeld ?_
     try simp only [Act.put,zsA,zsB,zsC]
     refine' wpAnyH_take (i := 11) (oi := _) (v := .slice s2 m2 k2) rfl (by kernel_rfl) (by kernel_rfl) (by kernel_rfl) (fun _ _ _ h => h) (Or.inl ⟨by first | (go_simp;done) | rfl,fun X hX => by have cX := hX.2;go_simp⟩) hHeld ?_
     try simp only [Act.put,zsA,zsB,zsC]
     refine' wpAnyH_take (i := 12) (oi := _) (v := .int .i64 (m2 : Int)) rfl (by kernel_rfl) (by kernel_rfl) (by kernel_rfl) (fun _ _ _ h => h) (Or.inl ⟨by first | (go_simp;done) | rfl,fun X _ => by go_simp⟩) hHeld ?_
     try simp only [Act.put,zsA,zsB,zsC]
     refine' wpAnyH_take (i := 13) (oi := _) (v := .int .i64 (d2 : Int)) rfl (by kernel_rfl) (by kernel_rfl) (by kernel_rfl) (fun _ _ _ h => h) (Or.inl ⟨by first | (go_simp;done) | rfl,fun X _ => by go_simp⟩) hHeld ?_
     try simp only [Act.put,zsA,zsB,zsC]
     refine' wpAnyH_take (i := 14) (oi := _) (v := .slice s2 d2 k2) rfl (by kernel_rfl) (by kernel_rfl) (by kernel_rfl) (fun _ _ _ h => h) (Or.inl ⟨by first | (go_simp;done) | rfl,fun X _ => by refine run_cut0 (.tmp 63) (.tmp 67) 27 rfl elemInts2 sizeEI2 s2 m2 k2 ?_ d2 ?_ hc2 <;> go_simp⟩) hHeld ?_
     try simp only [Act.put,zsA,zsB,zsC]
     refine' wpAnyH_take (i := 15) (oi := _) (v := .agg #[.slice s1 d1 k1,.slice s2 d2 k2]) rfl (by kernel_rfl) (by kernel_rfl) (by kernel_rfl) (fun _ _ _ h => h) (Or.inl ⟨by first | (go_simp;done) | rfl,fun X _ => by go_simp⟩) hHeld ?_
     try simp only [Act.put,zsA,zsB,zsC]
     refine wpAnyH_ready (rs := [16]) (by kernel_rfl) (by simp) ?_
     refine AllReadyH.cons (o := _) rfl (fun K hK => ?_) AllReadyH.nil
     go_simp
     obtain ⟨Y2,hY2⟩ : ∃ Y,Y = Y1.drew.alloc (.cells #[.slice s1 d1 k1,.slice s2 d2 k2] 53) := ⟨_,rfl⟩
     have rC : Row Y2 Y1.heap.size 53 [.slice s1 d1 k1,.slice s2 d2 k2] := by rw [hY2];exact Row.newOf _ rfl
     have b7 : Below Y1.heap.size Y1 Y2 := by rw [hY2];exact Bel.al (Below.drewSelf Y1) _
     first | rw [← hY2] | (rw [show (Y1.alloc (.cells #[.slice s1 d1 k1,.slice s2 d2 k2] 53)).drew = Y2 from hY2.symm])
     clear hY2
     have q2 := Row.keep q1 b7
     refine hK.out _ _ (⟨(q2.cell? 0).trans rfl,(q2.cell? 1).trans rfl⟩) (fun hHeld => ?_)
     clear hK K
     try simp only [Act.put,zsA,zsB,zsC]
     have hownY := hide (OwnS.keep (OwnS.keep hownF.out b1) b7)
     have hlF := hide (OwnS.lt hownF.out)
     refine wpAnyH_ready (rs := [17]) (by kernel_rfl) (by simp) ?_
     refine AllReadyH.cons (o := _) rfl (fun K hK => ?_) AllReadyH.nil
     rw [if_pos (by first | rfl | (go_simp;done))]
     refine wp_appendS _ _ _ 44 rfl (sz := 2) (V := lnC) (R := fun _ _ => True) (fun _ => rfl) X2.heap.size 53 (.agg #[.slice none 0 0,.slice none 0 0]) 48 Tryz.underlying44 infoLn rfl (by decide) _ F rfl hownY.out _ [((.slice s1 d1 k1,.slice s2 d2 k2),(x.1.take d1,x.2.take d2))] rfl (rdS_one (V := lnC) (x := (((.slice s1 d1 k1,.slice s2 d2 k2),(x.1.take d1,x.2.take d2)) : LnM)) _ rC (Nat.le_refl 1) (by unfold maxLen;omega)) (fun _ _ _ _ => trivial) (fun y hy => by rcases List.mem_singleton.1 hy with rfl;exact lnOne _ _ rfl rfl) (by have := hF5.out;simp;omega) (by have := hF5.out;simp;omega) (by have := hszi.out;have := b1.size;have := b7.size;omega) ?_
     intro v9 w9 hown9 hg9 hv9
     have hne9 : ∀ q,q < X2.heap.size → some q ≠ (Value.slice fa F.length fc).ownBlock := fun q hq e => by have h8 := (hlF.out q e.symm).1;omega
     have hne9b : ∀ q,wr.heap.size ≤ q → some q ≠ (Value.slice fa F.length fc).ownBlock := fun q hq e => by have h8 := (hlF.out q e.symm).2;omega
     have q3 := Row.grown q2 hg9 (hne9b _ (Nat.le_refl _))
     obtain ⟨F2,hF2e⟩ : ∃ F2,F2 = F ++ [(((.slice s1 d1 k1,.slice s2 d2 k2),(x.1.take d1,x.2.take d2)) : LnM)] := ⟨_,rfl⟩
     rw [← hF2e] at hown9
     obtain ⟨a9,c9,rfl⟩ := OwnS.shape hown9
     replace hF2e := hide hF2e
     refine hK.out _ _ (⟨(q3.cell? 0).trans rfl,(q3.cell? 1).trans rfl⟩) (fun hHeld => ?_)
     clear hK K
     try simp only [Act.put,zsA,zsB,zsC]
     refine' wpAnyH_take (i := 18) (oi := _) (v := .slice a9 F2.length c9) rfl (by kernel_rfl) (by kernel_rfl) (by kernel_rfl) (fun _ _ _ h => h) (Or.inl ⟨by first | (go_simp;done) | rfl,fun X _ => by go_simp⟩) hHeld ?_
     try simp only [Act.put,zsA,zsB,zsC]
     refine wpAnyH_done (by kernel_rfl) ?_ _
     go_simp
     have hF2 : Hid (∀ p ∈ F2,∀ X,Below w0.heap.size w0 X → LineR X p.1.1 p.1.2 p.2.1 p.2.2) := by
      intro p hp
      rw [hF2e.out] at hp
      rcases List.mem_append.1 hp with hp | hp
      ·exact hFall.out p hp
      ·rcases List.mem_singleton.1 hp with rfl
       exact hlX2.out
     have hF2l : F2.length = k + 1 := by rw [hF2e.out,List.length_append,hFk.out];rfl
     have rT9 := hide (Row.grown (Row.keep (Row.keep rT b1) b7) hg9 (hne9 _ htX.out))
     have hszw := hszi.out
     have hBr9 : Hid (Below wo.heap.size wo w9) := by
      have h0 := Bel.to (Bel.to hBr b1) b7
      exact h0.grown hg9 h0.size (fun q hq => by have h8 := (hlF.out q hq).1;have h7 := htX.out;omega)
     have hs9 : Hid (X2.heap.size ≤ w9.heap.size) := by show _ ≤ _;have := b1.size;have := b7.size;have := hg9.size;omega
     have hown9h := hide hown9
     replace hF2l := hide hF2l
     clear hHeld hg9 hv9 hne9 hne9b q1 q2 q3 b1 b7 rT hBr hBI rC hown9 hszw hF2e e1 e2
     go_wp2
     go_roundg (l2 - (k + 1))
     case measure => have := hgh2.out;have := h3h.out;omega
     case rel => exact ⟨k + 1,F2,a9,c9,rfl,by have := h3h.out;omega,by have := h4h.out;omega,by go_num,rfl,hF2l.out,hown9h,hF2,rT9,hBr9,hs9⟩
end Go.Proofs.YtelgllgaofjgjaaGreat
end
section
set_option linter.unusedVariables false
set_option linter.unusedSimpArgs false
namespace Go.Proofs.YtelgllgaofjgjaaGreat
def lotG : GameD := ⟨⟨#[108,111,116,116,111]⟩,1,200,2,6,0,0,0,4,4,32,1230,30,15,90,5000,0,1,0,0,[],[⟨2,0,0,0,3,1⟩]⟩
def lotB : BetD := ⟨[([2,5],[]),([1,2],[])],false,2,0⟩
def lotT : TicketD := ⟨⟨#[]⟩,⟨#[108,111,116,116,111]⟩,lotB,⟨#[]⟩,3,0,0,0,0,0,false⟩
def lotR : ResD := ⟨[2,5],[],[],0,⟨#[]⟩⟩
theorem lot_game : gameE lotG = 0 := by decide
theorem lot_l25 : lineE lotG [2,5] [] = 0 := by unfold lineE dupB;decide
theorem lot_l12 : lineE lotG [1,2] [] = 0 := by unfold lineE dupB;decide
theorem lot_s25 : sortI [2,5] = [2,5] := (sortI_eq (by decide) (by decide)).symm
theorem lot_s12 : sortI [1,2] = [1,2] := (sortI_eq (by decide) (by decide)).symm
theorem lot_nil : sortI [] = [] := (sortI_eq (by decide) (by decide)).symm
theorem lot_f25 : formG lotG ([2,5],[]) = ([2,5],[]) := by unfold formG;rw [if_neg (by decide)];simp only [lot_s25,lot_nil]
theorem lot_f12 : formG lotG ([1,2],[]) = ([1,2],[]) := by unfold formG;rw [if_neg (by decide)];simp only [lot_s12,lot_nil]
theorem lot_scan : scanB lotG false [([2,5],[]),([1,2],[])] [] 0 = (2,0) := by
 rw [scanB,if_neg (by show ¬ lineE lotG [2,5] [] ≠ 0;rw [lot_l25];simp),if_neg (by simp),lot_f25,scanB,if_neg (by show ¬ lineE lotG [1,2] [] ≠ 0;rw [lot_l12];simp),lot_f12,if_neg (by decide),scanB]
 rfl
theorem lot_bet : betP lotG lotB = (2,0) := by
 unfold betP
 rw [if_neg (by rw [lot_game];simp),if_neg (by decide)]
 show (if (scanB lotG false [([2,5],[]),([1,2],[])] [] 0).2 ≠ 0 then _ else _) = _
 have hs : scanB lotG lotB.sys lotB.lines [] 0 = (2,0) := lot_scan
 rw [hs,lot_scan]
 decide
theorem lot_lines : linesB lotG lotB = [([2,5],[]),([1,2],[])] := by
 show [formG lotG ([2,5],[]),formG lotG ([1,2],[])] = _
 rw [lot_f25,lot_f12]
theorem lot_res : resE lotG lotR = 0 := by
 unfold resE
 rw [if_neg (by rw [lot_game];simp),if_neg (by simp [numE,lotG,lotR,orderE]),if_neg (by decide),if_pos (by decide)]
theorem lot_t25 : tierM lotG ([2,5],[]) lotR = 0 := by simp [tierM,tierGo,lotG,lotR,meetM,comM]
theorem lot_t12 : tierM lotG ([1,2],[]) lotR = -1 := by simp [tierM,tierGo,lotG,lotR,meetM,comM]
theorem lot_elig2 : eligP [lotT] ⟨#[108,111,116,116,111]⟩ 2 = [] := by simp [eligP,eligT,eligGo,eligB,lotT,lotB,takesB]
theorem lot_elig3 : eligP [lotT] ⟨#[108,111,116,116,111]⟩ 3 = [0] := by simp [eligP,eligT,eligGo,eligB,lotT,lotB,takesB]
theorem lot_elig4 : eligP [lotT] ⟨#[108,111,116,116,111]⟩ 4 = [0] := by simp [eligP,eligT,eligGo,eligB,lotT,lotB,takesB]
theorem lot_elig5 : eligP [lotT] ⟨#[108,111,116,116,111]⟩ 5 = [] := by simp [eligP,eligT,eligGo,eligB,lotT,lotB,takesB]
theorem lot_eligT : eligT [lotT] lotG.name 4 = [(0,lotT)] := by simp [eligT,eligGo,eligB,lotT,lotB,lotG,takesB]
theorem lot_wins : winsP lotG [lotT] 4 lotR = ([⟨0,0,0⟩],0) := by
 unfold winsP
 rw [if_neg (by rw [lot_game];simp),if_neg (by decide),if_neg (by decide),if_neg (by rw [lot_res];simp),lot_eligT,winsE]
 show (if (betP lotG lotB).2 ≠ 0 then _ else _) = _
 rw [lot_bet,if_neg (by simp),if_neg (by simp [winsE])]
 show (winsL (fun x => tierM lotG x lotR) 0 (linesB lotG lotB) 0 ++ [],(0 : Int)) = _
 rw [lot_lines]
 simp [winsL,lot_t25,lot_t12]
end Go.Proofs.YtelgllgaofjgjaaGreat
end
section
open Go.RowKit
set_option linter.unusedVariables false
set_option linter.unusedSimpArgs false
namespace Go.Proofs.YtelgllgaofjgjaaGreat
theorem lines_two34 {w : World} {b : Nat} {m1 b1 m2 b2 : Value} {x1 x2 : LineD} (h : Row w b 53 [m1,b1,m2,b2]) (h1 : LineR w m1 b1 x1.1 x1.2) (h2 : LineR w m2 b2 x2.1 x2.2) : LinesR w (.slice (some ⟨b,0,none⟩) 2 2) [x1,x2] := by
 refine ⟨[(m1,b1),(m2,b2)],⟨_,2,rfl,Nat.le_refl _,by decide,fun _ => ⟨b,0,rfl,h.lt,fun i x hx j u hu => ?_⟩⟩,rfl,fun i p x hp hx => ?_⟩
 ·rw [Nat.zero_add,h.cell?]
  match i,hx with
  | 0,hx =>
   simp at hx
   subst hx
   match j,hu with
   | 0,hu => exact hu
   | 1,hu => exact hu
  | 1,hx =>
   simp at hx
   subst hx
   match j,hu with
   | 0,hu => exact hu
   | 1,hu => exact hu
 ·match i,hp,hx with
  | 0,hp,hx => simp at hp hx;subst hp hx;exact h1
  | 1,hp,hx => simp at hp hx;subst hp hx;exact h2
theorem wpList_load_mid_if {P : Program} {w : World} {ops : Array Oper} {rest : List Oper} {op : Oper} {a : Act} {Q : Exit → Act → World → Prop} (hgd : Region.wanted op (yielded ops a.tmps) = true) (ty : TypeId) (x : Operand) (ho : op.op = .load ty x)
  (b o : Nat) (hx : a.eval x = .pointer (some ⟨b,o,none⟩)) (cs : List Value) (d : TypeDesc) (hc : w.rangeAt b o cs)
  (hu : P.underlying ty = some d) (hd : d.isRow = true) (hi : (P.info? ty).map (·.size) = some cs.length)
  (h : wpList P ops Q rest (a.put op.dst (.agg cs.toArray)) w) : wpList P ops Q (op :: rest) a w :=
 wpList_step fun K hK => by rw [if_pos hgd];exact wp_load_mid ty x ho b o hx cs d hc hu hd hi (hK _ _ h)
set_option maxRecDepth 100000 in
theorem lotto_any (w : World) : Calls Tryz.prog 21 #[] w (GameB lotG w) := by
 go_enter Tryz.func21,Tryz.ntmps21
 go_upto_region 1 with (fail)
 obtain ⟨W,hW⟩ : ∃ W,W = (w.alloc (Obj.cells #[.string ⟨#[]⟩,.int .i64 0,.int .i64 0,.int .i64 0,.int .i64 0,.int .i64 0,.int .i64 0,.int .i64 0,.int .i64 0,.int .i64 0,.int .i64 0,.int .i64 0,.int .i64 0,.int .i64 0,.int .i64 0,.int .i64 0,.int .i64 0,.int .i64 0,.int .i64 0,.int .i64 0,.slice none 0 0,.slice none 0 0] 25)) := ⟨_,rfl⟩
 have bW : Below w.heap.size w W := by rw [hW];exact Bel.al (Below.refl _ _) _
 have r0 : Row W ((w.heap.size)) 25 [.string ⟨#[]⟩,.int .i64 0,.int .i64 0,.int .i64 0,.int .i64 0,.int .i64 0,.int .i64 0,.int .i64 0,.int .i64 0,.int .i64 0,.int .i64 0,.int .i64 0,.int .i64 0,.int .i64 0,.int .i64 0,.int .i64 0,.int .i64 0,.int .i64 0,.int .i64 0,.int .i64 0,.slice none 0 0,.slice none 0 0] := by rw [hW];exact Row.new _ _ _
 have sW : w.heap.size < W.heap.size := by rw [hW];simp
 rw [← hW]
 clear hW
 go_wp2_with (first | (with_reducible refine wpList_store_whole rfl 25 _ _ rfl w.heap.size _ rfl rfl 25 _ (Row.alloc r0 _) ?_ ?_ ?_ ?_) | fail)
 case refine_1 => kernel_rfl
 case refine_2 => rfl
 case refine_3 => simp [Value.oneCell']
 intro W2 hrow hgr
 have hw : Below w.heap.size w W2 := Below.grown (Bel.al bW _) hgr (by simp;omega) (fun k hk => by injection hk with hk;omega)
 have htier : Row W2 W.heap.size 72 (tierCells ⟨2,0,0,0,3,1⟩) := Row.grown (Row.new W 72 (tierCells ⟨2,0,0,0,3,1⟩)) hgr (by intro e;injection e with e;omega)
 have hG : GameR W2 (.slice none 0 0) (.slice (some ⟨W.heap.size,0,none⟩) 1 1) [] lotG := GameR.oneTier htier rfl rfl
 go_wp2
 exact bodyPost_ret (v := gameVal lotG (.slice none 0 0) (.slice (some ⟨W.heap.size,0,none⟩) 1 1)) (results_cell_row rfl _ _ w.heap.size 25 _ (0,0) _ rfl hrow Tryz.underlying25 rfl (by kernel_rfl)) rfl ⟨_,_,_,rfl,hG,hw⟩
set_option maxHeartbeats 8000000 in
set_option maxRecDepth 100000 in
theorem works34_any (w : World) : Calls Tryz.prog 8 #[] w (BoolB true w) := by
 go_enter Tryz.func8,Tryz.ntmps8
 go_wp2_with fail
 refine (lotto_any _).mono ?_
 rintro e w1 ⟨av,tv,ms,rfl,gR,B⟩
 obtain ⟨aa,ac,rfl,hal,ham⟩ := gR.1.1.shape
 obtain ⟨ta,tc,rfl,htl,htm⟩ := gR.2.2.shape
 have e1 : lotG.tiers.length = 1 := rfl
 have e2 : ms.length = 0 := by have h9 := congrArg List.length gR.2.1;rw [List.length_map] at h9;exact h9
 rw [e1,e2] at gR ⊢
 clear e1 htl htm hal ham
 go_upto_region 2 with (first | ((with_reducible refine wpList_store_game rfl _ _ rfl w1.heap.size _ _ _ rfl rfl ⟨_,_,_,rfl⟩ ⟨_,_,_,rfl⟩ _ (Row.new _ _ _) ?_ ?_);(rfl);intro A rA gA) | fail)
 have hbA : Below w1.heap.size w1 A := Below.grown (Bel.al (Below.refl _ _) _) gA (by simp) (fun k hk => by injection hk with hk;omega)
 clear gA
 replace gR := gR.below hbA
 replace B := Bel.to B hbA
 clear hbA
 obtain ⟨gb,hgb⟩ : ∃ gb,gb = w1.heap.size := ⟨_,rfl⟩
 rw [← hgb] at rA ⊢
 clear hgb
 go_upto_region 3 with (fail)
 obtain ⟨Y1,hY1⟩ : ∃ Y,Y = A.alloc (.cells #[.int .i64 2,.int .i64 5] 3) := ⟨_,rfl⟩
 have b1 : Below A.heap.size A Y1 := by rw [hY1];exact Bel.al (Below.refl _ _) _
 have n1 : Rd I64 Y1 (.slice (some ⟨A.heap.size,0,none⟩) 2 2) [2,5] := by rw [hY1];exact Rd.new [2,5] rfl rfl (Nat.le_refl _) (by decide) rfl
 have s1 : A.heap.size + 1 = Y1.heap.size := by rw [hY1];simp
 rw [← hY1]
 obtain ⟨Y2,hY2⟩ : ∃ Y,Y = Y1.alloc (.cells #[.int .i64 1,.int .i64 2] 3) := ⟨_,rfl⟩
 have b2 : Below Y1.heap.size Y1 Y2 := by rw [hY2];exact Bel.al (Below.refl _ _) _
 have n2 : Rd I64 Y2 (.slice (some ⟨A.heap.size + 1,0,none⟩) 2 2) [1,2] := by rw [hY2,s1];exact Rd.new [1,2] rfl rfl (Nat.le_refl _) (by decide) rfl
 have s2 : A.heap.size + 1 + 1 = Y2.heap.size := by rw [hY2,s1];simp
 rw [← hY2]
 obtain ⟨Y3,hY3⟩ : ∃ Y,Y = Y2.alloc (.cells #[.slice (some ⟨A.heap.size,0,none⟩) 2 2,.slice none 0 0,.slice (some ⟨A.heap.size + 1,0,none⟩) 2 2,.slice none 0 0] 53) := ⟨_,rfl⟩
 have b3 : Below Y2.heap.size Y2 Y3 := by rw [hY3];exact Bel.al (Below.refl _ _) _
 have n3 : Row Y3 (A.heap.size + 1 + 1) 53 [.slice (some ⟨A.heap.size,0,none⟩) 2 2,.slice none 0 0,.slice (some ⟨A.heap.size + 1,0,none⟩) 2 2,.slice none 0 0] := by rw [hY3,s2];exact Row.new _ _ _
 have s3 : A.heap.size + 1 + 1 + 1 = Y3.heap.size := by rw [hY3,s2];simp
 rw [← hY3]
 have nl : LinesR Y3 (.slice (some ⟨A.heap.size + 1 + 1,0,none⟩) 2 2) lotB.lines := lines_two34 n3 ⟨(n1.below b2).below b3,Rd.nil⟩ ⟨n2.below b3,Rd.nil⟩
 obtain ⟨m,hm⟩ : ∃ m : TickM,m = ⟨lotT,.slice (some ⟨A.heap.size + 1 + 1,0,none⟩) 2 2⟩ := ⟨_,rfl⟩
 obtain ⟨Y4,hY4⟩ : ∃ Y,Y = Y3.alloc (.cells #[.string ⟨#[]⟩,.string ⟨#[108,111,116,116,111]⟩,.slice (some ⟨A.heap.size + 1 + 1,0,none⟩) 2 2,.bool false,.int .i64 2,.int .i64 0,.string ⟨#[]⟩,.int .i64 3,.int .i64 0,.int .i64 0,.int .i64 0,.int .i64 0,.int .i64 0,.bool false] 50) := ⟨_,rfl⟩
 have b4 : Below Y3.heap.size Y3 Y4 := by rw [hY4];exact Bel.al (Below.refl _ _) _
 have n4 : Row Y4 (A.heap.size + 1 + 1 + 1) 50 m.cells := by rw [hY4,s3,hm];exact Row.newOf _ rfl
 rw [← hY4]
 have hT : TicketsR Y4 (.slice (some ⟨A.heap.size + 1 + 1 + 1,0,none⟩) 1 1) [m] := by
  refine ⟨RdS.one n4,fun y hy => ?_⟩
  rcases List.mem_singleton.1 hy with rfl
  rw [hm]
  exact ⟨nl.below b4,by show InI 3;unfold InI;omega,by show InI 2;unfold InI;omega⟩
 have hmd : [m].map (·.d) = [lotT] := by rw [hm];rfl
 have hb := Bel.to (Bel.to (Bel.to b1 b2) b3) b4
 replace rA := Row.keep rA hb
 replace gR := gR.below hb
 replace B := Bel.to B hb
 obtain ⟨tk,htk⟩ : ∃ t,t = A.heap.size + 1 + 1 + 1 := ⟨_,rfl⟩
 rw [← htk] at hT ⊢
 clear hY1 hY2 hY3 hY4 b1 b2 b3 b4 n1 n2 n3 n4 s1 s2 s3 nl hb hm htk
 have hTh := hide (fun X (hX : Below Y4.heap.size Y4 X) => hT.below hX)
 have hGh := hide (fun X (hX : Below Y4.heap.size Y4 X) => gR.below hX)
 have hmdh := hide hmd
 have cE := hide (fun (d : Int) (hd : InI d) X (hX : Below Y4.heap.size Y4 X) => eligible_any _ [m] ⟨#[108,111,116,116,111]⟩ d X (hT.below hX) hd (by simp))
 rw [hmd] at cE
 clear hT gR hmd
 go_wp2_with fail
 refine (cE.out 2 (by unfold InI;omega) _ (Below.refl _ _)).mono ?_
 rintro e w2 ⟨u2,rfl,ho2,hb2⟩
 rw [lot_elig2] at ho2
 obtain ⟨a2,c2,rfl⟩ := ho2.shape
 clear ho2
 rw [show ([] : List Int).length = 0 from rfl]
 go_wp2_with fail
 refine (cE.out 3 (by unfold InI;omega) _ hb2).mono ?_
 rintro e w3 ⟨u3,rfl,ho3,hb3'⟩
 have hb3 := hb2.trans (hb3'.mono hb2.size)
 rw [lot_elig3] at ho3
 obtain ⟨a3,c3,rfl⟩ := ho3.shape
 clear ho3 hb3' hb2
 rw [show ([0] : List Int).length = 1 from rfl]
 go_wp2_with fail
 refine (cE.out 4 (by unfold InI;omega) _ hb3).mono ?_
 rintro e w4 ⟨u4,rfl,ho4,hb4'⟩
 have hb4 := hb3.trans (hb4'.mono hb3.size)
 rw [lot_elig4] at ho4
 obtain ⟨a4,c4,rfl⟩ := ho4.shape
 clear ho4 hb4' hb3
 rw [show ([0] : List Int).length = 1 from rfl]
 go_wp2_with fail
 refine (cE.out 5 (by unfold InI;omega) _ hb4).mono ?_
 rintro e w5 ⟨u5,rfl,ho5,hb5'⟩
 have hb5 := hb4.trans (hb5'.mono hb4.size)
 rw [lot_elig5] at ho5
 obtain ⟨a5,c5,rfl⟩ := ho5.shape
 clear ho5 hb5' hb4 cE
 rw [show ([] : List Int).length = 0 from rfl]
 replace rA := Row.keep rA hb5
 go_upto_region 5 with (fail)
 go_wp2_with (first | (refine wpList_load_row rfl 25 _ rfl _ rfl _ _ _ _ rA Tryz.underlying25 rfl (by kernel_rfl) ?_) | fail)
 obtain ⟨Y5,hY5⟩ : ∃ Y,Y = w5.alloc (.cells #[.int .i64 2,.int .i64 5] 3) := ⟨_,rfl⟩
 have b5 : Below w5.heap.size w5 Y5 := by rw [hY5];exact Bel.al (Below.refl _ _) _
 have n5 : Rd I64 Y5 (.slice (some ⟨w5.heap.size,0,none⟩) 2 2) [2,5] := by rw [hY5];exact Rd.new [2,5] rfl rfl (Nat.le_refl _) (by decide) rfl
 rw [← hY5]
 clear hY5
 have hb6 := hb5.trans (b5.mono hb5.size)
 have cW := hide (wins_any lotG _ _ _ _ _ _ _ [m] 4 lotR Y5 (hGh.out _ hb6) (hTh.out _ hb6) ⟨n5,Rd.nil,Rd.nil⟩ (by decide) (by unfold InI;omega) (by simp))
 rw [hmdh.out,lot_wins] at cW
 refine cW.out.mono ?_
 rintro e w6 ⟨v6,rfl,ho6,hb7⟩
 have rd6 := OwnWin.rd ho6
 obtain ⟨a6,c6,rfl⟩ := OwnS.shape ho6
 obtain ⟨b,off,rfl,hbb,hcell⟩ := RdS.at_ (i := 0) rd6 (by simp)
 have hrange : w6.rangeAt b (off + 0 * 3) [.int .i64 0,.int .i64 0,.int .i64 0] := fun j u hu => hcell 0 ⟨0,0,0⟩ rfl j u hu
 rw [Nat.zero_mul,Nat.add_zero] at hrange
 have BE := Bel.to (Bel.to (Bel.to B hb5) b5) hb7
 rw [show ([⟨0,0,0⟩] : List WinD).length = 1 from rfl]
 clear ho6 rd6 hcell cW hGh hTh hmdh hb7 hb6 b5 n5 rA hb5 B
 go_wp2_with (first | ((refine wpList_load_mid_if ?_ 67 _ rfl b off ?_ [.int .i64 0,.int .i64 0,.int .i64 0] _ hrange Tryz.underlying67 rfl (by kernel_rfl) ?_);(rfl);(rfl)) | fail)
 go_ret
 exact ⟨rfl,BE⟩
instance : DecidableEq WinD := fun a b => decidable_of_iff (a.ticket = b.ticket ∧ a.line = b.line ∧ a.tier = b.tier) (by cases a;cases b;simp)
set_option maxHeartbeats 2000000 in
set_option maxRecDepth 100000 in
theorem samewins_any (va vb : Value) (la lb : List WinD) (w : World) (ha : WinsR w va la) (hb : WinsR w vb lb) :
  Calls Tryz.prog 16 #[va,vb] w (BoolB (decide (la = lb)) w) := by
 have hra := hide ha
 have hrb := hide hb
 obtain ⟨aa,ca,rfl,hla,hca⟩ := RdS.shape ha
 obtain ⟨ab,cb,rfl,hlb,hcb⟩ := RdS.shape hb
 clear ha hb
 obtain ⟨P,hP⟩ : ∃ P,P = decide (la = lb) := ⟨_,rfl⟩
 rw [← hP]
 replace hP := hide hP
 obtain ⟨n,hn⟩ : ∃ n,n = la.length := ⟨_,rfl⟩
 obtain ⟨m,hm⟩ : ∃ m,m = lb.length := ⟨_,rfl⟩
 have hn63 : n ≤ 9223372036854775807 := by unfold maxLen at hca;omega
 rw [← hn] at hra ⊢
 rw [← hm] at hrb ⊢
 replace hn := hide hn
 replace hm := hide hm
 clear hla hlb hca hcb
 by_cases hl : n = m
 ·subst hl
  have l3 : ((n : Int) != (n : Int)) = false := by simp
  go_enter Tryz.func16,Tryz.ntmps16
  go_wp2
  go_loopg [5] n (fun gh i wr => ∃ (k d : Nat),gh = n - k ∧ k ≤ n ∧ i = .int .i64 k ∧ wr = w.drewN d ∧ Hid (la.take k = lb.take k))
  case atStart => exact ⟨0,0,rfl,Nat.zero_le _,rfl,rfl,rfl⟩
  case round =>
   obtain ⟨k,d,hgh,hk,rfl,rfl,htk⟩ := hrel
   replace hgh := hide hgh
   by_cases hkl : k < n
   ·have hkl2 := hide hkl
    have k1 : k < la.length := by rw [← hn.out];exact hkl
    have k2 : k < lb.length := by rw [← hm.out];exact hkl
    obtain ⟨ba,offa,rfl,hba,hcella⟩ := hra.out.at_ k1
    obtain ⟨bb,offb,rfl,hbb,hcellb⟩ := hrb.out.at_ k2
    obtain ⟨x,hx⟩ : ∃ x,x = la[k] := ⟨_,rfl⟩
    obtain ⟨y,hy⟩ : ∃ y,y = lb[k] := ⟨_,rfl⟩
    have hxk : la[k]? = some x := by rw [hx];exact List.getElem?_eq_getElem k1
    have hyk : lb[k]? = some y := by rw [hy];exact List.getElem?_eq_getElem k2
    have hrA : (w.drewN d).drew.rangeAt ba (offa + k * 3) [.int .i64 x.ticket,.int .i64 x.line,.int .i64 x.tier] := fun j u hu => hcella k x hxk j u hu
    have hrB : (w.drewN d).drew.rangeAt bb (offb + k * 3) [.int .i64 y.ticket,.int .i64 y.line,.int .i64 y.tier] := fun j u hu => hcellb k y hyk j u hu
    have i1 : (0 : Int) ≤ (k : Int) := by omega
    have i2 : (k : Int) < (n : Int) := by omega
    have hsa : la.take (k + 1) = la.take k ++ [x] := by rw [List.take_succ_eq_append_getElem k1,hx]
    have hsb : lb.take (k + 1) = lb.take k ++ [y] := by rw [List.take_succ_eq_append_getElem k2,hy]
    by_cases he : x = y
    ·have ht2 : Hid (la.take (k + 1) = lb.take (k + 1)) := by show _ = _;rw [hsa,hsb,htk.out,he]
     clear hcella hcellb hx hy hxk hyk hsa hsb htk
     subst he
     go_upto_region 6 with (fail)
     refine wp_region_held_drew (S := fun X => X.rangeAt ba (offa + k * 3) [.int .i64 x.ticket,.int .i64 x.line,.int .i64 x.tier] ∧ X.rangeAt bb (offb + k * 3) [.int .i64 x.ticket,.int .i64 x.line,.int .i64 x.tier]) (by kernel_rfl) (⟨hrA,hrB⟩) (fun hHeld => ?_)
     refine' wpAnyH_take (i := 0) (oi := _) (v := .slice (some ⟨ba,offa,none⟩) n ca) rfl (by kernel_rfl) (by kernel_rfl) (by kernel_rfl) (fun _ _ _ h => h) (Or.inl ⟨by first | (go_simp;done) | rfl,fun X _ => by go_simp⟩) hHeld ?_
     try simp only [Act.put,zsA,zsB,zsC]
     refine' wpAnyH_take (i := 1) (oi := _) (v := .int .i64 (k : Int)) rfl (by kernel_rfl) (by kernel_rfl) (by kernel_rfl) (fun _ _ _ h => h) (Or.inl ⟨by first | (go_simp;done) | rfl,fun X _ => by go_simp⟩) hHeld ?_
     try simp only [Act.put,zsA,zsB,zsC]
     refine' wpAnyH_take (i := 2) (oi := _) (v := .pointer (some ⟨ba,offa + k * 3,none⟩)) rfl (by kernel_rfl) (by kernel_rfl) (by kernel_rfl) (fun _ _ _ h => h) (Or.inl ⟨by first | (go_simp;done) | rfl,fun X _ => by go_simp⟩) hHeld ?_
     try simp only [Act.put,zsA,zsB,zsC]
     refine' wpAnyH_take (i := 3) (oi := _) (v := .agg #[.int .i64 x.ticket,.int .i64 x.line,.int .i64 x.tier]) rfl (by kernel_rfl) (by kernel_rfl) (by kernel_rfl) (fun _ _ _ h => h) (by refine (yieldsIf_load_mid ?_ 67 (.tmp 19) rfl ba (offa + k * 3) ?_ ([.int .i64 x.ticket,.int .i64 x.line,.int .i64 x.tier]) _ (fun X h => h.1) Tryz.underlying67 rfl (by kernel_rfl)) <;> go_simp) hHeld ?_
     try simp only [Act.put,zsA,zsB,zsC]
     refine' wpAnyH_take (i := 4) (oi := _) (v := .slice (some ⟨bb,offb,none⟩) n cb) rfl (by kernel_rfl) (by kernel_rfl) (by kernel_rfl) (fun _ _ _ h => h) (Or.inl ⟨by first | (go_simp;done) | rfl,fun X _ => by go_simp⟩) hHeld ?_
     try simp only [Act.put,zsA,zsB,zsC]
     refine' wpAnyH_take (i := 5) (oi := _) (v := .int .i64 (k : Int)) rfl (by kernel_rfl) (by kernel_rfl) (by kernel_rfl) (fun _ _ _ h => h) (Or.inl ⟨by first | (go_simp;done) | rfl,fun X _ => by go_simp⟩) hHeld ?_
     try simp only [Act.put,zsA,zsB,zsC]
     refine' wpAnyH_take (i := 6) (oi := _) (v := .pointer (some ⟨bb,offb + k * 3,none⟩)) rfl (by kernel_rfl) (by kernel_rfl) (by kernel_rfl) (fun _ _ _ h => h) (Or.inl ⟨by first | (go_simp;done) | rfl,fun X _ => by go_simp⟩) hHeld ?_
     try simp only [Act.put,zsA,zsB,zsC]
     refine' wpAnyH_take (i := 7) (oi := _) (v := .agg #[.int .i64 x.ticket,.int .i64 x.line,.int .i64 x.tier]) rfl (by kernel_rfl) (by kernel_rfl) (by kernel_rfl) (fun _ _ _ h => h) (by refine (yieldsIf_load_mid ?_ 67 (.tmp 23) rfl bb (offb + k * 3) ?_ ([.int .i64 x.ticket,.int .i64 x.line,.int .i64 x.tier]) _ (fun X h => h.2) Tryz.underlying67 rfl (by kernel_rfl)) <;> go_simp) hHeld ?_
     try simp only [Act.put,zsA,zsB,zsC]
     refine' wpAnyH_take (i := 8) (oi := _) (v := .bool false) rfl (by kernel_rfl) (by kernel_rfl) (by kernel_rfl) (fun _ _ _ h => h) (Or.inl ⟨by first | (go_simp;done) | rfl,fun X _ => by go_simp⟩) hHeld ?_
     try simp only [Act.put,zsA,zsB,zsC]
     refine wpAnyH_done (by kernel_rfl) ?_ _
     go_simp
     clear hHeld
     go_wp2
     go_roundg (n - (k + 1))
     case measure => have := hgh.out;have := hkl2.out;omega
     case rel => exact ⟨k + 1,_,rfl,by have := hkl2.out;omega,by go_num,rfl,ht2⟩
    ·have hPf : Hid (P = false) := by
      show _ = _
      rw [hP.out]
      refine decide_eq_false (fun e => he ?_)
      subst e
      rw [hx,hy]
     have hb1 : x.ticket = y.ticket → x.line = y.line → ¬x.tier = y.tier := by
      rcases x with ⟨x1,x2,x3⟩
      rcases y with ⟨y1,y2,y3⟩
      simpa only [WinD.mk.injEq,not_and] using he
     replace he := hide he
     replace hb1 := hide hb1
     clear hcella hcellb hx hy hxk hyk hsa hsb htk
     go_upto_region 6 with (fail)
     refine wp_region_held_drew (S := fun X => X.rangeAt ba (offa + k * 3) [.int .i64 x.ticket,.int .i64 x.line,.int .i64 x.tier] ∧ X.rangeAt bb (offb + k * 3) [.int .i64 y.ticket,.int .i64 y.line,.int .i64 y.tier]) (by kernel_rfl) (⟨hrA,hrB⟩) (fun hHeld => ?_)
     refine' wpAnyH_take (i := 0) (oi := _) (v := .slice (some ⟨ba,offa,none⟩) n ca) rfl (by kernel_rfl) (by kernel_rfl) (by kernel_rfl) (fun _ _ _ h => h) (Or.inl ⟨by first | (go_simp;done) | rfl,fun X _ => by go_simp⟩) hHeld ?_
     try simp only [Act.put,zsA,zsB,zsC]
     refine' wpAnyH_take (i := 1) (oi := _) (v := .int .i64 (k : Int)) rfl (by kernel_rfl) (by kernel_rfl) (by kernel_rfl) (fun _ _ _ h => h) (Or.inl ⟨by first | (go_simp;done) | rfl,fun X _ => by go_simp⟩) hHeld ?_
     try simp only [Act.put,zsA,zsB,zsC]
     refine' wpAnyH_take (i := 2) (oi := _) (v := .pointer (some ⟨ba,offa + k * 3,none⟩)) rfl (by kernel_rfl) (by kernel_rfl) (by kernel_rfl) (fun _ _ _ h => h) (Or.inl ⟨by first | (go_simp;done) | rfl,fun X _ => by go_simp⟩) hHeld ?_
     try simp only [Act.put,zsA,zsB,zsC]
     refine' wpAnyH_take (i := 3) (oi := _) (v := .agg #[.int .i64 x.ticket,.int .i64 x.line,.int .i64 x.tier]) rfl (by kernel_rfl) (by kernel_rfl) (by kernel_rfl) (fun _ _ _ h => h) (by refine (yieldsIf_load_mid ?_ 67 (.tmp 19) rfl ba (offa + k * 3) ?_ ([.int .i64 x.ticket,.int .i64 x.line,.int .i64 x.tier]) _ (fun X h => h.1) Tryz.underlying67 rfl (by kernel_rfl)) <;> go_simp) hHeld ?_
     try simp only [Act.put,zsA,zsB,zsC]
     refine' wpAnyH_take (i := 4) (oi := _) (v := .slice (some ⟨bb,offb,none⟩) n cb) rfl (by kernel_rfl) (by kernel_rfl) (by kernel_rfl) (fun _ _ _ h => h) (Or.inl ⟨by first | (go_simp;done) | rfl,fun X _ => by go_simp⟩) hHeld ?_
     try simp only [Act.put,zsA,zsB,zsC]
     refine' wpAnyH_take (i := 5) (oi := _) (v := .int .i64 (k : Int)) rfl (by kernel_rfl) (by kernel_rfl) (by kernel_rfl) (fun _ _ _ h => h) (Or.inl ⟨by first | (go_simp;done) | rfl,fun X _ => by go_simp⟩) hHeld ?_
     try simp only [Act.put,zsA,zsB,zsC]
     refine' wpAnyH_take (i := 6) (oi := _) (v := .pointer (some ⟨bb,offb + k * 3,none⟩)) rfl (by kernel_rfl) (by kernel_rfl) (by kernel_rfl) (fun _ _ _ h => h) (Or.inl ⟨by first | (go_simp;done) | rfl,fun X _ => by go_simp⟩) hHeld ?_
     try simp only [Act.put,zsA,zsB,zsC]
     refine' wpAnyH_take (i := 7) (oi := _) (v := .agg #[.int .i64 y.ticket,.int .i64 y.line,.int .i64 y.tier]) rfl (by kernel_rfl) (by kernel_rfl) (by kernel_rfl) (fun _ _ _ h => h) (by refine (yieldsIf_load_mid ?_ 67 (.tmp 23) rfl bb (offb + k * 3) ?_ ([.int .i64 y.ticket,.int .i64 y.line,.int .i64 y.tier]) _ (fun X h => h.2) Tryz.underlying67 rfl (by kernel_rfl)) <;> go_simp) hHeld ?_
     try simp only [Act.put,zsA,zsB,zsC]
     refine' wpAnyH_take (i := 8) (oi := _) (v := .bool true) rfl (by kernel_rfl) (by kernel_rfl) (by kernel_rfl) (fun _ _ _ h => h) (Or.inl ⟨by first | (go_simp;done) | rfl,fun X _ => by go_simp;exact hb1.out⟩) hHeld ?_
     try simp only [Act.put,zsA,zsB,zsC]
     refine wpAnyH_done (by kernel_rfl) ?_ _
     go_simp
     clear hHeld
     go_wp2
     go_ret
     exact ⟨by rw [hPf.out];rfl,Bel.drN (Below.refl _ _) _⟩
   ·have hke : k = n := by omega
    subst hke
    have hPt : Hid (P = true) := by
     show _ = _
     rw [hP.out]
     refine decide_eq_true ?_
     have h9 := htk.out
     rw [List.take_of_length_le (by rw [hn.out];exact Nat.le_refl _),List.take_of_length_le (by rw [hm.out];exact Nat.le_refl _)] at h9
     exact h9
    have i2 : ¬ (k : Int) < (k : Int) := by omega
    go_wp2
    go_ret
    exact ⟨by rw [hPt.out];rfl,Bel.drN (Below.refl _ _) _⟩
 ·have hPf : Hid (P = false) := by
   show _ = _
   rw [hP.out]
   refine decide_eq_false (fun e => hl ?_)
   rw [hn.out,hm.out,e]
  have l3 : ((n : Int) != (m : Int)) = true := by simp;omega
  replace hl := hide hl
  go_enter Tryz.func16,Tryz.ntmps16
  go_wp2
  go_ret
  exact ⟨by rw [hPf.out];rfl,Below.refl _ _⟩
set_option maxHeartbeats 4000000 in
set_option maxRecDepth 100000 in
theorem wcounts_any (g : GameD) (av tv v : Value) (ms : List AddonM) (l : List WinD) (w : World) (hg : GameR w av tv ms g) (hl : WinsR w v l) (hn : g.tiers.length ≤ 1000) :
  Calls Tryz.prog 15 #[gameVal g av tv,v] w (fun e w' => ∃ u,e = .returned u ∧ Rd I64 w' u (cntGo g.tiers.length l) ∧ Below w.heap.size w w') := by
 obtain ⟨aa,ac,rfl,hal,ham⟩ := hg.1.1.shape
 obtain ⟨ta,tc,rfl,htl,htm⟩ := hg.2.2.shape
 obtain ⟨tn,htn⟩ : ∃ n,n = g.tiers.length := ⟨_,rfl⟩
 unfold gameVal
 rw [← htn] at hn ⊢
 have hll := hide (fun X (hX : Below w.heap.size w X) => RdS.below hl hX)
 obtain ⟨wa,wc,rfl,hwl,hwm⟩ := RdS.shape hl
 obtain ⟨n,hnn⟩ : ∃ n,n = l.length := ⟨_,rfl⟩
 have hn63 : n ≤ 9223372036854775807 := by unfold maxLen at hwm;omega
 rw [← hnn] at hll ⊢
 replace hnn := hide hnn
 have hnh := hide hn
 clear hg hl hal ham htl htm hwl hwm htn
 obtain ⟨R,hR⟩ : ∃ R,R = cntGo tn l := ⟨_,rfl⟩
 rw [← hR]
 replace hR := hide hR
 have hn1 : (tn : Int) ≤ 1000 := by omega
 go_enter Tryz.func15,Tryz.ntmps15
 go_upto_region 1 with (fail)
 obtain ⟨W,hW⟩ : ∃ W,W = (w.alloc (Obj.cells #[.string g.name,.int .i64 g.kind,.int .i64 g.price,.int .i64 g.main,.int .i64 g.of,.int .i64 g.bonus,.int .i64 g.bonusOf,.int .i64 g.extra,.int .i64 g.draws,.int .i64 g.system,.int .i64 g.days,.int .i64 g.at_,.int .i64 g.close,.int .i64 g.cancel,.int .i64 g.expiry,.int .i64 g.pool,.int .i64 g.reserve,.int .i64 g.round,.int .i64 g.cap,.int .i64 g.rolls,(.slice aa ms.length ac),(.slice ta tn tc)] 25)) := ⟨_,rfl⟩
 have bW : Below w.heap.size w W := by rw [hW];exact Bel.al (Below.refl _ _) _
 have r0 : GameAt W (w.heap.size) g ((.slice aa ms.length ac)) ((.slice ta tn tc)) := by rw [hW];exact Row.new _ _ _
 have sW : w.heap.size < W.heap.size := by rw [hW];simp
 rw [← hW]
 clear hW
 have x21 := r0.tiers
 go_wp2_with (first | (with_reducible refine wpList_make_row _ rfl _ _ 27 rfl 3 (.int .i64 0) 8 Tryz.underlying27 (by kernel_rfl) rfl .i64 .i64 _ _ tn tn rfl rfl rfl rfl (Nat.le_refl _) (by omega) (by omega) ?_) | fail)
 intro X rX bX sX
 have hz : List.replicate tn (Value.int .i64 0) = (cntGo tn []).map I64 := by simp [cntGo]
 rw [hz] at rX
 obtain ⟨cb,hcb⟩ : ∃ cb,cb = W.heap.size := ⟨_,rfl⟩
 rw [← hcb] at rX ⊢
 have hcw : Hid (w.heap.size ≤ cb) := by show _ ≤ _;rw [hcb];exact bW.size
 have hBX := Bel.to bW bX
 clear x21 r0 bW sW hz hcb bX sX
 go_wp2
 go_loopg [7,14] n (fun gh _ t wr => ∃ (i : Nat),gh = n - i ∧ i ≤ n ∧ t = .int .i64 (i : Int) ∧ Hid (Row wr cb 3 ((cntGo tn (l.take i)).map I64)) ∧ Hid (Below w.heap.size w wr))
 case atStart => exact ⟨0,rfl,Nat.zero_le _,rfl,rX,hBX⟩
 case round =>
  clear rX hBX
  obtain ⟨i,hgh,hi,rfl,hrow,hB⟩ := hrel
  replace hgh := hide hgh
  by_cases hlt : i < n
  ·have hlt2 := hide hlt
   have hil : i < l.length := by rw [← hnn.out];exact hlt
   obtain ⟨b,off,rfl,hbb,hcell⟩ := (hll.out wr hB.out).at_ hil
   obtain ⟨x,hx⟩ : ∃ x,x = l[i] := ⟨_,rfl⟩
   have hxi : l[i]? = some x := by rw [hx];exact List.getElem?_eq_getElem hil
   have hrange : wr.rangeAt b (off + i * 3) (winCells x) := fun j u hu => hcell i x hxi j u hu
   have hsn : l.take (i + 1) = l.take i ++ [x] := by rw [List.take_succ_eq_append_getElem hil,hx]
   have hle : ∀ t,cntT t (l.take i) ≤ i := fun t => Nat.le_trans (cntT_le _ _) (by rw [List.length_take];omega)
   obtain ⟨L,hL⟩ : ∃ L,L = l.take i := ⟨_,rfl⟩
   rw [← hL] at hrow hsn hle
   clear hcell hx hxi hL
   obtain ⟨x1,x2,x3⟩ := x
   have hthere := hide (show (wr.alloc (.cells #[.int .i64 0,.int .i64 0,.int .i64 0] 67)).there wr.heap.size 0 3 from Row.there (Row.newOf (cs := [.int .i64 0,.int .i64 0,.int .i64 0]) _ rfl))
   have i1 : (0 : Int) ≤ (i : Int) := by omega
   have i2 : (i : Int) < (n : Int) := by omega
   unfold winCells at hrange
   simp only [] at hrange
   go_upto_region 5 with (first | (refine wpList_load_mid rfl 67 _ rfl b (off + i * 3) rfl [.int .i64 x1,.int .i64 x2,.int .i64 x3] _ hrange Tryz.underlying67 rfl (by kernel_rfl) ?_) | (refine wpList_store_mid rfl 67 _ _ rfl wr.heap.size 0 _ rfl rfl hthere.out (by kernel_rfl) (by rfl) ?_) | fail)
   obtain ⟨X1,hX1⟩ : ∃ X1,X1 = wr.alloc (.cells #[.int .i64 x1,.int .i64 x2,.int .i64 x3] 67) := ⟨_,rfl⟩
   have b1 : Below wr.heap.size wr X1 := by rw [hX1];exact Bel.al (Below.refl _ _) _
   have p1 : Row X1 wr.heap.size 67 [.int .i64 x1,.int .i64 x2,.int .i64 x3] := by rw [hX1];exact Row.newOf _ rfl
   rw [← hX1]
   clear hX1 hthere hrange
   have c2 : X1.cell? ⟨wr.heap.size,2,none⟩ = some (.int .i64 x3) := (p1.cell? 2).trans rfl
   have hrow1 := Row.keep hrow.out b1
   have hB1 := hide (Bel.to hB.out b1)
   by_cases h0 : 0 ≤ x3
   ·have g1 : decide (0 ≤ x3) = true := decide_eq_true h0
    by_cases hT : x3 < (tn : Int)
    ·obtain ⟨t,rfl⟩ := Int.eq_ofNat_of_zero_le h0
     have ht : t < tn := by omega
     have hat := cntGo_at tn t L ht
     have c5 : X1.cell? ⟨cb,t,none⟩ = some (.int .i64 (cntT t L : Int)) := by rw [hrow1.cell?,List.getElem?_map,hat];rfl
     have f5 := hrow1.frozen t
     have hwr : IntKind.i64.wrap ((cntT t L : Int) + 1) = ((cntT t L + 1 : Nat) : Int) := by
      have := hle t
      rw [IntWalk.i64_in _ (by omega)]
      omega
     have hrow2 : Hid (Row (X1.setCell ⟨cb,t,none⟩ (.int .i64 ((cntT t L + 1 : Nat) : Int))) cb 3 ((cntGo tn (l.take (i + 1))).map I64)) := by
      show Row _ _ _ _
      have h9 := Row.setV hrow1 t ((cntT t L + 1 : Nat) : Int)
      rw [hsn,cntGo_snoc,cntStep,if_pos ⟨by show (0 : Int) ≤ (t : Int);omega,hT⟩]
      have e9 : (cntGo tn L).getD ((⟨x1,x2,(t : Int)⟩ : WinD).tier.toNat) 0 + 1 = ((cntT t L + 1 : Nat) : Int) := by
       show (cntGo tn L).getD ((t : Int).toNat) 0 + 1 = _
       rw [Int.toNat_natCast,List.getD_eq_getElem?_getD,hat]
       simp
      rw [e9]
      exact h9
     have hB2 : Hid (Below w.heap.size w (X1.setCell ⟨cb,t,none⟩ (.int .i64 ((cntT t L + 1 : Nat) : Int)))) := Bel.st hB1.out (by exact hcw.out) _
     obtain ⟨q,hq⟩ : ∃ q,q = cntT t L := ⟨_,rfl⟩
     rw [← hq] at c5 hwr hrow2 hB2
     have t1 : (0 : Int) ≤ (t : Int) := h0
     clear hq hat hsn hle hrow1 hrow hB h0 p1 b1
     go_wp2
     go_roundg (n - (i + 1))
     case measure => have := hgh.out;have := hlt2.out;omega
     case rel => exact ⟨i + 1,rfl,by have := hlt2.out;omega,by go_num,hrow2,hB2⟩
    ·have hrow2 : Hid (Row X1 cb 3 ((cntGo tn (l.take (i + 1))).map I64)) := by
      show Row _ _ _ _
      rw [hsn,cntGo_snoc,cntStep,if_neg (by show ¬ (0 ≤ x3 ∧ x3 < (tn : Int));omega)]
      exact hrow1
     clear hsn hle hrow1 hrow hB p1 b1
     go_wp2
     go_roundg (n - (i + 1))
     case measure => have := hgh.out;have := hlt2.out;omega
     case rel => exact ⟨i + 1,rfl,by have := hlt2.out;omega,by go_num,hrow2,hB1⟩
   ·have g1 : decide (0 ≤ x3) = false := decide_eq_false h0
    have hrow2 : Hid (Row X1 cb 3 ((cntGo tn (l.take (i + 1))).map I64)) := by
     show Row _ _ _ _
     rw [hsn,cntGo_snoc,cntStep,if_neg (by show ¬ (0 ≤ x3 ∧ x3 < (tn : Int));omega)]
     exact hrow1
    clear hsn hle hrow1 hrow hB p1 b1
    go_wp2
    go_roundg (n - (i + 1))
    case measure => have := hgh.out;have := hlt2.out;omega
    case rel => exact ⟨i + 1,rfl,by have := hlt2.out;omega,by go_num,hrow2,hB1⟩
  ·have hin : i = l.length := by have := hnn.out;omega
   have hrow9 := hrow.out
   rw [hin,List.take_length,← hR.out] at hrow9
   have hRl : R.length = tn := by rw [hR.out,cntGo_len]
   have hrd : Rd I64 wr (.slice (some ⟨cb,0,none⟩) tn tn) R := Row.rdAll hrow9 hRl.symm (Nat.le_refl _) (by omega)
   replace hin := hide hin
   replace hRl := hide hRl
   have i2 : ¬ (i : Int) < (n : Int) := by omega
   clear hrow hrow9
   go_wp2
   go_ret
   exact ⟨_,rfl,hrd,hB.out⟩
end Go.Proofs.YtelgllgaofjgjaaGreat
end

/- Lemmas, merged out of smaller texts (wip/tools/mergedce.py). No condition. -/
import Derived.BigQuiet
import Derived.Test.YtfggjlekcdpmmaaGreatHWinC
import Derived.Test.YtfggjlekcdpmmaaGreatHWinA
import Derived.Test.YtfggjlekcdpmmaaGreatHLine
import Derived.Test.YtfggjlekcdpmmaaGreatHWinD
import Derived.Test.YtfggjlekcdpmmaaGreatHWinB
import Derived.Test.YtfggjlekcdpmmaaGreatHBetR
section
open Go.RowKit
set_option linter.unusedVariables false
set_option linter.unusedSimpArgs false
namespace Go.Proofs.YtfggjlekcdpmmaaGreat
def cutR (r : ResD) : ResD := ⟨r.main.take (min 16 r.main.length),r.bonus.take (min 6 r.bonus.length),r.extra.take (min 6 r.extra.length),r.factor,r.serial.extract 0 (min 20 r.serial.size)⟩
def ResC (r : ResD) (w0 w : World) (e : Ending) (w' : World) : Prop := ∃ mv bv xv,e = .returned (resVal mv bv xv (cutR r)) ∧ (∀ X,Below w0.heap.size w0 X → ResR X mv bv xv (cutR r)) ∧ (cutR r).serial.size ≤ 20 ∧ Below w.heap.size w w'
set_option maxHeartbeats 4000000 in
set_option maxRecDepth 100000 in
theorem result34_cut (mv bv xv : Value) (r : ResD) (w0 w : World) (h0 : ResR w0 mv bv xv r) (hb0 : Below w0.heap.size w0 w) :
  Calls Tryz.prog 12 #[resVal mv bv xv r] w (ResC r w0 w) := by
 have h := fun X (hX : Below w0.heap.size w0 X) => h0.below hX
 obtain ⟨h1,h2,h3⟩ := h w hb0
 obtain ⟨a1,c1,rfl,p1,q1,t1⟩ := h1.form
 obtain ⟨a2,c2,rfl,p2,q2,t2⟩ := h2.form
 obtain ⟨a3,c3,rfl,p3,q3,t3⟩ := h3.form
 obtain ⟨RC,hRC⟩ : ∃ q,q = cutR r := ⟨_,rfl⟩
 unfold ResC
 rw [← hRC]
 obtain ⟨r1,r2,r3,r4,r5⟩ := r
 replace h : ∀ X,Below w0.heap.size w0 X → Rd I64 X (.slice a1 r1.length c1) r1 ∧ Rd I64 X (.slice a2 r2.length c2) r2 ∧ Rd I64 X (.slice a3 r3.length c3) r3 := fun X hX => h X hX
 simp only [] at h1 h2 h3 p1 p2 p3 t1 t2 t3 ⊢
 obtain ⟨k1,hk1⟩ : ∃ k,k = min 16 r1.length := ⟨_,rfl⟩
 obtain ⟨k2,hk2⟩ : ∃ k,k = min 6 r2.length := ⟨_,rfl⟩
 obtain ⟨k3,hk3⟩ : ∃ k,k = min 6 r3.length := ⟨_,rfl⟩
 obtain ⟨k4,hk4⟩ : ∃ k,k = min 20 r5.size := ⟨_,rfl⟩
 have hk1h := hide hk1
 have hk2h := hide hk2
 have hk3h := hide hk3
 have hk4h := hide hk4
 replace hRC := hide hRC
 have e1 : min ((r1.length : Nat) : Int) 16 = (k1 : Int) := by omega
 have e2 : min ((r2.length : Nat) : Int) 6 = (k2 : Int) := by omega
 have e3 : min ((r3.length : Nat) : Int) 6 = (k3 : Int) := by omega
 have e4 : min ((r5.size : Nat) : Int) 20 = (k4 : Int) := by omega
 have m1 : k1 ≤ c1 := by omega
 have m2 : k2 ≤ c2 := by omega
 have m3 : k3 ≤ c3 := by omega
 have m4 : k4 ≤ r5.size := by omega
 have g1 := fun s => sliced_to a1 k1 c1 s
 have g2 := fun s => sliced_to a2 k2 c2 s
 have g3 := fun s => sliced_to a3 k3 c3 s
 have f1 := hide (fun X (hX : Below w0.heap.size w0 X) => (h X hX).1.take (n := k1) (c := c1) rfl (by omega) m1 q1)
 have f2 := hide (fun X (hX : Below w0.heap.size w0 X) => (h X hX).2.1.take (n := k2) (c := c2) rfl (by omega) m2 q2)
 have f3 := hide (fun X (hX : Below w0.heap.size w0 X) => (h X hX).2.2.take (n := k3) (c := c3) rfl (by omega) m3 q3)
 have hk5 : Hid (k4 ≤ 20) := by show k4 ≤ 20;omega
 obtain ⟨n1,hn1⟩ : ∃ n,n = r1.length := ⟨_,rfl⟩
 obtain ⟨n2,hn2⟩ : ∃ n,n = r2.length := ⟨_,rfl⟩
 obtain ⟨n3,hn3⟩ : ∃ n,n = r3.length := ⟨_,rfl⟩
 unfold resVal
 simp only []
 rw [← hn1] at e1 ⊢
 rw [← hn2] at e2 ⊢
 rw [← hn3] at e3 ⊢
 clear h0 hb0 h h1 h2 h3 p1 p2 p3 q1 q2 q3 t1 t2 t3 hk1 hk2 hk3 hk4 hn1 hn2 hn3
 go_enter Tryz.func12,Tryz.ntmps12
 go_upto_region 1 with (fail)
 obtain ⟨W,hW⟩ : ∃ W,W = ((w.alloc (Obj.cells #[.slice a1 n1 c1,.slice a2 n2 c2,.slice a3 n3 c3,.int .i64 r4,.string r5] 29)).alloc (Obj.cells #[.slice none 0 0,.slice none 0 0,.slice none 0 0,.int .i64 0,.string ⟨#[]⟩] 29)) := ⟨_,rfl⟩
 have bW : Below w.heap.size w W := by rw [hW];exact Bel.al (Bel.al (Below.refl _ _) _) _
 have r0 : Row W ((w.heap.size)) 29 [.slice a1 n1 c1,.slice a2 n2 c2,.slice a3 n3 c3,.int .i64 r4,.string r5] := by rw [hW];exact Row.alloc (Row.new _ _ _) _
 have r1 : Row W ((w.heap.size + 1)) 29 [.slice none 0 0,.slice none 0 0,.slice none 0 0,.int .i64 0,.string ⟨#[]⟩] := by rw [hW];exact Row.at2 _ _ _ _
 have sW : w.heap.size + 1 < W.heap.size := by rw [hW];simp
 rw [← hW]
 clear hW
 have x0 := (r0.cell? 0).trans rfl
 have x1 := (r0.cell? 1).trans rfl
 have x2 := (r0.cell? 2).trans rfl
 have y0 := r0.frozen 0
 have y1 := r0.frozen 1
 have y2 := r0.frozen 2
 refine till_begin 22 (fun X => X.cell? ⟨w.heap.size,0,none⟩ = some (.slice a1 n1 c1) ∧ X.cell? ⟨w.heap.size,1,none⟩ = some (.slice a2 n2 c2) ∧ X.cell? ⟨w.heap.size,2,none⟩ = some (.slice a3 n3 c3)) (by kernel_rfl) (⟨x0,x1,x2⟩) (fun hHeld => ?_)
 refine' till_pure (i := 0) (oi := _) (v := .pointer (some ⟨w.heap.size,0,none⟩)) rfl (by kernel_rfl) (by kernel_rfl) (by kernel_rfl) (by kernel_rfl) (fun _ _ _ h => h) (Or.inl ⟨by first | (go_simp;done) | rfl,fun X _ => by go_simp⟩) hHeld ?_
 try simp only [Act.put,zsA,zsB,zsC]
 refine' till_take (i := 1) (oi := _) (v := .slice a1 n1 c1) rfl (by kernel_rfl) (by kernel_rfl) (by kernel_rfl) (by kernel_rfl) (fun _ _ _ h => h) (Or.inl ⟨by first | (go_simp;done) | rfl,fun X hX => by have cX := hX.1;go_simp⟩) hHeld ?_
 try simp only [Act.put,zsA,zsB,zsC]
 refine' till_pure (i := 2) (oi := _) (v := .pointer (some ⟨w.heap.size,0,none⟩)) rfl (by kernel_rfl) (by kernel_rfl) (by kernel_rfl) (by kernel_rfl) (fun _ _ _ h => h) (Or.inl ⟨by first | (go_simp;done) | rfl,fun X _ => by go_simp⟩) hHeld ?_
 try simp only [Act.put,zsA,zsB,zsC]
 refine' till_take (i := 3) (oi := _) (v := .slice a1 n1 c1) rfl (by kernel_rfl) (by kernel_rfl) (by kernel_rfl) (by kernel_rfl) (fun _ _ _ h => h) (Or.inl ⟨by first | (go_simp;done) | rfl,fun X hX => by have cX := hX.1;go_simp⟩) hHeld ?_
 try simp only [Act.put,zsA,zsB,zsC]
 refine' till_pure (i := 4) (oi := _) (v := .int .i64 (n1 : Int)) rfl (by kernel_rfl) (by kernel_rfl) (by kernel_rfl) (by kernel_rfl) (fun _ _ _ h => h) (Or.inl ⟨by first | (go_simp;done) | rfl,fun X _ => by go_simp⟩) hHeld ?_
 try simp only [Act.put,zsA,zsB,zsC]
 refine' till_pure (i := 5) (oi := _) (v := .int .i64 (k1 : Int)) rfl (by kernel_rfl) (by kernel_rfl) (by kernel_rfl) (by kernel_rfl) (fun _ _ _ h => h) (Or.inl ⟨by first | (go_simp;done) | rfl,fun X _ => by go_simp⟩) hHeld ?_
 try simp only [Act.put,zsA,zsB,zsC]
 refine' till_pure (i := 6) (oi := _) (v := .slice a1 k1 c1) rfl (by kernel_rfl) (by kernel_rfl) (by kernel_rfl) (by kernel_rfl) (fun _ _ _ h => h) (Or.inl ⟨by first | (go_simp;done) | rfl,fun X _ => by refine run_cut0 (.tmp 4) (.tmp 8) 27 rfl elemInts2 sizeEI2 a1 n1 c1 ?_ k1 ?_ m1 <;> go_simp⟩) hHeld ?_
 try simp only [Act.put,zsA,zsB,zsC]
 refine' till_pure (i := 7) (oi := _) (v := .pointer (some ⟨w.heap.size,1,none⟩)) rfl (by kernel_rfl) (by kernel_rfl) (by kernel_rfl) (by kernel_rfl) (fun _ _ _ h => h) (Or.inl ⟨by first | (go_simp;done) | rfl,fun X _ => by go_simp⟩) hHeld ?_
 try simp only [Act.put,zsA,zsB,zsC]
 refine' till_take (i := 8) (oi := _) (v := .slice a2 n2 c2) rfl (by kernel_rfl) (by kernel_rfl) (by kernel_rfl) (by kernel_rfl) (fun _ _ _ h => h) (Or.inl ⟨by first | (go_simp;done) | rfl,fun X hX => by have cX := hX.2.1;go_simp⟩) hHeld ?_
 try simp only [Act.put,zsA,zsB,zsC]
 refine' till_pure (i := 9) (oi := _) (v := .pointer (some ⟨w.heap.size,1,none⟩)) rfl (by kernel_rfl) (by kernel_rfl) (by kernel_rfl) (by kernel_rfl) (fun _ _ _ h => h) (Or.inl ⟨by first | (go_simp;done) | rfl,fun X _ => by go_simp⟩) hHeld ?_
 try simp only [Act.put,zsA,zsB,zsC]
 refine' till_take (i := 10) (oi := _) (v := .slice a2 n2 c2) rfl (by kernel_rfl) (by kernel_rfl) (by kernel_rfl) (by kernel_rfl) (fun _ _ _ h => h) (Or.inl ⟨by first | (go_simp;done) | rfl,fun X hX => by have cX := hX.2.1;go_simp⟩) hHeld ?_
 try simp only [Act.put,zsA,zsB,zsC]
 refine' till_pure (i := 11) (oi := _) (v := .int .i64 (n2 : Int)) rfl (by kernel_rfl) (by kernel_rfl) (by kernel_rfl) (by kernel_rfl) (fun _ _ _ h => h) (Or.inl ⟨by first | (go_simp;done) | rfl,fun X _ => by go_simp⟩) hHeld ?_
 try simp only [Act.put,zsA,zsB,zsC]
 refine' till_pure (i := 12) (oi := _) (v := .int .i64 (k2 : Int)) rfl (by kernel_rfl) (by kernel_rfl) (by kernel_rfl) (by kernel_rfl) (fun _ _ _ h => h) (Or.inl ⟨by first | (go_simp;done) | rfl,fun X _ => by go_simp⟩) hHeld ?_
 try simp only [Act.put,zsA,zsB,zsC]
 refine' till_pure (i := 13) (oi := _) (v := .slice a2 k2 c2) rfl (by kernel_rfl) (by kernel_rfl) (by kernel_rfl) (by kernel_rfl) (fun _ _ _ h => h) (Or.inl ⟨by first | (go_simp;done) | rfl,fun X _ => by refine run_cut0 (.tmp 11) (.tmp 15) 27 rfl elemInts2 sizeEI2 a2 n2 c2 ?_ k2 ?_ m2 <;> go_simp⟩) hHeld ?_
 try simp only [Act.put,zsA,zsB,zsC]
 refine' till_pure (i := 14) (oi := _) (v := .pointer (some ⟨w.heap.size,2,none⟩)) rfl (by kernel_rfl) (by kernel_rfl) (by kernel_rfl) (by kernel_rfl) (fun _ _ _ h => h) (Or.inl ⟨by first | (go_simp;done) | rfl,fun X _ => by go_simp⟩) hHeld ?_
 try simp only [Act.put,zsA,zsB,zsC]
 refine' till_take (i := 15) (oi := _) (v := .slice a3 n3 c3) rfl (by kernel_rfl) (by kernel_rfl) (by kernel_rfl) (by kernel_rfl) (fun _ _ _ h => h) (Or.inl ⟨by first | (go_simp;done) | rfl,fun X hX => by have cX := hX.2.2;go_simp⟩) hHeld ?_
 try simp only [Act.put,zsA,zsB,zsC]
 refine' till_pure (i := 16) (oi := _) (v := .pointer (some ⟨w.heap.size,2,none⟩)) rfl (by kernel_rfl) (by kernel_rfl) (by kernel_rfl) (by kernel_rfl) (fun _ _ _ h => h) (Or.inl ⟨by first | (go_simp;done) | rfl,fun X _ => by go_simp⟩) hHeld ?_
 try simp only [Act.put,zsA,zsB,zsC]
 refine' till_take (i := 17) (oi := _) (v := .slice a3 n3 c3) rfl (by kernel_rfl) (by kernel_rfl) (by kernel_rfl) (by kernel_rfl) (fun _ _ _ h => h) (Or.inl ⟨by first | (go_simp;done) | rfl,fun X hX => by have cX := hX.2.2;go_simp⟩) hHeld ?_
 try simp only [Act.put,zsA,zsB,zsC]
 refine' till_pure (i := 18) (oi := _) (v := .int .i64 (n3 : Int)) rfl (by kernel_rfl) (by kernel_rfl) (by kernel_rfl) (by kernel_rfl) (fun _ _ _ h => h) (Or.inl ⟨by first | (go_simp;done) | rfl,fun X _ => by go_simp⟩) hHeld ?_
 try simp only [Act.put,zsA,zsB,zsC]
 refine' till_pure (i := 19) (oi := _) (v := .int .i64 (k3 : Int)) rfl (by kernel_rfl) (by kernel_rfl) (by kernel_rfl) (by kernel_rfl) (fun _ _ _ h => h) (Or.inl ⟨by first | (go_simp;done) | rfl,fun X _ => by go_simp⟩) hHeld ?_
 try simp only [Act.put,zsA,zsB,zsC]
 refine' till_pure (i := 20) (oi := _) (v := .slice a3 k3 c3) rfl (by kernel_rfl) (by kernel_rfl) (by kernel_rfl) (by kernel_rfl) (fun _ _ _ h => h) (Or.inl ⟨by first | (go_simp;done) | rfl,fun X _ => by refine run_cut0 (.tmp 18) (.tmp 22) 27 rfl elemInts2 sizeEI2 a3 n3 c3 ?_ k3 ?_ m3 <;> go_simp⟩) hHeld ?_
 try simp only [Act.put,zsA,zsB,zsC]
 refine' till_pure (i := 21) (oi := _) (v := .pointer (some ⟨w.heap.size,0,none⟩)) rfl (by kernel_rfl) (by kernel_rfl) (by kernel_rfl) (by kernel_rfl) (fun _ _ _ h => h) (Or.inl ⟨by first | (go_simp;done) | rfl,fun X _ => by go_simp⟩) hHeld ?_
 try simp only [Act.put,zsA,zsB,zsC]
 refine till_ready (rs := [22]) (by kernel_rfl) (by simp) ?_
 refine TillReady.last (o := _) rfl (by kernel_rfl) (fun K hK => ?_) TillReady.nil
 go_simp
 refine hK.out _ _ ?_
 clear hK K
 try simp only [Act.put,zsA,zsB,zsC]
 refine' till_late (i := 23) (oi := _) (v := .pointer (some ⟨w.heap.size,1,none⟩)) rfl (by kernel_rfl) (by kernel_rfl) (Or.inl ⟨by first | (go_simp;done) | rfl,fun X _ => by go_simp⟩) ?_
 try simp only [Act.put,zsA,zsB,zsC]
 refine till_ready (rs := [24]) (by kernel_rfl) (by simp) ?_
 refine TillReady.last (o := _) rfl (by kernel_rfl) (fun K hK => ?_) TillReady.nil
 go_simp
 refine hK.out _ _ ?_
 clear hK K
 try simp only [Act.put,zsA,zsB,zsC]
 refine' till_late (i := 25) (oi := _) (v := .pointer (some ⟨w.heap.size,2,none⟩)) rfl (by kernel_rfl) (by kernel_rfl) (Or.inl ⟨by first | (go_simp;done) | rfl,fun X _ => by go_simp⟩) ?_
 try simp only [Act.put,zsA,zsB,zsC]
 refine till_ready (rs := [26]) (by kernel_rfl) (by simp) ?_
 refine TillReady.last (o := _) rfl (by kernel_rfl) (fun K hK => ?_) TillReady.nil
 go_simp
 refine hK.out _ _ ?_
 clear hK K
 try simp only [Act.put,zsA,zsB,zsC]
 refine till_done (by kernel_rfl) ?_ _
 go_simp
 obtain ⟨Y,hY⟩ : ∃ Y,Y = (((W.setCell ⟨w.heap.size,0,none⟩ (.slice a1 k1 c1)).setCell ⟨w.heap.size,1,none⟩ (.slice a2 k2 c2)).setCell ⟨w.heap.size,2,none⟩ (.slice a3 k3 c3)).drew := ⟨_,rfl⟩
 have q0 : Row Y w.heap.size 29 [.slice a1 k1 c1,.slice a2 k2 c2,.slice a3 k3 c3,.int .i64 r4,.string r5] := by rw [hY];exact ((r0.set 0 _).set 1 _).set 2 _
 have q1 : Row Y (w.heap.size + 1) 29 [.slice none 0 0,.slice none 0 0,.slice none 0 0,.int .i64 0,.string ⟨#[]⟩] := by rw [hY];exact ((r1.far (by simp) _).far (by simp) _).far (by simp) _
 have bY : Below w.heap.size w Y := by rw [hY];exact Bel.drN (Bel.st (Bel.st (Bel.st bW (Nat.le_refl _) _) (Nat.le_refl _) _) (Nat.le_refl _) _) 1
 rw [← hY]
 clear hY x0 x1 x2 y0 y1 y2 r0 r1 bW sW hHeld
 have x4 : Y.cell? ⟨w.heap.size,4,none⟩ = some (.string r5) := (q0.cell? 4).trans rfl
 have y4 := q0.frozen 4
 go_upto_region 3 with (fail)
 obtain ⟨Z,hZ⟩ : ∃ Z,Z = Y.setCell ⟨w.heap.size,4,none⟩ (.string (r5.extract 0 k4)) := ⟨_,rfl⟩
 have z0 : Row Z w.heap.size 29 [.slice a1 k1 c1,.slice a2 k2 c2,.slice a3 k3 c3,.int .i64 r4,.string (r5.extract 0 k4)] := by rw [hZ];exact q0.set 4 _
 have z1 : Row Z (w.heap.size + 1) 29 [.slice none 0 0,.slice none 0 0,.slice none 0 0,.int .i64 0,.string ⟨#[]⟩] := by rw [hZ];exact q1.far (by simp) _
 have bZ : Below w.heap.size w Z := by rw [hZ];exact Bel.st bY (Nat.le_refl _) _
 have hsz : Hid ((r5.extract 0 k4).size ≤ 20) := by show _ ≤ 20;have := hk5.out;simp;omega
 rw [← hZ]
 obtain ⟨S,hS⟩ : ∃ S,S = r5.extract 0 k4 := ⟨_,rfl⟩
 rw [← hS] at z0 hsz
 clear hZ x4 y4 q0 q1 bY
 replace hS := hide hS
 go_wp2_with (first | (refine wpList_load_row rfl 29 _ rfl _ rfl _ _ _ _ z0 Tryz.underlying29 rfl (by kernel_rfl) ?_) | (with_reducible refine wpList_store_whole rfl 29 _ _ rfl (w.heap.size + 1) _ rfl rfl 29 _ z1 ?_ ?_ ?_ ?_) | fail)
 case refine_1 => kernel_rfl
 case refine_2 => rfl
 case refine_3 => simp [Value.oneCell']
 intro W2 hrow hgr
 have hw : Below w.heap.size w W2 := Below.grown bZ hgr bZ.size (fun k hk => by injection hk with hk;omega)
 have hEq : RC = ⟨r1.take k1,r2.take k2,r3.take k3,r4,S⟩ := by
  rw [hRC.out,hS.out,hk1h.out,hk2h.out,hk3h.out,hk4h.out]
  rfl
 have hR : ∀ X,Below w0.heap.size w0 X → ResR X (.slice a1 k1 c1) (.slice a2 k2 c2) (.slice a3 k3 c3) RC := by
  rw [hEq]
  exact fun X hX => ⟨f1.out X hX,f2.out X hX,f3.out X hX⟩
 go_wp2
 exact bodyPost_ret (v := resVal (.slice a1 k1 c1) (.slice a2 k2 c2) (.slice a3 k3 c3) RC) ((results_cell_row rfl _ _ (w.heap.size + 1) 29 _ (0,0) _ rfl hrow Tryz.underlying29 rfl (by kernel_rfl)).trans (by rw [hEq];rfl)) rfl ⟨_,_,_,rfl,hR,by rw [hEq];exact hsz.out,hw⟩
theorem equal_next {a b : List Int} {i n : Nat} (hi : i < n) (ha : n ≤ a.length) (hb : n ≤ b.length) :
  ((a.take n).drop i = (b.take n).drop i) ↔ (a[i]'(by omega) = b[i]'(by omega) ∧ (a.take n).drop (i + 1) = (b.take n).drop (i + 1)) := by
 rw [List.drop_eq_getElem_cons (show i < (a.take n).length by rw [List.length_take];omega),List.drop_eq_getElem_cons (show i < (b.take n).length by rw [List.length_take];omega),List.getElem_take,List.getElem_take]
 constructor
 ·intro h
  injection h with h1 h2
  exact ⟨h1,h2⟩
 ·rintro ⟨h1,h2⟩
  rw [h1,h2]
set_option maxHeartbeats 2000000 in
set_option maxRecDepth 100000 in
theorem equal32_any (u v : Value) (a b : List Int) (fr n : Nat) (w : World) (ha : Rd I64 w u a) (hb : Rd I64 w v b) (h1 : fr + n ≤ a.length) (h2 : fr + n ≤ b.length) :
  Calls Tryz.prog 122 #[u,v,.int .i64 (fr : Int),.int .i64 (n : Int)] w (BoolB (decide ((a.take (fr + n)).drop fr = (b.take (fr + n)).drop fr)) w) := by
 obtain ⟨ao,ac,rfl,hal,ham,hra⟩ := Rd.form ha
 obtain ⟨bo,bc,rfl,hbl,hbm,hrb⟩ := Rd.form hb
 obtain ⟨R,hR⟩ : ∃ R,R = decide ((a.take (fr + n)).drop fr = (b.take (fr + n)).drop fr) := ⟨_,rfl⟩
 rw [← hR]
 obtain ⟨na,hna⟩ : ∃ x,x = a.length := ⟨_,rfl⟩
 obtain ⟨nb,hnb⟩ : ∃ x,x = b.length := ⟨_,rfl⟩
 obtain ⟨m,hm⟩ : ∃ m,m = fr + n := ⟨_,rfl⟩
 have hmi : IntKind.i64.wrap ((fr : Int) + (n : Int)) = (m : Int) := by rw [IntWalk.i64_in _ (by unfold maxLen at ham;omega)];omega
 have hm1 : m ≤ na := by omega
 have hm2 : m ≤ nb := by omega
 have hna63 : (na : Int) ≤ 9223372036854775807 := by unfold maxLen at ham;omega
 have hfm : fr ≤ m := by omega
 rw [← hm] at hR
 rw [← hna,← hnb]
 replace hna := hide hna
 replace hnb := hide hnb
 replace hm := hide hm
 replace hR := hide hR
 clear ha hb hal ham hbl hbm h1 h2
 go_enter Tryz.func122,Tryz.ntmps122
 go_wp2
 go_loopg [9] (m - fr) (fun gh t wr => ∃ (i d : Nat),gh = m - i ∧ fr ≤ i ∧ i ≤ m ∧ t = .int .i64 (i : Int) ∧ wr = w.drewN d ∧ Hid (R = decide ((a.take m).drop i = (b.take m).drop i)))
 case atStart => exact ⟨fr,0,rfl,Nat.le_refl _,hfm,rfl,rfl,hR.out⟩
 case round =>
  obtain ⟨i,d,hgh,hfi,hi,rfl,rfl,hR⟩ := hrel
  replace hgh := hide hgh
  by_cases hlt : i < m
  ·have hlt2 := hide hlt
   have ia : i < a.length := by rw [← hna.out];omega
   have ib : i < b.length := by rw [← hnb.out];omega
   obtain ⟨ba,oa,rfl,hba,hca⟩ := hra.at_ ia
   obtain ⟨bb,ob,rfl,hbb,hcb⟩ := hrb.at_ ib
   have hnx := equal_next (a := a) (b := b) hlt (by rw [← hna.out];exact hm1) (by rw [← hnb.out];exact hm2)
   obtain ⟨x,hx,c1⟩ : ∃ x,x = a[i] ∧ w.cell? ⟨ba,oa + i,none⟩ = some (.int .i64 x) := ⟨_,rfl,hca _ ia⟩
   obtain ⟨y,hy,c2⟩ : ∃ y,y = b[i] ∧ w.cell? ⟨bb,ob + i,none⟩ = some (.int .i64 y) := ⟨_,rfl,hcb _ ib⟩
   rw [← hx,← hy] at hnx
   have i1 : (0 : Int) ≤ (i : Int) := by omega
   have i2 : (i : Int) < (m : Int) := by omega
   have i3 : (i : Int) < (na : Int) := by omega
   have i4 : (i : Int) < (nb : Int) := by omega
   clear hca hcb
   replace hx := hide hx
   replace hy := hide hy
   by_cases he : x = y
   ·have hb1 : (x != y) = false := by simpa using he
    have hR2 : Hid (R = decide ((a.take m).drop (i + 1) = (b.take m).drop (i + 1))) := by
     show R = _
     rw [hR.out]
     exact decide_eq_decide.2 (hnx.trans ⟨fun h => h.2,fun h => ⟨he,h⟩⟩)
    replace he := hide he
    clear hnx hR
    go_wp2
    go_quiet (fail)
    go_wp2
    go_roundg (m - (i + 1))
    case measure => have := hgh.out;have := hlt2.out;omega
    case rel => exact ⟨i + 1,_,rfl,by omega,by have := hlt2.out;omega,by go_num,rfl,hR2⟩
   ·have hb1 : (x != y) = true := by simpa using he
    have hR2 : R = false := by
     rw [hR.out]
     exact decide_eq_false (fun h => he (hnx.1 h).1)
    subst hR2
    replace he := hide he
    clear hnx hR
    go_wp2
    go_quiet (fail)
    go_wp2
    go_ret
    first | exact ⟨rfl,Bel.drN (Bel.drN (Below.refl _ _) _) _⟩ | exact ⟨rfl,Bel.drN (Below.refl _ _) _⟩
  ·have him : i = m := by omega
   have hR2 : R = true := by
    rw [hR.out,him]
    refine decide_eq_true ?_
    rw [List.drop_eq_nil_of_le (by rw [List.length_take];omega),List.drop_eq_nil_of_le (by rw [List.length_take];omega)]
   subst hR2
   have i2 : ¬ (i : Int) < (m : Int) := by omega
   replace him := hide him
   clear hR
   go_wp2
   go_ret
   exact ⟨rfl,Bel.drN (Below.refl _ _) _⟩
def oft (l : List Int) (x : Int) : Nat := l.countP fun y => decide (y = x)
theorem oft_snoc (l : List Int) (y x : Int) : oft (l ++ [y]) x = oft l x + if y = x then 1 else 0 := by
 unfold oft
 rw [List.countP_append,List.countP_cons,List.countP_nil]
 simp
set_option maxHeartbeats 2000000 in
set_option maxRecDepth 100000 in
theorem often32_any (u : Value) (a : List Int) (x : Int) (w : World) (ha : Rd I64 w u a) :
  Calls Tryz.prog 123 #[u,.int .i64 x] w (Pure (.int .i64 (oft a x : Int)) w) := by
 obtain ⟨ao,ac,rfl,hal,ham,hra⟩ := Rd.form ha
 obtain ⟨R,hR⟩ : ∃ R,R = oft a x := ⟨_,rfl⟩
 rw [← hR]
 obtain ⟨n,hn⟩ : ∃ n,n = a.length := ⟨_,rfl⟩
 have hn63 : (n : Int) ≤ 9223372036854775807 := by unfold maxLen at ham;omega
 rw [← hn]
 replace hn := hide hn
 replace hR := hide hR
 clear ha hal ham
 go_enter Tryz.func123,Tryz.ntmps123
 go_wp2
 go_loopg [5,6] n (fun gh t5 t6 wr => ∃ (i c : Nat),gh = n - i ∧ i ≤ n ∧ t6 = .int .i64 (i : Int) ∧ t5 = .int .i64 (c : Int) ∧ c ≤ i ∧ Hid (c = oft (a.take i) x) ∧ w = wr)
 case atStart => exact ⟨0,0,rfl,Nat.zero_le _,rfl,rfl,Nat.le_refl _,rfl,rfl⟩
 case round =>
  obtain ⟨i,c,hgh,hi,rfl,rfl,hci,hc,rfl⟩ := hrel
  replace hgh := hide hgh
  by_cases hlt : i < n
  ·have hlt2 := hide hlt
   have ia : i < a.length := by rw [← hn.out];exact hlt
   obtain ⟨ba,oa,rfl,hba,hca⟩ := hra.at_ ia
   obtain ⟨y,hy,c1⟩ : ∃ y,y = a[i] ∧ w.cell? ⟨ba,oa + i,none⟩ = some (.int .i64 y) := ⟨_,rfl,hca _ ia⟩
   have hsn : oft (a.take (i + 1)) x = c + if y = x then 1 else 0 := by rw [List.take_succ_eq_append_getElem ia,← hy,oft_snoc,← hc.out]
   have i1 : (0 : Int) ≤ (i : Int) := by omega
   have i2 : (i : Int) < (n : Int) := by omega
   clear hca hc
   replace hy := hide hy
   by_cases he : y = x
   ·have hb1 : (y == x) = true := by simpa using he
    rw [if_pos he] at hsn
    have hsn2 : Hid (c + 1 = oft (a.take (i + 1)) x) := hsn.symm
    have hc9 : c + 1 ≤ i + 1 := by omega
    replace he := hide he
    clear hsn
    go_wp2
    go_roundg (n - (i + 1))
    case measure => have := hgh.out;have := hlt2.out;omega
    case rel => exact ⟨i + 1,c + 1,rfl,by have := hlt2.out;omega,by go_num,by go_num,hc9,hsn2,rfl⟩
   ·have hb1 : (y == x) = false := by simpa using he
    rw [if_neg he] at hsn
    have hsn2 : Hid (c = oft (a.take (i + 1)) x) := hsn.symm
    have hc9 : c ≤ i + 1 := by omega
    replace he := hide he
    clear hsn
    go_wp2
    go_roundg (n - (i + 1))
    case measure => have := hgh.out;have := hlt2.out;omega
    case rel => exact ⟨i + 1,c,rfl,by have := hlt2.out;omega,by go_num,rfl,hc9,hsn2,rfl⟩
  ·have hin : i = a.length := by have := hn.out;omega
   have hc2 := hc.out
   rw [hin,List.take_length,← hR.out] at hc2
   subst hc2
   have i2 : ¬ (i : Int) < (n : Int) := by have := hn.out;omega
   replace hin := hide hin
   clear hc
   go_wp2
   go_ret
   exact ⟨rfl,rfl⟩
theorem oft_count (l : List Int) (x : Int) : oft l x = l.count x := by
 unfold oft List.count
 refine List.countP_congr (fun y _ => ?_)
 simp
theorem take_all {l : List Int} {n : Nat} (h : l.length = n) : l.take (0 + n) = l := by rw [Nat.zero_add,← h,List.take_length]
set_option maxHeartbeats 4000000 in
set_option maxRecDepth 100000 in
theorem digits32_box (n0 : Int) (u v : Value) (a b : List Int) (w : World) (ha : Rd I64 w u a) (hb : Rd I64 w v b) (hl : b.length = a.length) :
  Calls Tryz.prog 96 #[.int .i64 2,.int .i64 n0,u,v] w (BoolB (decide (sortI a = sortI b)) w) := by
 have hoA := hide (fun X (hX : Below w.heap.size w X) (x : Int) => often32_any u a x X (ha.below hX))
 have hoB := hide (fun X (hX : Below w.heap.size w X) (x : Int) => often32_any v b x X (hb.below hX))
 obtain ⟨ao,ac,rfl,hal,ham,hra⟩ := Rd.form ha
 obtain ⟨bo,bc,rfl,hbl,hbm,-⟩ := Rd.form hb
 obtain ⟨R,hR⟩ : ∃ R,R = decide (sortI a = sortI b) := ⟨_,rfl⟩
 rw [← hR]
 have hR2 : R = decide (∀ x ∈ a,oft a x = oft b x) := by
  rw [hR]
  refine decide_eq_decide.2 ((box_iff hl).symm.trans ?_)
  constructor
  ·intro h x hx;rw [oft_count,oft_count];exact h x hx
  ·intro h x hx;have := h x hx;rwa [oft_count,oft_count] at this
 obtain ⟨n,hn⟩ : ∃ x,x = a.length := ⟨_,rfl⟩
 rw [hl,← hn] at hoB ⊢
 rw [← hn] at hoA
 have hn63 : (n : Int) ≤ 9223372036854775807 := by unfold maxLen at ham;omega
 have hnn : ((n : Int) != (n : Int)) = false := by simp
 replace hn := hide hn
 replace hR2 := hide hR2
 clear ha hb hal ham hbl hbm hR hl
 go_enter Tryz.func96,Tryz.ntmps96
 go_wp2
 go_loopg [9] n (fun gh t wr => ∃ (i d : Nat),gh = n - i ∧ i ≤ n ∧ t = .int .i64 (i : Int) ∧ wr = w.drewN d ∧ Hid (∀ x ∈ a.take i,oft a x = oft b x))
 case atStart => exact ⟨0,0,rfl,Nat.zero_le _,rfl,rfl,(by intro x hx;simp at hx)⟩
 case round =>
  obtain ⟨i,d,hgh,hi,rfl,rfl,hall⟩ := hrel
  replace hgh := hide hgh
  by_cases hlt : i < n
  ·have hlt2 := hide hlt
   have ia : i < a.length := by rw [← hn.out];exact hlt
   obtain ⟨ba,oa,rfl,hba,hca⟩ := hra.at_ ia
   obtain ⟨x,hx⟩ : ∃ x,x = a[i] := ⟨_,rfl⟩
   have cx : (w.drewN d).drew.cell? ⟨ba,oa + i,none⟩ = some (.int .i64 x) := by rw [hx];exact hca i ia
   have hxm : x ∈ a := by rw [hx];exact List.getElem_mem ia
   have hsn : a.take (i + 1) = a.take i ++ [x] := by rw [List.take_succ_eq_append_getElem ia,hx]
   have BD : Below w.heap.size w ((w.drewN d).drew) := Bel.drN (Bel.drN (Below.refl _ _) d) 1
   have cA := hide (hoA.out _ BD x)
   have cB := hide (hoB.out _ BD x)
   have i1 : (0 : Int) ≤ (i : Int) := by omega
   have i2 : (i : Int) < (n : Int) := by omega
   clear hca hx
   by_cases he : oft a x = oft b x
   ·have hb1 : ((oft a x : Int) != (oft b x : Int)) = false := by simp [he]
    have hall2 : Hid (∀ x ∈ a.take (i + 1),oft a x = oft b x) := by
     show ∀ x ∈ a.take (i + 1),oft a x = oft b x
     intro y hy
     rw [hsn] at hy
     rcases List.mem_append.1 hy with hy | hy
     ·exact hall.out y hy
     ·rcases List.mem_singleton.1 hy with rfl;exact he
    replace he := hide he
    replace hsn := hide hsn
    replace hxm := hide hxm
    obtain ⟨p,hp⟩ : ∃ p,p = oft a x := ⟨_,rfl⟩
    obtain ⟨q,hq⟩ : ∃ q,q = oft b x := ⟨_,rfl⟩
    rw [← hp] at cA hb1
    rw [← hq] at cB hb1
    clear hp hq
    go_upto_region 9 with (fail)
    refine wp_region_held_drew (S := fun X => X.cell? ⟨ba,oa + i,none⟩ = some (.int .i64 x)) (by kernel_rfl) (cx) (fun hHeld => ?_)
    refine' wpAnyH_take (i := 0) (oi := _) (v := .slice (some ⟨ba,oa,none⟩) n ac) rfl (by kernel_rfl) (by kernel_rfl) (by kernel_rfl) (fun _ _ _ h => h) (Or.inl ⟨by first | (go_simp;done) | rfl,fun X _ => by go_simp⟩) hHeld ?_
    try simp only [Act.put,zsA,zsB,zsC]
    refine' wpAnyH_take (i := 1) (oi := _) (v := .slice (some ⟨ba,oa,none⟩) n ac) rfl (by kernel_rfl) (by kernel_rfl) (by kernel_rfl) (fun _ _ _ h => h) (Or.inl ⟨by first | (go_simp;done) | rfl,fun X _ => by go_simp⟩) hHeld ?_
    try simp only [Act.put,zsA,zsB,zsC]
    refine' wpAnyH_take (i := 2) (oi := _) (v := .int .i64 (i : Int)) rfl (by kernel_rfl) (by kernel_rfl) (by kernel_rfl) (fun _ _ _ h => h) (Or.inl ⟨by first | (go_simp;done) | rfl,fun X _ => by go_simp⟩) hHeld ?_
    try simp only [Act.put,zsA,zsB,zsC]
    refine' wpAnyH_take (i := 3) (oi := _) (v := .pointer (some ⟨ba,oa + i,none⟩)) rfl (by kernel_rfl) (by kernel_rfl) (by kernel_rfl) (fun _ _ _ h => h) (Or.inl ⟨by first | (go_simp;done) | rfl,fun X _ => by go_simp⟩) hHeld ?_
    try simp only [Act.put,zsA,zsB,zsC]
    refine' wpAnyH_take (i := 4) (oi := _) (v := .int .i64 x) rfl (by kernel_rfl) (by kernel_rfl) (by kernel_rfl) (fun _ _ _ h => h) (Or.inl ⟨by first | (go_simp;done) | rfl,fun X hX => by have cX := hX;go_simp⟩) hHeld ?_
    try simp only [Act.put,zsA,zsB,zsC]
    refine' wpAnyH_take (i := 6) (oi := _) (v := .slice bo n bc) rfl (by kernel_rfl) (by kernel_rfl) (by kernel_rfl) (fun _ _ _ h => h) (Or.inl ⟨by first | (go_simp;done) | rfl,fun X _ => by go_simp⟩) hHeld ?_
    try simp only [Act.put,zsA,zsB,zsC]
    refine' wpAnyH_take (i := 7) (oi := _) (v := .slice (some ⟨ba,oa,none⟩) n ac) rfl (by kernel_rfl) (by kernel_rfl) (by kernel_rfl) (fun _ _ _ h => h) (Or.inl ⟨by first | (go_simp;done) | rfl,fun X _ => by go_simp⟩) hHeld ?_
    try simp only [Act.put,zsA,zsB,zsC]
    refine' wpAnyH_take (i := 8) (oi := _) (v := .int .i64 (i : Int)) rfl (by kernel_rfl) (by kernel_rfl) (by kernel_rfl) (fun _ _ _ h => h) (Or.inl ⟨by first | (go_simp;done) | rfl,fun X _ => by go_simp⟩) hHeld ?_
    try simp only [Act.put,zsA,zsB,zsC]
    refine' wpAnyH_take (i := 9) (oi := _) (v := .pointer (some ⟨ba,oa + i,none⟩)) rfl (by kernel_rfl) (by kernel_rfl) (by kernel_rfl) (fun _ _ _ h => h) (Or.inl ⟨by first | (go_simp;done) | rfl,fun X _ => by go_simp⟩) hHeld ?_
    try simp only [Act.put,zsA,zsB,zsC]
    refine' wpAnyH_take (i := 10) (oi := _) (v := .int .i64 x) rfl (by kernel_rfl) (by kernel_rfl) (by kernel_rfl) (fun _ _ _ h => h) (Or.inl ⟨by first | (go_simp;done) | rfl,fun X hX => by have cX := hX;go_simp⟩) hHeld ?_
    try simp only [Act.put,zsA,zsB,zsC]
    refine wpAnyH_ready (rs := [5]) (by kernel_rfl) (by simp) ?_
    refine AllReadyH.cons (o := _) rfl (fun K hK => ?_) AllReadyH.nil
    go_simp
    refine (cA.out).mono ?_
    rintro e w9 ⟨rfl,rfl⟩
    go_wp2_with fail
    refine hK.out _ _ hHeld (fun hHeld => ?_)
    clear hK K
    try simp only [Act.put,zsA,zsB,zsC]
    refine wpAnyH_ready (rs := [11]) (by kernel_rfl) (by simp) ?_
    refine AllReadyH.cons (o := _) rfl (fun K hK => ?_) AllReadyH.nil
    go_simp
    refine (cB.out).mono ?_
    rintro e w9 ⟨rfl,rfl⟩
    go_wp2_with fail
    refine hK.out _ _ hHeld (fun hHeld => ?_)
    clear hK K
    try simp only [Act.put,zsA,zsB,zsC]
    refine' wpAnyH_take (i := 12) (oi := _) (v := .bool false) rfl (by kernel_rfl) (by kernel_rfl) (by kernel_rfl) (fun _ _ _ h => h) (Or.inl ⟨by first | (go_simp;done) | rfl,fun X _ => by go_simp⟩) hHeld ?_
    try simp only [Act.put,zsA,zsB,zsC]
    refine wpAnyH_done (by kernel_rfl) ?_ _
    go_simp
    clear hHeld
    go_wp2
    go_roundg (n - (i + 1))
    case measure => have := hgh.out;have := hlt2.out;omega
    case rel => exact ⟨i + 1,d + 1,rfl,by have := hlt2.out;omega,by go_num,rfl,hall2⟩
   ·have hb1 : ((oft a x : Int) != (oft b x : Int)) = true := by simp;omega
    have hR3 : R = false := by
     rw [hR2.out]
     exact decide_eq_false (fun h => he (h x hxm))
    subst hR3
    replace he := hide he
    replace hsn := hide hsn
    replace hxm := hide hxm
    obtain ⟨p,hp⟩ : ∃ p,p = oft a x := ⟨_,rfl⟩
    obtain ⟨q,hq⟩ : ∃ q,q = oft b x := ⟨_,rfl⟩
    rw [← hp] at cA hb1
    rw [← hq] at cB hb1
    clear hp hq
    go_upto_region 9 with (fail)
    refine wp_region_held_drew (S := fun X => X.cell? ⟨ba,oa + i,none⟩ = some (.int .i64 x)) (by kernel_rfl) (cx) (fun hHeld => ?_)
    refine' wpAnyH_take (i := 0) (oi := _) (v := .slice (some ⟨ba,oa,none⟩) n ac) rfl (by kernel_rfl) (by kernel_rfl) (by kernel_rfl) (fun _ _ _ h => h) (Or.inl ⟨by first | (go_simp;done) | rfl,fun X _ => by go_simp⟩) hHeld ?_
    try simp only [Act.put,zsA,zsB,zsC]
    refine' wpAnyH_take (i := 1) (oi := _) (v := .slice (some ⟨ba,oa,none⟩) n ac) rfl (by kernel_rfl) (by kernel_rfl) (by kernel_rfl) (fun _ _ _ h => h) (Or.inl ⟨by first | (go_simp;done) | rfl,fun X _ => by go_simp⟩) hHeld ?_
    try simp only [Act.put,zsA,zsB,zsC]
    refine' wpAnyH_take (i := 2) (oi := _) (v := .int .i64 (i : Int)) rfl (by kernel_rfl) (by kernel_rfl) (by kernel_rfl) (fun _ _ _ h => h) (Or.inl ⟨by first | (go_simp;done) | rfl,fun X _ => by go_simp⟩) hHeld ?_
    try simp only [Act.put,zsA,zsB,zsC]
    refine' wpAnyH_take (i := 3) (oi := _) (v := .pointer (some ⟨ba,oa + i,none⟩)) rfl (by kernel_rfl) (by kernel_rfl) (by kernel_rfl) (fun _ _ _ h => h) (Or.inl ⟨by first | (go_simp;done) | rfl,fun X _ => by go_simp⟩) hHeld ?_
    try simp only [Act.put,zsA,zsB,zsC]
    refine' wpAnyH_take (i := 4) (oi := _) (v := .int .i64 x) rfl (by kernel_rfl) (by kernel_rfl) (by kernel_rfl) (fun _ _ _ h => h) (Or.inl ⟨by first | (go_simp;done) | rfl,fun X hX => by have cX := hX;go_simp⟩) hHeld ?_
    try simp only [Act.put,zsA,zsB,zsC]
    refine' wpAnyH_take (i := 6) (oi := _) (v := .slice bo n bc) rfl (by kernel_rfl) (by kernel_rfl) (by kernel_rfl) (fun _ _ _ h => h) (Or.inl ⟨by first | (go_simp;done) | rfl,fun X _ => by go_simp⟩) hHeld ?_
    try simp only [Act.put,zsA,zsB,zsC]
    refine' wpAnyH_take (i := 7) (oi := _) (v := .slice (some ⟨ba,oa,none⟩) n ac) rfl (by kernel_rfl) (by kernel_rfl) (by kernel_rfl) (fun _ _ _ h => h) (Or.inl ⟨by first | (go_simp;done) | rfl,fun X _ => by go_simp⟩) hHeld ?_
    try simp only [Act.put,zsA,zsB,zsC]
    refine' wpAnyH_take (i := 8) (oi := _) (v := .int .i64 (i : Int)) rfl (by kernel_rfl) (by kernel_rfl) (by kernel_rfl) (fun _ _ _ h => h) (Or.inl ⟨by first | (go_simp;done) | rfl,fun X _ => by go_simp⟩) hHeld ?_
    try simp only [Act.put,zsA,zsB,zsC]
    refine' wpAnyH_take (i := 9) (oi := _) (v := .pointer (some ⟨ba,oa + i,none⟩)) rfl (by kernel_rfl) (by kernel_rfl) (by kernel_rfl) (fun _ _ _ h => h) (Or.inl ⟨by first | (go_simp;done) | rfl,fun X _ => by go_simp⟩) hHeld ?_
    try simp only [Act.put,zsA,zsB,zsC]
    refine' wpAnyH_take (i := 10) (oi := _) (v := .int .i64 x) rfl (by kernel_rfl) (by kernel_rfl) (by kernel_rfl) (fun _ _ _ h => h) (Or.inl ⟨by first | (go_simp;done) | rfl,fun X hX => by have cX := hX;go_simp⟩) hHeld ?_
    try simp only [Act.put,zsA,zsB,zsC]
    refine wpAnyH_ready (rs := [5]) (by kernel_rfl) (by simp) ?_
    refine AllReadyH.cons (o := _) rfl (fun K hK => ?_) AllReadyH.nil
    go_simp
    refine (cA.out).mono ?_
    rintro e w9 ⟨rfl,rfl⟩
    go_wp2_with fail
    refine hK.out _ _ hHeld (fun hHeld => ?_)
    clear hK K
    try simp only [Act.put,zsA,zsB,zsC]
    refine wpAnyH_ready (rs := [11]) (by kernel_rfl) (by simp) ?_
    refine AllReadyH.cons (o := _) rfl (fun K hK => ?_) AllReadyH.nil
    go_simp
    refine (cB.out).mono ?_
    rintro e w9 ⟨rfl,rfl⟩
    go_wp2_with fail
    refine hK.out _ _ hHeld (fun hHeld => ?_)
    clear hK K
    try simp only [Act.put,zsA,zsB,zsC]
    refine' wpAnyH_take (i := 12) (oi := _) (v := .bool true) rfl (by kernel_rfl) (by kernel_rfl) (by kernel_rfl) (fun _ _ _ h => h) (Or.inl ⟨by first | (go_simp;done) | rfl,fun X _ => by go_simp⟩) hHeld ?_
    try simp only [Act.put,zsA,zsB,zsC]
    refine wpAnyH_done (by kernel_rfl) ?_ _
    go_simp
    clear hHeld
    go_wp2
    go_ret
    exact ⟨rfl,BD⟩
  ·have hin : i = a.length := by have := hn.out;omega
   have hR3 : R = true := by
    rw [hR2.out]
    refine decide_eq_true ?_
    have h9 := hall.out
    rw [hin,List.take_length] at h9
    exact h9
   subst hR3
   have i2 : ¬ (i : Int) < (n : Int) := by have := hn.out;omega
   replace hin := hide hin
   go_wp2
   go_ret
   exact ⟨rfl,Bel.drN (Below.refl _ _) _⟩
set_option maxHeartbeats 4000000 in
set_option maxRecDepth 100000 in
theorem digits32_any (mode n0 : Int) (u v : Value) (a b : List Int) (w : World) (ha : Rd I64 w u a) (hb : Rd I64 w v b) :
  Calls Tryz.prog 96 #[.int .i64 mode,.int .i64 n0,u,v] w (BoolB (digM mode n0 a b) w) := by
 by_cases hl : b.length = a.length
 rotate_left
 ·obtain ⟨ao,ac,rfl,hal,ham,-⟩ := Rd.form ha
  obtain ⟨bo,bc,rfl,hbl,hbm,-⟩ := Rd.form hb
  have e : digM mode n0 a b = false := by unfold digM;rw [if_pos hl]
  rw [e]
  have hnb : ((a.length : Int) != (b.length : Int)) = true := by simp;omega
  replace hl := hide hl
  replace e := hide e
  clear ha hb
  go_enter Tryz.func96,Tryz.ntmps96
  go_wp2
  go_ret
  exact ⟨rfl,Below.refl _ _⟩
 by_cases m2 : mode = 2
 ·subst m2
  have e : digM 2 n0 a b = decide (sortI a = sortI b) := by unfold digM;rw [if_neg (by simpa using hl),if_pos rfl]
  rw [e]
  exact digits32_box n0 u v a b w ha hb hl
 have m2b : (mode == 2) = false := by simpa using m2
 have hE := hide (fun X (hX : Below w.heap.size w X) (fr n : Nat) (h1 : fr + n ≤ a.length) (h2 : fr + n ≤ b.length) => equal32_any u v a b fr n X (ha.below hX) (hb.below hX) h1 h2)
 obtain ⟨ao,ac,rfl,hal,ham,-⟩ := Rd.form ha
 obtain ⟨bo,bc,rfl,hbl,hbm,-⟩ := Rd.form hb
 have hnn : ((a.length : Int) != (b.length : Int)) = false := by simp;omega
 by_cases m1 : mode = 1
 ·subst m1
  have e : digM 1 n0 a b = decide (a = b) := by unfold digM;rw [if_neg (by simpa using hl),if_neg (by decide),if_neg (by decide),if_pos rfl]
  have cE := hE.out w (Below.refl _ _) 0 a.length (by omega) (by omega)
  rw [take_all rfl,take_all hl,List.drop_zero,List.drop_zero] at cE
  rw [e]
  replace cE := hide cE
  obtain ⟨q,hq⟩ : ∃ q,q = decide (a = b) := ⟨_,rfl⟩
  rw [← hq] at cE ⊢
  replace hq := hide hq
  replace e := hide e
  replace hl := hide hl
  clear ha hb
  go_enter Tryz.func96,Tryz.ntmps96
  go_wp2_with fail
  refine cE.out.mono ?_
  rintro e w2 ⟨rfl,hb2⟩
  go_wp2
  go_ret
  exact ⟨rfl,hb2⟩
 have m1b : (mode == 1) = false := by simpa using m1
 by_cases h1 : n0 < 1
 ·have e : digM mode n0 a b = false := by
   unfold digM
   rw [if_neg (by simpa using hl),if_neg m2]
   split
   ·rw [if_pos (.inl h1)]
   ·first | rfl | (rw [if_neg m1])
  rw [e]
  have d1 : decide (n0 < 1) = true := decide_eq_true h1
  replace e := hide e
  replace hl := hide hl
  replace m1 := hide m1
  replace m2 := hide m2
  clear ha hb hE
  go_enter Tryz.func96,Tryz.ntmps96
  go_wp2
  go_ret
  exact ⟨rfl,Below.refl _ _⟩
 have d1 : decide (n0 < 1) = false := decide_eq_false h1
 by_cases h2 : (a.length : Int) < n0
 ·have e : digM mode n0 a b = false := by
   unfold digM
   rw [if_neg (by simpa using hl),if_neg m2]
   split
   ·rw [if_pos (.inr h2)]
   ·first | rfl | (rw [if_neg m1])
  rw [e]
  have d2 : decide ((a.length : Int) < n0) = true := decide_eq_true h2
  replace e := hide e
  replace hl := hide hl
  replace m1 := hide m1
  replace m2 := hide m2
  clear ha hb hE
  go_enter Tryz.func96,Tryz.ntmps96
  go_wp2
  go_ret
  exact ⟨rfl,Below.refl _ _⟩
 have d2 : decide ((a.length : Int) < n0) = false := decide_eq_false h2
 obtain ⟨k,rfl⟩ := Int.eq_ofNat_of_zero_le (show 0 ≤ n0 by omega)
 have hk : k ≤ a.length := by omega
 by_cases m3 : mode = 3
 ·subst m3
  have e : digM 3 (k : Int) a b = decide (a.take k = b.take k) := by
   unfold digM
   rw [if_neg (by simpa using hl),if_neg (by decide),if_pos (.inl rfl),if_neg (by omega),if_pos rfl,Int.toNat_natCast]
  have cE := hE.out w (Below.refl _ _) 0 k (by omega) (by omega)
  rw [Nat.zero_add,List.drop_zero,List.drop_zero] at cE
  rw [e]
  replace cE := hide cE
  obtain ⟨q,hq⟩ : ∃ q,q = decide (a.take k = b.take k) := ⟨_,rfl⟩
  rw [← hq] at cE ⊢
  replace hq := hide hq
  replace e := hide e
  replace hl := hide hl
  replace m1 := hide m1
  replace m2 := hide m2
  clear ha hb
  go_enter Tryz.func96,Tryz.ntmps96
  go_wp2_with fail
  refine cE.out.mono ?_
  rintro e w2 ⟨rfl,hb2⟩
  go_wp2
  go_ret
  exact ⟨rfl,hb2⟩
 have m3b : (mode == 3) = false := by simpa using m3
 by_cases m4 : mode = 4
 ·subst m4
  have e : digM 4 (k : Int) a b = decide (a.drop (a.length - k) = b.drop (a.length - k)) := by
   unfold digM
   rw [if_neg (by simpa using hl),if_neg (by decide),if_pos (.inr rfl),if_neg (by omega),if_neg (by decide),Int.toNat_natCast]
  have cE := hE.out w (Below.refl _ _) (a.length - k) k (by omega) (by omega)
  rw [Nat.sub_add_cancel hk,List.take_length,show b.take a.length = b by rw [← hl,List.take_length]] at cE
  rw [e]
  have hw9 : IntKind.i64.wrap ((a.length : Int) - (k : Int)) = ((a.length - k : Nat) : Int) := by rw [IntWalk.i64_in _ (by unfold maxLen at ham;omega)];omega
  obtain ⟨q,hq⟩ : ∃ q,q = decide (a.drop (a.length - k) = b.drop (a.length - k)) := ⟨_,rfl⟩
  rw [← hq] at cE ⊢
  obtain ⟨z,hz⟩ : ∃ z,z = a.length - k := ⟨_,rfl⟩
  rw [← hz] at cE hw9
  replace cE := hide cE
  replace hq := hide hq
  replace hz := hide hz
  replace e := hide e
  replace hl := hide hl
  replace m1 := hide m1
  replace m2 := hide m2
  replace m3 := hide m3
  clear ha hb
  go_enter Tryz.func96,Tryz.ntmps96
  go_wp2_with fail
  refine cE.out.mono ?_
  rintro e w2 ⟨rfl,hb2⟩
  go_wp2
  go_ret
  exact ⟨rfl,hb2⟩
 have m4b : (mode == 4) = false := by simpa using m4
 have e : digM mode (k : Int) a b = false := by
  unfold digM
  rw [if_neg (by simpa using hl),if_neg m2,if_neg (by omega),if_neg m1]
 rw [e]
 replace e := hide e
 replace hl := hide hl
 replace m1 := hide m1
 replace m2 := hide m2
 replace m3 := hide m3
 replace m4 := hide m4
 clear ha hb hE
 go_enter Tryz.func96,Tryz.ntmps96
 go_wp2
 go_ret
 exact ⟨rfl,Below.refl _ _⟩
set_option maxHeartbeats 4000000 in
set_option maxRecDepth 100000 in
theorem common32_any (u v : Value) (a b : List Int) (w : World) (ha : Rd I64 w u a) (hb : Rd I64 w v b) :
  Calls Tryz.prog 97 #[u,v] w (IntB (comM a b : Int) w) := by
 obtain ⟨ao,ac,rfl,hal,ham,hra⟩ := Rd.form ha
 obtain ⟨bo,bc,rfl,hbl,hbm,hrb⟩ := Rd.form hb
 obtain ⟨R,hR⟩ : ∃ R,R = comM a b := ⟨_,rfl⟩
 rw [← hR]
 obtain ⟨n,hn⟩ : ∃ x,x = a.length := ⟨_,rfl⟩
 obtain ⟨m,hm⟩ : ∃ x,x = b.length := ⟨_,rfl⟩
 have hn63 : (n : Int) ≤ 9223372036854775807 := by unfold maxLen at ham;omega
 have hm63 : (m : Int) ≤ 9223372036854775807 := by unfold maxLen at hbm;omega
 rw [← hn,← hm]
 replace hn := hide hn
 replace hm := hide hm
 replace hR := hide hR
 clear ha hb hal ham hbl hbm
 go_enter Tryz.func97,Tryz.ntmps97
 go_wp2
 go_loopg [5,6,7,8] n (fun gh t5 t6 _ _ wr => ∃ (i c d : Nat),gh = n - i ∧ i ≤ n ∧ t6 = .int .i64 (i : Int) ∧ t5 = .int .i64 (c : Int) ∧ c ≤ i ∧ Hid (c = comM (a.take i) b) ∧ wr = w.drewN d)
 case atStart => exact ⟨0,0,0,rfl,Nat.zero_le _,rfl,rfl,Nat.le_refl _,rfl,rfl⟩
 case round =>
  obtain ⟨i,c,d0,hgh,hi,rfl,rfl,hci,hc,rfl⟩ := hrel
  replace hgh := hide hgh
  by_cases hlt : i < n
  ·have hlt2 := hide hlt
   have hil : i < a.length := by rw [← hn.out];exact hlt
   obtain ⟨ba,oa,rfl,hba,hca⟩ := hra.at_ hil
   obtain ⟨x,hx,cx⟩ : ∃ x,x = a[i] ∧ w.cell? ⟨ba,oa + i,none⟩ = some (.int .i64 x) := ⟨_,rfl,hca _ hil⟩
   have hct := comM_take (b := b) hil
   rw [← hx,← hc.out] at hct
   have i1 : (0 : Int) ≤ (i : Int) := by omega
   have i2 : (i : Int) < (n : Int) := by omega
   clear hca
   replace hx := hide hx
   go_wp2
   go_loopg [7,8] m (fun gh2 t7 t8 wr => ∃ (k d : Nat),gh2 = m - k ∧ k ≤ m ∧ t8 = .int .i64 (k : Int) ∧ t7 = .bool (decide (x ∈ b.take k)) ∧ wr = w.drewN d)
   case atStart => exact ⟨0,d0,rfl,Nat.zero_le _,rfl,by simp,rfl⟩
   case round =>
    obtain ⟨k,d,hgh2,hk,rfl,rfl,rfl⟩ := hrel
    replace hgh2 := hide hgh2
    obtain ⟨q,hq⟩ : ∃ q,q = decide (x ∈ b.take k) := ⟨_,rfl⟩
    rw [← hq]
    by_cases hkl : k < m
    ·have hkl2 := hide hkl
     have hkb : k < b.length := by rw [← hm.out];exact hkl
     obtain ⟨bb,ob,rfl,hbb,hcb⟩ := hrb.at_ hkb
     obtain ⟨y,hy,cy⟩ : ∃ y,y = b[k] ∧ w.cell? ⟨bb,ob + k,none⟩ = some (.int .i64 y) := ⟨_,rfl,hcb _ hkb⟩
     have hsn : b.take (k + 1) = b.take k ++ [y] := by rw [List.take_succ_eq_append_getElem hkb,hy]
     have k1 : (0 : Int) ≤ (k : Int) := by omega
     have k2 : (k : Int) < (m : Int) := by omega
     clear hcb
     replace hy := hide hy
     cases q with
     | true =>
      have hq2 : Hid (decide (x ∈ b.take (k + 1)) = true) := by
       show _ = _
       rw [hsn]
       exact decide_eq_true (List.mem_append_left _ (of_decide_eq_true hq.symm))
      replace hq := hide hq
      replace hsn := hide hsn
      go_wp2
      go_quiet (fail)
      go_wp2
      go_roundg (m - (k + 1))
      case measure => have := hgh2.out;have := hkl2.out;omega
      case rel => exact ⟨k + 1,_,rfl,by have := hkl2.out;omega,by go_num,by rw [hq2.out],rfl⟩
     | false =>
      have hnm : x ∉ b.take k := of_decide_eq_false hq.symm
      by_cases he : y = x
      ·have hb1 : (y == x) = true := by simpa using he
       have hq2 : Hid (decide (x ∈ b.take (k + 1)) = true) := by
        show _ = _
        rw [hsn,he]
        exact decide_eq_true (List.mem_append_right _ (List.mem_singleton.2 rfl))
       replace hq := hide hq
       replace hsn := hide hsn
       replace he := hide he
       replace hnm := hide hnm
       go_wp2
       go_quiet (fail)
       go_wp2
       go_roundg (m - (k + 1))
       case measure => have := hgh2.out;have := hkl2.out;omega
       case rel => exact ⟨k + 1,_,rfl,by have := hkl2.out;omega,by go_num,by rw [hq2.out],rfl⟩
      ·have hb1 : (y == x) = false := by simpa using he
       have hq2 : Hid (decide (x ∈ b.take (k + 1)) = false) := by
        show _ = _
        rw [hsn]
        refine decide_eq_false (fun h => ?_)
        rcases List.mem_append.1 h with h | h
        ·exact hnm h
        ·exact he (List.mem_singleton.1 h).symm
       replace hq := hide hq
       replace hsn := hide hsn
       replace he := hide he
       replace hnm := hide hnm
       go_wp2
       go_quiet (fail)
       go_wp2
       go_roundg (m - (k + 1))
       case measure => have := hgh2.out;have := hkl2.out;omega
       case rel => exact ⟨k + 1,_,rfl,by have := hkl2.out;omega,by go_num,by rw [hq2.out],rfl⟩
    ·have hkm : k = b.length := by have := hm.out;omega
     rw [hkm,List.take_length] at hq
     have k2 : ¬ (k : Int) < (m : Int) := by have := hm.out;omega
     replace hkm := hide hkm
     cases q with
     | true =>
      rw [if_pos (of_decide_eq_true hq.symm)] at hct
      have hct2 : Hid (c + 1 = comM (a.take (i + 1)) b) := hct.symm
      have hc9 : c + 1 ≤ i + 1 := by omega
      replace hq := hide hq
      clear hct
      go_wp2
      go_roundg (n - (i + 1))
      case measure => have := hgh.out;have := hlt2.out;omega
      case rel => exact ⟨i + 1,c + 1,_,rfl,by have := hlt2.out;omega,by go_num,by go_num,hc9,hct2,rfl⟩
     | false =>
      rw [if_neg (of_decide_eq_false hq.symm)] at hct
      have hct2 : Hid (c = comM (a.take (i + 1)) b) := hct.symm
      have hc9 : c ≤ i + 1 := by omega
      replace hq := hide hq
      clear hct
      go_wp2
      go_roundg (n - (i + 1))
      case measure => have := hgh.out;have := hlt2.out;omega
      case rel => exact ⟨i + 1,c,_,rfl,by have := hlt2.out;omega,by go_num,rfl,hc9,hct2,rfl⟩
  ·have hin : i = a.length := by have := hn.out;omega
   have hc2 := hc.out
   rw [hin,List.take_length,← hR.out] at hc2
   subst hc2
   have i2 : ¬ (i : Int) < (n : Int) := by have := hn.out;omega
   replace hin := hide hin
   clear hc
   go_wp2
   go_ret
   exact ⟨rfl,Bel.drN (Below.refl _ _) _⟩
theorem Row.at4 (w : World) (o o' o'' : Obj) (t : TypeId) (cs : List Value) : Row ((((w.alloc o).alloc o').alloc o'').alloc (.cells cs.toArray t)) (w.heap.size + 1 + 1 + 1) t cs := by
 have := Row.new (((w.alloc o).alloc o').alloc o'') t cs
 rwa [alloc_size,alloc_size,alloc_size] at this
set_option maxHeartbeats 16000000 in
set_option maxRecDepth 100000 in
theorem wins32_any (g : GameD) (t : TierD) (av tv lv kv mv bv xv : Value) (x : LineD) (r : ResD) (w : World) (hl : LineR w lv kv x.1 x.2) (hr : ResR w mv bv xv r) (ha : ∃ a n c,av = .slice a n c) (ht : ∃ a n c,tv = .slice a n c) :
  Calls Tryz.prog 61 #[gameVal g av tv,tierVal t,lineVal lv kv,resVal mv bv xv r] w (BoolB (meetM g x r t) w) := by
 have cD := hide (fun X (hX : Below w.heap.size w X) => digits32_any t.mode t.main lv mv x.1 r.main X (hl.below hX).1 (hr.below hX).1)
 have cC1 := hide (fun X (hX : Below w.heap.size w X) => common32_any lv mv x.1 r.main X (hl.below hX).1 (hr.below hX).1)
 have cC2 := hide (fun X (hX : Below w.heap.size w X) => common32_any kv bv x.2 r.bonus X (hl.below hX).2 (hr.below hX).2.1)
 have cC3 := hide (fun X (hX : Below w.heap.size w X) => common32_any lv xv x.1 r.extra X (hl.below hX).1 (hr.below hX).2.2)
 obtain ⟨la,ln,lc,rfl⟩ := Rd.shape hl.1
 obtain ⟨ka,kn,kc,rfl⟩ := Rd.shape hl.2
 obtain ⟨ma,mn,mc,rfl⟩ := Rd.shape hr.1
 obtain ⟨ba,bn,bc,rfl⟩ := Rd.shape hr.2.1
 obtain ⟨xa,xn,xc,rfl⟩ := Rd.shape hr.2.2
 obtain ⟨aa,an,ac,rfl⟩ := ha
 obtain ⟨ta,tn,tc,rfl⟩ := ht
 obtain ⟨P,hP⟩ : ∃ P,P = meetM g x r t := ⟨_,rfl⟩
 rw [← hP]
 unfold meetM at hP
 unfold gameVal tierVal lineVal resVal
 clear hl hr
 replace hP := hide hP
 go_enter Tryz.func61,Tryz.ntmps61
 go_upto_region 1 with (fail)
 obtain ⟨W,hW⟩ : ∃ W,W = ((((w.alloc (Obj.cells (gameCells g (.slice aa an ac) (.slice ta tn tc)).toArray 25)).alloc (Obj.cells (tierCells t).toArray 81)).alloc (Obj.cells #[.slice la ln lc,.slice ka kn kc] 58)).alloc (Obj.cells #[.slice ma mn mc,.slice ba bn bc,.slice xa xn xc,.int .i64 r.factor,.string r.serial] 29)) := ⟨_,rfl⟩
 have bW : Below w.heap.size w W := by rw [hW];exact Bel.al (Bel.al (Bel.al (Bel.al (Below.refl _ _) _) _) _) _
 have r0 : GameAt W w.heap.size g (.slice aa an ac) (.slice ta tn tc) := by rw [hW];exact Row.alloc (Row.alloc (Row.alloc (Row.new _ _ _) _) _) _
 have r1 : TierAt W (w.heap.size + 1) t := by rw [hW];exact Row.alloc (Row.alloc (Row.at2 _ _ _ _) _) _
 have r2 : LineAt W (w.heap.size + 1 + 1) (.slice la ln lc) (.slice ka kn kc) := by rw [hW];exact Row.alloc (Row.at3 _ _ _ _ _) _
 have r3 : Row W (w.heap.size + 1 + 1 + 1) 29 [.slice ma mn mc,.slice ba bn bc,.slice xa xn xc,.int .i64 r.factor,.string r.serial] := by rw [hW];exact Row.at4 _ _ _ _ _ _
 have hW2 : W = ((((w.alloc (Obj.cells #[.string g.name,.int .i64 g.kind,.int .i64 g.price,.int .i64 g.main,.int .i64 g.of,.int .i64 g.bonus,.int .i64 g.bonusOf,.int .i64 g.extra,.int .i64 g.draws,.int .i64 g.system,.int .i64 g.days,.int .i64 g.at_,.int .i64 g.close,.int .i64 g.cancel,.int .i64 g.expiry,.int .i64 g.pool,.int .i64 g.reserve,.int .i64 g.round,.int .i64 g.cap,.int .i64 g.rolls,(.slice aa an ac),(.slice ta tn tc)] 25)).alloc (Obj.cells #[.int .i64 t.main,.int .i64 t.bonus,.int .i64 t.extra,.int .i64 t.mode,.int .i64 t.kind,.int .i64 t.value] 81)).alloc (Obj.cells #[.slice la ln lc,.slice ka kn kc] 58)).alloc (Obj.cells #[.slice ma mn mc,.slice ba bn bc,.slice xa xn xc,.int .i64 r.factor,.string r.serial] 29)) := hW
 rw [← hW2]
 clear hW hW2
 have dk := r0.kind
 have t0 : W.cell? ⟨w.heap.size + 1,0,none⟩ = some (.int .i64 t.main) := (Row.cell? r1 0).trans rfl
 have t1 : W.cell? ⟨w.heap.size + 1,1,none⟩ = some (.int .i64 t.bonus) := (Row.cell? r1 1).trans rfl
 have t2 : W.cell? ⟨w.heap.size + 1,2,none⟩ = some (.int .i64 t.extra) := (Row.cell? r1 2).trans rfl
 have t3 : W.cell? ⟨w.heap.size + 1,3,none⟩ = some (.int .i64 t.mode) := (Row.cell? r1 3).trans rfl
 have l0 := r2.main
 have l1 := r2.bonus
 have x0 : W.cell? ⟨w.heap.size + 1 + 1 + 1,0,none⟩ = some (.slice ma mn mc) := (Row.cell? r3 0).trans rfl
 have x1 : W.cell? ⟨w.heap.size + 1 + 1 + 1,1,none⟩ = some (.slice ba bn bc) := (Row.cell? r3 1).trans rfl
 have x2 : W.cell? ⟨w.heap.size + 1 + 1 + 1,2,none⟩ = some (.slice xa xn xc) := (Row.cell? r3 2).trans rfl
 clear r0 r1 r2 r3
 by_cases hk : g.kind = 2
 ·have hkb : (g.kind == 2) = true := by simpa using hk
  have hP1 := hP.out
  rw [if_pos hk] at hP1
  have cD1 := cD.out W bW
  rw [← hP1] at cD1
  replace cD1 := hide cD1
  replace hk := hide hk
  replace hP1 := hide hP1
  clear hP
  go_wp2_with fail
  refine cD1.out.mono ?_
  rintro e w2 ⟨rfl,hb2⟩
  go_wp2
  go_ret
  exact ⟨rfl,Bel.to bW hb2⟩
 have hkb : (g.kind == 2) = false := by simpa using hk
 have hP1 := hP.out
 rw [if_neg hk] at hP1
 replace hk := hide hk
 clear hP cD
 obtain ⟨n1,hn1⟩ : ∃ n,n = comM x.1 r.main := ⟨_,rfl⟩
 obtain ⟨n2,hn2⟩ : ∃ n,n = comM x.2 r.bonus := ⟨_,rfl⟩
 obtain ⟨n3,hn3⟩ : ∃ n,n = comM x.1 r.extra := ⟨_,rfl⟩
 rw [← hn1] at cC1 hP1
 rw [← hn2] at cC2 hP1
 rw [← hn3] at cC3 hP1
 clear hn1 hn2 hn3
 have cells : W.drew.cell? ⟨w.heap.size + 1,0,none⟩ = some (.int .i64 t.main) ∧ W.drew.cell? ⟨w.heap.size + 1,1,none⟩ = some (.int .i64 t.bonus) ∧ W.drew.cell? ⟨w.heap.size + 1,2,none⟩ = some (.int .i64 t.extra) ∧ W.drew.cell? ⟨w.heap.size + 1 + 1,0,none⟩ = some (.slice la ln lc) ∧ W.drew.cell? ⟨w.heap.size + 1 + 1,1,none⟩ = some (.slice ka kn kc) ∧ W.drew.cell? ⟨w.heap.size + 1 + 1 + 1,0,none⟩ = some (.slice ma mn mc) ∧ W.drew.cell? ⟨w.heap.size + 1 + 1 + 1,1,none⟩ = some (.slice ba bn bc) ∧ W.drew.cell? ⟨w.heap.size + 1 + 1 + 1,2,none⟩ = some (.slice xa xn xc) := ⟨t0,t1,t2,l0,l1,x0,x1,x2⟩
 have BD : Below w.heap.size w W.drew := Bel.drN bW 1
 clear t3
 by_cases q1 : t.main ≤ (n1 : Int)
 rotate_left
 ·have d1 : decide (t.main ≤ (n1 : Int)) = false := decide_eq_false q1
  rw [decide_eq_false (fun h => q1 h.1)] at hP1
  subst hP1
  replace q1 := hide q1
  go_upto_region 3 with (fail)
  refine wp_region_held_drew (S := fun X => X.cell? ⟨w.heap.size + 1,0,none⟩ = some (.int .i64 t.main) ∧ X.cell? ⟨w.heap.size + 1,1,none⟩ = some (.int .i64 t.bonus) ∧ X.cell? ⟨w.heap.size + 1,2,none⟩ = some (.int .i64 t.extra) ∧ X.cell? ⟨w.heap.size + 1 + 1,0,none⟩ = some (.slice la ln lc) ∧ X.cell? ⟨w.heap.size + 1 + 1,1,none⟩ = some (.slice ka kn kc) ∧ X.cell? ⟨w.heap.size + 1 + 1 + 1,0,none⟩ = some (.slice ma mn mc) ∧ X.cell? ⟨w.heap.size + 1 + 1 + 1,1,none⟩ = some (.slice ba bn bc) ∧ X.cell? ⟨w.heap.size + 1 + 1 + 1,2,none⟩ = some (.slice xa xn xc)) (by kernel_rfl) (cells) (fun hHeld => ?_)
  refine' wpAnyH_take (i := 0) (oi := _) (v := .pointer (some ⟨w.heap.size + 1 + 1,0,none⟩)) rfl (by kernel_rfl) (by kernel_rfl) (by kernel_rfl) (fun _ _ _ h => h) (Or.inl ⟨by first | (go_simp;done) | rfl,fun X _ => by go_simp⟩) hHeld ?_
  try simp only [Act.put,zsA,zsB,zsC]
  refine' wpAnyH_take (i := 1) (oi := _) (v := .slice la ln lc) rfl (by kernel_rfl) (by kernel_rfl) (by kernel_rfl) (fun _ _ _ h => h) (Or.inl ⟨by first | (go_simp;done) | rfl,fun X hX => by have cX := hX.2.2.2.1;go_simp⟩) hHeld ?_
  try simp only [Act.put,zsA,zsB,zsC]
  refine' wpAnyH_take (i := 2) (oi := _) (v := .pointer (some ⟨w.heap.size + 1 + 1 + 1,0,none⟩)) rfl (by kernel_rfl) (by kernel_rfl) (by kernel_rfl) (fun _ _ _ h => h) (Or.inl ⟨by first | (go_simp;done) | rfl,fun X _ => by go_simp⟩) hHeld ?_
  try simp only [Act.put,zsA,zsB,zsC]
  refine' wpAnyH_take (i := 3) (oi := _) (v := .slice ma mn mc) rfl (by kernel_rfl) (by kernel_rfl) (by kernel_rfl) (fun _ _ _ h => h) (Or.inl ⟨by first | (go_simp;done) | rfl,fun X hX => by have cX := hX.2.2.2.2.2.1;go_simp⟩) hHeld ?_
  try simp only [Act.put,zsA,zsB,zsC]
  refine' wpAnyH_take (i := 5) (oi := _) (v := .pointer (some ⟨w.heap.size + 1,0,none⟩)) rfl (by kernel_rfl) (by kernel_rfl) (by kernel_rfl) (fun _ _ _ h => h) (Or.inl ⟨by first | (go_simp;done) | rfl,fun X _ => by go_simp⟩) hHeld ?_
  try simp only [Act.put,zsA,zsB,zsC]
  refine' wpAnyH_take (i := 6) (oi := _) (v := .int .i64 t.main) rfl (by kernel_rfl) (by kernel_rfl) (by kernel_rfl) (fun _ _ _ h => h) (Or.inl ⟨by first | (go_simp;done) | rfl,fun X hX => by have cX := hX.1;go_simp⟩) hHeld ?_
  try simp only [Act.put,zsA,zsB,zsC]
  refine wpAnyH_ready (rs := [4]) (by kernel_rfl) (by simp) ?_
  refine AllReadyH.cons (o := _) rfl (fun K hK => ?_) AllReadyH.nil
  go_simp
  refine (cC1.out _ BD).mono ?_
  rintro e hb1w ⟨rfl,hb1⟩
  have B1 := Bel.to BD hb1
  go_wp2_with fail
  refine hK.out _ _ (⟨Bel.cellOf hb1 hHeld.1,Bel.cellOf hb1 hHeld.2.1,Bel.cellOf hb1 hHeld.2.2.1,Bel.cellOf hb1 hHeld.2.2.2.1,Bel.cellOf hb1 hHeld.2.2.2.2.1,Bel.cellOf hb1 hHeld.2.2.2.2.2.1,Bel.cellOf hb1 hHeld.2.2.2.2.2.2.1,Bel.cellOf hb1 hHeld.2.2.2.2.2.2.2⟩) (fun hHeld => ?_)
  clear hK K
  try simp only [Act.put,zsA,zsB,zsC]
  refine' wpAnyH_take (i := 7) (oi := _) (v := .bool false) rfl (by kernel_rfl) (by kernel_rfl) (by kernel_rfl) (fun _ _ _ h => h) (Or.inl ⟨by first | (go_simp;done) | rfl,fun X _ => by go_simp⟩) hHeld ?_
  try simp only [Act.put,zsA,zsB,zsC]
  refine' wpAnyH_take (i := 8) (oi := _) (v := .bool false) rfl (by kernel_rfl) (by kernel_rfl) (by kernel_rfl) (fun _ _ _ h => h) (Or.inl ⟨by first | (go_simp;done) | rfl,fun X _ => by go_simp⟩) hHeld ?_
  try simp only [Act.put,zsA,zsB,zsC]
  refine' wpAnyH_take (i := 9) (oi := _) (v := undef) rfl (by kernel_rfl) (by kernel_rfl) (by kernel_rfl) (fun _ _ _ h => h) (Or.inr ⟨by first | (go_simp;done) | rfl,rfl⟩) hHeld ?_
  try simp only [Act.put,zsA,zsB,zsC]
  refine' wpAnyH_take (i := 10) (oi := _) (v := undef) rfl (by kernel_rfl) (by kernel_rfl) (by kernel_rfl) (fun _ _ _ h => h) (Or.inr ⟨by first | (go_simp;done) | rfl,rfl⟩) hHeld ?_
  try simp only [Act.put,zsA,zsB,zsC]
  refine' wpAnyH_take (i := 11) (oi := _) (v := undef) rfl (by kernel_rfl) (by kernel_rfl) (by kernel_rfl) (fun _ _ _ h => h) (Or.inr ⟨by first | (go_simp;done) | rfl,rfl⟩) hHeld ?_
  try simp only [Act.put,zsA,zsB,zsC]
  refine' wpAnyH_take (i := 12) (oi := _) (v := undef) rfl (by kernel_rfl) (by kernel_rfl) (by kernel_rfl) (fun _ _ _ h => h) (Or.inr ⟨by first | (go_simp;done) | rfl,rfl⟩) hHeld ?_
  try simp only [Act.put,zsA,zsB,zsC]
  refine' wpAnyH_take (i := 13) (oi := _) (v := undef) rfl (by kernel_rfl) (by kernel_rfl) (by kernel_rfl) (fun _ _ _ h => h) (Or.inr ⟨by first | (go_simp;done) | rfl,rfl⟩) hHeld ?_
  try simp only [Act.put,zsA,zsB,zsC]
  refine' wpAnyH_take (i := 14) (oi := _) (v := undef) rfl (by kernel_rfl) (by kernel_rfl) (by kernel_rfl) (fun _ _ _ h => h) (Or.inr ⟨by first | (go_simp;done) | rfl,rfl⟩) hHeld ?_
  try simp only [Act.put,zsA,zsB,zsC]
  refine' wpAnyH_take (i := 15) (oi := _) (v := undef) rfl (by kernel_rfl) (by kernel_rfl) (by kernel_rfl) (fun _ _ _ h => h) (Or.inr ⟨by first | (go_simp;done) | rfl,rfl⟩) hHeld ?_
  try simp only [Act.put,zsA,zsB,zsC]
  refine' wpAnyH_take (i := 16) (oi := _) (v := undef) rfl (by kernel_rfl) (by kernel_rfl) (by kernel_rfl) (fun _ _ _ h => h) (Or.inr ⟨by first | (go_simp;done) | rfl,rfl⟩) hHeld ?_
  try simp only [Act.put,zsA,zsB,zsC]
  refine' wpAnyH_take (i := 17) (oi := _) (v := .bool false) rfl (by kernel_rfl) (by kernel_rfl) (by kernel_rfl) (fun _ _ _ h => h) (Or.inl ⟨by first | (go_simp;done) | rfl,fun X _ => by go_simp⟩) hHeld ?_
  try simp only [Act.put,zsA,zsB,zsC]
  refine' wpAnyH_take (i := 18) (oi := _) (v := .bool false) rfl (by kernel_rfl) (by kernel_rfl) (by kernel_rfl) (fun _ _ _ h => h) (Or.inl ⟨by first | (go_simp;done) | rfl,fun X _ => by go_simp⟩) hHeld ?_
  try simp only [Act.put,zsA,zsB,zsC]
  refine' wpAnyH_take (i := 19) (oi := _) (v := undef) rfl (by kernel_rfl) (by kernel_rfl) (by kernel_rfl) (fun _ _ _ h => h) (Or.inr ⟨by first | (go_simp;done) | rfl,rfl⟩) hHeld ?_
  try simp only [Act.put,zsA,zsB,zsC]
  refine' wpAnyH_take (i := 20) (oi := _) (v := undef) rfl (by kernel_rfl) (by kernel_rfl) (by kernel_rfl) (fun _ _ _ h => h) (Or.inr ⟨by first | (go_simp;done) | rfl,rfl⟩) hHeld ?_
  try simp only [Act.put,zsA,zsB,zsC]
  refine' wpAnyH_take (i := 21) (oi := _) (v := undef) rfl (by kernel_rfl) (by kernel_rfl) (by kernel_rfl) (fun _ _ _ h => h) (Or.inr ⟨by first | (go_simp;done) | rfl,rfl⟩) hHeld ?_
  try simp only [Act.put,zsA,zsB,zsC]
  refine' wpAnyH_take (i := 22) (oi := _) (v := undef) rfl (by kernel_rfl) (by kernel_rfl) (by kernel_rfl) (fun _ _ _ h => h) (Or.inr ⟨by first | (go_simp;done) | rfl,rfl⟩) hHeld ?_
  try simp only [Act.put,zsA,zsB,zsC]
  refine' wpAnyH_take (i := 23) (oi := _) (v := undef) rfl (by kernel_rfl) (by kernel_rfl) (by kernel_rfl) (fun _ _ _ h => h) (Or.inr ⟨by first | (go_simp;done) | rfl,rfl⟩) hHeld ?_
  try simp only [Act.put,zsA,zsB,zsC]
  refine' wpAnyH_take (i := 24) (oi := _) (v := undef) rfl (by kernel_rfl) (by kernel_rfl) (by kernel_rfl) (fun _ _ _ h => h) (Or.inr ⟨by first | (go_simp;done) | rfl,rfl⟩) hHeld ?_
  try simp only [Act.put,zsA,zsB,zsC]
  refine' wpAnyH_take (i := 25) (oi := _) (v := undef) rfl (by kernel_rfl) (by kernel_rfl) (by kernel_rfl) (fun _ _ _ h => h) (Or.inr ⟨by first | (go_simp;done) | rfl,rfl⟩) hHeld ?_
  try simp only [Act.put,zsA,zsB,zsC]
  refine' wpAnyH_take (i := 26) (oi := _) (v := undef) rfl (by kernel_rfl) (by kernel_rfl) (by kernel_rfl) (fun _ _ _ h => h) (Or.inr ⟨by first | (go_simp;done) | rfl,rfl⟩) hHeld ?_
  try simp only [Act.put,zsA,zsB,zsC]
  refine' wpAnyH_take (i := 27) (oi := _) (v := .bool false) rfl (by kernel_rfl) (by kernel_rfl) (by kernel_rfl) (fun _ _ _ h => h) (Or.inl ⟨by first | (go_simp;done) | rfl,fun X _ => by go_simp⟩) hHeld ?_
  try simp only [Act.put,zsA,zsB,zsC]
  refine' wpAnyH_take (i := 28) (oi := _) (v := .bool false) rfl (by kernel_rfl) (by kernel_rfl) (by kernel_rfl) (fun _ _ _ h => h) (Or.inl ⟨by first | (go_simp;done) | rfl,fun X _ => by go_simp⟩) hHeld ?_
  try simp only [Act.put,zsA,zsB,zsC]
  refine wpAnyH_done (by kernel_rfl) ?_ _
  go_simp
  clear hHeld
  go_wp2
  go_ret
  exact ⟨rfl,B1⟩
 have d1 : decide (t.main ≤ (n1 : Int)) = true := decide_eq_true q1
 by_cases q2 : t.bonus ≤ (n2 : Int)
 rotate_left
 ·have d2 : decide (t.bonus ≤ (n2 : Int)) = false := decide_eq_false q2
  rw [decide_eq_false (fun h => q2 h.2.1)] at hP1
  subst hP1
  replace q1 := hide q1
  replace q2 := hide q2
  go_upto_region 3 with (fail)
  refine wp_region_held_drew (S := fun X => X.cell? ⟨w.heap.size + 1,0,none⟩ = some (.int .i64 t.main) ∧ X.cell? ⟨w.heap.size + 1,1,none⟩ = some (.int .i64 t.bonus) ∧ X.cell? ⟨w.heap.size + 1,2,none⟩ = some (.int .i64 t.extra) ∧ X.cell? ⟨w.heap.size + 1 + 1,0,none⟩ = some (.slice la ln lc) ∧ X.cell? ⟨w.heap.size + 1 + 1,1,none⟩ = some (.slice ka kn kc) ∧ X.cell? ⟨w.heap.size + 1 + 1 + 1,0,none⟩ = some (.slice ma mn mc) ∧ X.cell? ⟨w.heap.size + 1 + 1 + 1,1,none⟩ = some (.slice ba bn bc) ∧ X.cell? ⟨w.heap.size + 1 + 1 + 1,2,none⟩ = some (.slice xa xn xc)) (by kernel_rfl) (cells) (fun hHeld => ?_)
  refine' wpAnyH_take (i := 0) (oi := _) (v := .pointer (some ⟨w.heap.size + 1 + 1,0,none⟩)) rfl (by kernel_rfl) (by kernel_rfl) (by kernel_rfl) (fun _ _ _ h => h) (Or.inl ⟨by first | (go_simp;done) | rfl,fun X _ => by go_simp⟩) hHeld ?_
  try simp only [Act.put,zsA,zsB,zsC]
  refine' wpAnyH_take (i := 1) (oi := _) (v := .slice la ln lc) rfl (by kernel_rfl) (by kernel_rfl) (by kernel_rfl) (fun _ _ _ h => h) (Or.inl ⟨by first | (go_simp;done) | rfl,fun X hX => by have cX := hX.2.2.2.1;go_simp⟩) hHeld ?_
  try simp only [Act.put,zsA,zsB,zsC]
  refine' wpAnyH_take (i := 2) (oi := _) (v := .pointer (some ⟨w.heap.size + 1 + 1 + 1,0,none⟩)) rfl (by kernel_rfl) (by kernel_rfl) (by kernel_rfl) (fun _ _ _ h => h) (Or.inl ⟨by first | (go_simp;done) | rfl,fun X _ => by go_simp⟩) hHeld ?_
  try simp only [Act.put,zsA,zsB,zsC]
  refine' wpAnyH_take (i := 3) (oi := _) (v := .slice ma mn mc) rfl (by kernel_rfl) (by kernel_rfl) (by kernel_rfl) (fun _ _ _ h => h) (Or.inl ⟨by first | (go_simp;done) | rfl,fun X hX => by have cX := hX.2.2.2.2.2.1;go_simp⟩) hHeld ?_
  try simp only [Act.put,zsA,zsB,zsC]
  refine' wpAnyH_take (i := 5) (oi := _) (v := .pointer (some ⟨w.heap.size + 1,0,none⟩)) rfl (by kernel_rfl) (by kernel_rfl) (by kernel_rfl) (fun _ _ _ h => h) (Or.inl ⟨by first | (go_simp;done) | rfl,fun X _ => by go_simp⟩) hHeld ?_
  try simp only [Act.put,zsA,zsB,zsC]
  refine' wpAnyH_take (i := 6) (oi := _) (v := .int .i64 t.main) rfl (by kernel_rfl) (by kernel_rfl) (by kernel_rfl) (fun _ _ _ h => h) (Or.inl ⟨by first | (go_simp;done) | rfl,fun X hX => by have cX := hX.1;go_simp⟩) hHeld ?_
  try simp only [Act.put,zsA,zsB,zsC]
  refine wpAnyH_ready (rs := [4]) (by kernel_rfl) (by simp) ?_
  refine AllReadyH.cons (o := _) rfl (fun K hK => ?_) AllReadyH.nil
  go_simp
  refine (cC1.out _ BD).mono ?_
  rintro e hb1w ⟨rfl,hb1⟩
  have B1 := Bel.to BD hb1
  go_wp2_with fail
  refine hK.out _ _ (⟨Bel.cellOf hb1 hHeld.1,Bel.cellOf hb1 hHeld.2.1,Bel.cellOf hb1 hHeld.2.2.1,Bel.cellOf hb1 hHeld.2.2.2.1,Bel.cellOf hb1 hHeld.2.2.2.2.1,Bel.cellOf hb1 hHeld.2.2.2.2.2.1,Bel.cellOf hb1 hHeld.2.2.2.2.2.2.1,Bel.cellOf hb1 hHeld.2.2.2.2.2.2.2⟩) (fun hHeld => ?_)
  clear hK K
  try simp only [Act.put,zsA,zsB,zsC]
  refine' wpAnyH_take (i := 7) (oi := _) (v := .bool true) rfl (by kernel_rfl) (by kernel_rfl) (by kernel_rfl) (fun _ _ _ h => h) (Or.inl ⟨by first | (go_simp;done) | rfl,fun X _ => by go_simp⟩) hHeld ?_
  try simp only [Act.put,zsA,zsB,zsC]
  refine' wpAnyH_take (i := 8) (oi := _) (v := .bool true) rfl (by kernel_rfl) (by kernel_rfl) (by kernel_rfl) (fun _ _ _ h => h) (Or.inl ⟨by first | (go_simp;done) | rfl,fun X _ => by go_simp⟩) hHeld ?_
  try simp only [Act.put,zsA,zsB,zsC]
  refine' wpAnyH_take (i := 9) (oi := _) (v := .pointer (some ⟨w.heap.size + 1 + 1,1,none⟩)) rfl (by kernel_rfl) (by kernel_rfl) (by kernel_rfl) (fun _ _ _ h => h) (Or.inl ⟨by first | (go_simp;done) | rfl,fun X _ => by go_simp⟩) hHeld ?_
  try simp only [Act.put,zsA,zsB,zsC]
  refine' wpAnyH_take (i := 10) (oi := _) (v := .slice ka kn kc) rfl (by kernel_rfl) (by kernel_rfl) (by kernel_rfl) (fun _ _ _ h => h) (Or.inl ⟨by first | (go_simp;done) | rfl,fun X hX => by have cX := hX.2.2.2.2.1;go_simp⟩) hHeld ?_
  try simp only [Act.put,zsA,zsB,zsC]
  refine' wpAnyH_take (i := 11) (oi := _) (v := .pointer (some ⟨w.heap.size + 1 + 1 + 1,1,none⟩)) rfl (by kernel_rfl) (by kernel_rfl) (by kernel_rfl) (fun _ _ _ h => h) (Or.inl ⟨by first | (go_simp;done) | rfl,fun X _ => by go_simp⟩) hHeld ?_
  try simp only [Act.put,zsA,zsB,zsC]
  refine' wpAnyH_take (i := 12) (oi := _) (v := .slice ba bn bc) rfl (by kernel_rfl) (by kernel_rfl) (by kernel_rfl) (fun _ _ _ h => h) (Or.inl ⟨by first | (go_simp;done) | rfl,fun X hX => by have cX := hX.2.2.2.2.2.2.1;go_simp⟩) hHeld ?_
  try simp only [Act.put,zsA,zsB,zsC]
  refine' wpAnyH_take (i := 14) (oi := _) (v := .pointer (some ⟨w.heap.size + 1,1,none⟩)) rfl (by kernel_rfl) (by kernel_rfl) (by kernel_rfl) (fun _ _ _ h => h) (Or.inl ⟨by first | (go_simp;done) | rfl,fun X _ => by go_simp⟩) hHeld ?_
  try simp only [Act.put,zsA,zsB,zsC]
  refine' wpAnyH_take (i := 15) (oi := _) (v := .int .i64 t.bonus) rfl (by kernel_rfl) (by kernel_rfl) (by kernel_rfl) (fun _ _ _ h => h) (Or.inl ⟨by first | (go_simp;done) | rfl,fun X hX => by have cX := hX.2.1;go_simp⟩) hHeld ?_
  try simp only [Act.put,zsA,zsB,zsC]
  refine wpAnyH_ready (rs := [13]) (by kernel_rfl) (by simp) ?_
  refine AllReadyH.cons (o := _) rfl (fun K hK => ?_) AllReadyH.nil
  go_simp
  refine (cC2.out _ B1).mono ?_
  rintro e hb2w ⟨rfl,hb2⟩
  have B2 := Bel.to B1 hb2
  go_wp2_with fail
  refine hK.out _ _ (⟨Bel.cellOf hb2 hHeld.1,Bel.cellOf hb2 hHeld.2.1,Bel.cellOf hb2 hHeld.2.2.1,Bel.cellOf hb2 hHeld.2.2.2.1,Bel.cellOf hb2 hHeld.2.2.2.2.1,Bel.cellOf hb2 hHeld.2.2.2.2.2.1,Bel.cellOf hb2 hHeld.2.2.2.2.2.2.1,Bel.cellOf hb2 hHeld.2.2.2.2.2.2.2⟩) (fun hHeld => ?_)
  clear hK K
  try simp only [Act.put,zsA,zsB,zsC]
  refine' wpAnyH_take (i := 16) (oi := _) (v := .bool false) rfl (by kernel_rfl) (by kernel_rfl) (by kernel_rfl) (fun _ _ _ h => h) (Or.inl ⟨by first | (go_simp;done) | rfl,fun X _ => by go_simp⟩) hHeld ?_
  try simp only [Act.put,zsA,zsB,zsC]
  refine' wpAnyH_take (i := 17) (oi := _) (v := .bool false) rfl (by kernel_rfl) (by kernel_rfl) (by kernel_rfl) (fun _ _ _ h => h) (Or.inl ⟨by first | (go_simp;done) | rfl,fun X _ => by go_simp⟩) hHeld ?_
  try simp only [Act.put,zsA,zsB,zsC]
  refine' wpAnyH_take (i := 18) (oi := _) (v := .bool false) rfl (by kernel_rfl) (by kernel_rfl) (by kernel_rfl) (fun _ _ _ h => h) (Or.inl ⟨by first | (go_simp;done) | rfl,fun X _ => by go_simp⟩) hHeld ?_
  try simp only [Act.put,zsA,zsB,zsC]
  refine' wpAnyH_take (i := 19) (oi := _) (v := undef) rfl (by kernel_rfl) (by kernel_rfl) (by kernel_rfl) (fun _ _ _ h => h) (Or.inr ⟨by first | (go_simp;done) | rfl,rfl⟩) hHeld ?_
  try simp only [Act.put,zsA,zsB,zsC]
  refine' wpAnyH_take (i := 20) (oi := _) (v := undef) rfl (by kernel_rfl) (by kernel_rfl) (by kernel_rfl) (fun _ _ _ h => h) (Or.inr ⟨by first | (go_simp;done) | rfl,rfl⟩) hHeld ?_
  try simp only [Act.put,zsA,zsB,zsC]
  refine' wpAnyH_take (i := 21) (oi := _) (v := undef) rfl (by kernel_rfl) (by kernel_rfl) (by kernel_rfl) (fun _ _ _ h => h) (Or.inr ⟨by first | (go_simp;done) | rfl,rfl⟩) hHeld ?_
  try simp only [Act.put,zsA,zsB,zsC]
  refine' wpAnyH_take (i := 22) (oi := _) (v := undef) rfl (by kernel_rfl) (by kernel_rfl) (by kernel_rfl) (fun _ _ _ h => h) (Or.inr ⟨by first | (go_simp;done) | rfl,rfl⟩) hHeld ?_
  try simp only [Act.put,zsA,zsB,zsC]
  refine' wpAnyH_take (i := 23) (oi := _) (v := undef) rfl (by kernel_rfl) (by kernel_rfl) (by kernel_rfl) (fun _ _ _ h => h) (Or.inr ⟨by first | (go_simp;done) | rfl,rfl⟩) hHeld ?_
  try simp only [Act.put,zsA,zsB,zsC]
  refine' wpAnyH_take (i := 24) (oi := _) (v := undef) rfl (by kernel_rfl) (by kernel_rfl) (by kernel_rfl) (fun _ _ _ h => h) (Or.inr ⟨by first | (go_simp;done) | rfl,rfl⟩) hHeld ?_
  try simp only [Act.put,zsA,zsB,zsC]
  refine' wpAnyH_take (i := 25) (oi := _) (v := undef) rfl (by kernel_rfl) (by kernel_rfl) (by kernel_rfl) (fun _ _ _ h => h) (Or.inr ⟨by first | (go_simp;done) | rfl,rfl⟩) hHeld ?_
  try simp only [Act.put,zsA,zsB,zsC]
  refine' wpAnyH_take (i := 26) (oi := _) (v := undef) rfl (by kernel_rfl) (by kernel_rfl) (by kernel_rfl) (fun _ _ _ h => h) (Or.inr ⟨by first | (go_simp;done) | rfl,rfl⟩) hHeld ?_
  try simp only [Act.put,zsA,zsB,zsC]
  refine' wpAnyH_take (i := 27) (oi := _) (v := .bool false) rfl (by kernel_rfl) (by kernel_rfl) (by kernel_rfl) (fun _ _ _ h => h) (Or.inl ⟨by first | (go_simp;done) | rfl,fun X _ => by go_simp⟩) hHeld ?_
  try simp only [Act.put,zsA,zsB,zsC]
  refine' wpAnyH_take (i := 28) (oi := _) (v := .bool false) rfl (by kernel_rfl) (by kernel_rfl) (by kernel_rfl) (fun _ _ _ h => h) (Or.inl ⟨by first | (go_simp;done) | rfl,fun X _ => by go_simp⟩) hHeld ?_
  try simp only [Act.put,zsA,zsB,zsC]
  refine wpAnyH_done (by kernel_rfl) ?_ _
  go_simp
  clear hHeld
  go_wp2
  go_ret
  exact ⟨rfl,B2⟩
 have d2 : decide (t.bonus ≤ (n2 : Int)) = true := decide_eq_true q2
 by_cases q3 : t.extra ≤ (n3 : Int)
 rotate_left
 ·have d3 : decide (t.extra ≤ (n3 : Int)) = false := decide_eq_false q3
  rw [decide_eq_false (fun h => q3 h.2.2)] at hP1
  subst hP1
  replace q1 := hide q1
  replace q2 := hide q2
  replace q3 := hide q3
  go_upto_region 3 with (fail)
  refine wp_region_held_drew (S := fun X => X.cell? ⟨w.heap.size + 1,0,none⟩ = some (.int .i64 t.main) ∧ X.cell? ⟨w.heap.size + 1,1,none⟩ = some (.int .i64 t.bonus) ∧ X.cell? ⟨w.heap.size + 1,2,none⟩ = some (.int .i64 t.extra) ∧ X.cell? ⟨w.heap.size + 1 + 1,0,none⟩ = some (.slice la ln lc) ∧ X.cell? ⟨w.heap.size + 1 + 1,1,none⟩ = some (.slice ka kn kc) ∧ X.cell? ⟨w.heap.size + 1 + 1 + 1,0,none⟩ = some (.slice ma mn mc) ∧ X.cell? ⟨w.heap.size + 1 + 1 + 1,1,none⟩ = some (.slice ba bn bc) ∧ X.cell? ⟨w.heap.size + 1 + 1 + 1,2,none⟩ = some (.slice xa xn xc)) (by kernel_rfl) (cells) (fun hHeld => ?_)
  refine' wpAnyH_take (i := 0) (oi := _) (v := .pointer (some ⟨w.heap.size + 1 + 1,0,none⟩)) rfl (by kernel_rfl) (by kernel_rfl) (by kernel_rfl) (fun _ _ _ h => h) (Or.inl ⟨by first | (go_simp;done) | rfl,fun X _ => by go_simp⟩) hHeld ?_
  try simp only [Act.put,zsA,zsB,zsC]
  refine' wpAnyH_take (i := 1) (oi := _) (v := .slice la ln lc) rfl (by kernel_rfl) (by kernel_rfl) (by kernel_rfl) (fun _ _ _ h => h) (Or.inl ⟨by first | (go_simp;done) | rfl,fun X hX => by have cX := hX.2.2.2.1;go_simp⟩) hHeld ?_
  try simp only [Act.put,zsA,zsB,zsC]
  refine' wpAnyH_take (i := 2) (oi := _) (v := .pointer (some ⟨w.heap.size + 1 + 1 + 1,0,none⟩)) rfl (by kernel_rfl) (by kernel_rfl) (by kernel_rfl) (fun _ _ _ h => h) (Or.inl ⟨by first | (go_simp;done) | rfl,fun X _ => by go_simp⟩) hHeld ?_
  try simp only [Act.put,zsA,zsB,zsC]
  refine' wpAnyH_take (i := 3) (oi := _) (v := .slice ma mn mc) rfl (by kernel_rfl) (by kernel_rfl) (by kernel_rfl) (fun _ _ _ h => h) (Or.inl ⟨by first | (go_simp;done) | rfl,fun X hX => by have cX := hX.2.2.2.2.2.1;go_simp⟩) hHeld ?_
  try simp only [Act.put,zsA,zsB,zsC]
  refine' wpAnyH_take (i := 5) (oi := _) (v := .pointer (some ⟨w.heap.size + 1,0,none⟩)) rfl (by kernel_rfl) (by kernel_rfl) (by kernel_rfl) (fun _ _ _ h => h) (Or.inl ⟨by first | (go_simp;done) | rfl,fun X _ => by go_simp⟩) hHeld ?_
  try simp only [Act.put,zsA,zsB,zsC]
  refine' wpAnyH_take (i := 6) (oi := _) (v := .int .i64 t.main) rfl (by kernel_rfl) (by kernel_rfl) (by kernel_rfl) (fun _ _ _ h => h) (Or.inl ⟨by first | (go_simp;done) | rfl,fun X hX => by have cX := hX.1;go_simp⟩) hHeld ?_
  try simp only [Act.put,zsA,zsB,zsC]
  refine wpAnyH_ready (rs := [4]) (by kernel_rfl) (by simp) ?_
  refine AllReadyH.cons (o := _) rfl (fun K hK => ?_) AllReadyH.nil
  go_simp
  refine (cC1.out _ BD).mono ?_
  rintro e hb1w ⟨rfl,hb1⟩
  have B1 := Bel.to BD hb1
  go_wp2_with fail
  refine hK.out _ _ (⟨Bel.cellOf hb1 hHeld.1,Bel.cellOf hb1 hHeld.2.1,Bel.cellOf hb1 hHeld.2.2.1,Bel.cellOf hb1 hHeld.2.2.2.1,Bel.cellOf hb1 hHeld.2.2.2.2.1,Bel.cellOf hb1 hHeld.2.2.2.2.2.1,Bel.cellOf hb1 hHeld.2.2.2.2.2.2.1,Bel.cellOf hb1 hHeld.2.2.2.2.2.2.2⟩) (fun hHeld => ?_)
  clear hK K
  try simp only [Act.put,zsA,zsB,zsC]
  refine' wpAnyH_take (i := 7) (oi := _) (v := .bool true) rfl (by kernel_rfl) (by kernel_rfl) (by kernel_rfl) (fun _ _ _ h => h) (Or.inl ⟨by first | (go_simp;done) | rfl,fun X _ => by go_simp⟩) hHeld ?_
  try simp only [Act.put,zsA,zsB,zsC]
  refine' wpAnyH_take (i := 8) (oi := _) (v := .bool true) rfl (by kernel_rfl) (by kernel_rfl) (by kernel_rfl) (fun _ _ _ h => h) (Or.inl ⟨by first | (go_simp;done) | rfl,fun X _ => by go_simp⟩) hHeld ?_
  try simp only [Act.put,zsA,zsB,zsC]
  refine' wpAnyH_take (i := 9) (oi := _) (v := .pointer (some ⟨w.heap.size + 1 + 1,1,none⟩)) rfl (by kernel_rfl) (by kernel_rfl) (by kernel_rfl) (fun _ _ _ h => h) (Or.inl ⟨by first | (go_simp;done) | rfl,fun X _ => by go_simp⟩) hHeld ?_
  try simp only [Act.put,zsA,zsB,zsC]
  refine' wpAnyH_take (i := 10) (oi := _) (v := .slice ka kn kc) rfl (by kernel_rfl) (by kernel_rfl) (by kernel_rfl) (fun _ _ _ h => h) (Or.inl ⟨by first | (go_simp;done) | rfl,fun X hX => by have cX := hX.2.2.2.2.1;go_simp⟩) hHeld ?_
  try simp only [Act.put,zsA,zsB,zsC]
  refine' wpAnyH_take (i := 11) (oi := _) (v := .pointer (some ⟨w.heap.size + 1 + 1 + 1,1,none⟩)) rfl (by kernel_rfl) (by kernel_rfl) (by kernel_rfl) (fun _ _ _ h => h) (Or.inl ⟨by first | (go_simp;done) | rfl,fun X _ => by go_simp⟩) hHeld ?_
  try simp only [Act.put,zsA,zsB,zsC]
  refine' wpAnyH_take (i := 12) (oi := _) (v := .slice ba bn bc) rfl (by kernel_rfl) (by kernel_rfl) (by kernel_rfl) (fun _ _ _ h => h) (Or.inl ⟨by first | (go_simp;done) | rfl,fun X hX => by have cX := hX.2.2.2.2.2.2.1;go_simp⟩) hHeld ?_
  try simp only [Act.put,zsA,zsB,zsC]
  refine' wpAnyH_take (i := 14) (oi := _) (v := .pointer (some ⟨w.heap.size + 1,1,none⟩)) rfl (by kernel_rfl) (by kernel_rfl) (by kernel_rfl) (fun _ _ _ h => h) (Or.inl ⟨by first | (go_simp;done) | rfl,fun X _ => by go_simp⟩) hHeld ?_
  try simp only [Act.put,zsA,zsB,zsC]
  refine' wpAnyH_take (i := 15) (oi := _) (v := .int .i64 t.bonus) rfl (by kernel_rfl) (by kernel_rfl) (by kernel_rfl) (fun _ _ _ h => h) (Or.inl ⟨by first | (go_simp;done) | rfl,fun X hX => by have cX := hX.2.1;go_simp⟩) hHeld ?_
  try simp only [Act.put,zsA,zsB,zsC]
  refine wpAnyH_ready (rs := [13]) (by kernel_rfl) (by simp) ?_
  refine AllReadyH.cons (o := _) rfl (fun K hK => ?_) AllReadyH.nil
  go_simp
  refine (cC2.out _ B1).mono ?_
  rintro e hb2w ⟨rfl,hb2⟩
  have B2 := Bel.to B1 hb2
  go_wp2_with fail
  refine hK.out _ _ (⟨Bel.cellOf hb2 hHeld.1,Bel.cellOf hb2 hHeld.2.1,Bel.cellOf hb2 hHeld.2.2.1,Bel.cellOf hb2 hHeld.2.2.2.1,Bel.cellOf hb2 hHeld.2.2.2.2.1,Bel.cellOf hb2 hHeld.2.2.2.2.2.1,Bel.cellOf hb2 hHeld.2.2.2.2.2.2.1,Bel.cellOf hb2 hHeld.2.2.2.2.2.2.2⟩) (fun hHeld => ?_)
  clear hK K
  try simp only [Act.put,zsA,zsB,zsC]
  refine' wpAnyH_take (i := 16) (oi := _) (v := .bool true) rfl (by kernel_rfl) (by kernel_rfl) (by kernel_rfl) (fun _ _ _ h => h) (Or.inl ⟨by first | (go_simp;done) | rfl,fun X _ => by go_simp⟩) hHeld ?_
  try simp only [Act.put,zsA,zsB,zsC]
  refine' wpAnyH_take (i := 17) (oi := _) (v := .bool true) rfl (by kernel_rfl) (by kernel_rfl) (by kernel_rfl) (fun _ _ _ h => h) (Or.inl ⟨by first | (go_simp;done) | rfl,fun X _ => by go_simp⟩) hHeld ?_
  try simp only [Act.put,zsA,zsB,zsC]
  refine' wpAnyH_take (i := 18) (oi := _) (v := .bool true) rfl (by kernel_rfl) (by kernel_rfl) (by kernel_rfl) (fun _ _ _ h => h) (Or.inl ⟨by first | (go_simp;done) | rfl,fun X _ => by go_simp⟩) hHeld ?_
  try simp only [Act.put,zsA,zsB,zsC]
  refine' wpAnyH_take (i := 19) (oi := _) (v := .pointer (some ⟨w.heap.size + 1 + 1,0,none⟩)) rfl (by kernel_rfl) (by kernel_rfl) (by kernel_rfl) (fun _ _ _ h => h) (Or.inl ⟨by first | (go_simp;done) | rfl,fun X _ => by go_simp⟩) hHeld ?_
  try simp only [Act.put,zsA,zsB,zsC]
  refine' wpAnyH_take (i := 20) (oi := _) (v := .slice la ln lc) rfl (by kernel_rfl) (by kernel_rfl) (by kernel_rfl) (fun _ _ _ h => h) (Or.inl ⟨by first | (go_simp;done) | rfl,fun X hX => by have cX := hX.2.2.2.1;go_simp⟩) hHeld ?_
  try simp only [Act.put,zsA,zsB,zsC]
  refine' wpAnyH_take (i := 21) (oi := _) (v := .pointer (some ⟨w.heap.size + 1 + 1 + 1,2,none⟩)) rfl (by kernel_rfl) (by kernel_rfl) (by kernel_rfl) (fun _ _ _ h => h) (Or.inl ⟨by first | (go_simp;done) | rfl,fun X _ => by go_simp⟩) hHeld ?_
  try simp only [Act.put,zsA,zsB,zsC]
  refine' wpAnyH_take (i := 22) (oi := _) (v := .slice xa xn xc) rfl (by kernel_rfl) (by kernel_rfl) (by kernel_rfl) (fun _ _ _ h => h) (Or.inl ⟨by first | (go_simp;done) | rfl,fun X hX => by have cX := hX.2.2.2.2.2.2.2;go_simp⟩) hHeld ?_
  try simp only [Act.put,zsA,zsB,zsC]
  refine' wpAnyH_take (i := 24) (oi := _) (v := .pointer (some ⟨w.heap.size + 1,2,none⟩)) rfl (by kernel_rfl) (by kernel_rfl) (by kernel_rfl) (fun _ _ _ h => h) (Or.inl ⟨by first | (go_simp;done) | rfl,fun X _ => by go_simp⟩) hHeld ?_
  try simp only [Act.put,zsA,zsB,zsC]
  refine' wpAnyH_take (i := 25) (oi := _) (v := .int .i64 t.extra) rfl (by kernel_rfl) (by kernel_rfl) (by kernel_rfl) (fun _ _ _ h => h) (Or.inl ⟨by first | (go_simp;done) | rfl,fun X hX => by have cX := hX.2.2.1;go_simp⟩) hHeld ?_
  try simp only [Act.put,zsA,zsB,zsC]
  refine wpAnyH_ready (rs := [23]) (by kernel_rfl) (by simp) ?_
  refine AllReadyH.cons (o := _) rfl (fun K hK => ?_) AllReadyH.nil
  go_simp
  refine (cC3.out _ B2).mono ?_
  rintro e hb3w ⟨rfl,hb3⟩
  have B3 := Bel.to B2 hb3
  go_wp2_with fail
  refine hK.out _ _ (⟨Bel.cellOf hb3 hHeld.1,Bel.cellOf hb3 hHeld.2.1,Bel.cellOf hb3 hHeld.2.2.1,Bel.cellOf hb3 hHeld.2.2.2.1,Bel.cellOf hb3 hHeld.2.2.2.2.1,Bel.cellOf hb3 hHeld.2.2.2.2.2.1,Bel.cellOf hb3 hHeld.2.2.2.2.2.2.1,Bel.cellOf hb3 hHeld.2.2.2.2.2.2.2⟩) (fun hHeld => ?_)
  clear hK K
  try simp only [Act.put,zsA,zsB,zsC]
  refine' wpAnyH_take (i := 26) (oi := _) (v := .bool false) rfl (by kernel_rfl) (by kernel_rfl) (by kernel_rfl) (fun _ _ _ h => h) (Or.inl ⟨by first | (go_simp;done) | rfl,fun X _ => by go_simp⟩) hHeld ?_
  try simp only [Act.put,zsA,zsB,zsC]
  refine' wpAnyH_take (i := 27) (oi := _) (v := .bool false) rfl (by kernel_rfl) (by kernel_rfl) (by kernel_rfl) (fun _ _ _ h => h) (Or.inl ⟨by first | (go_simp;done) | rfl,fun X _ => by go_simp⟩) hHeld ?_
  try simp only [Act.put,zsA,zsB,zsC]
  refine' wpAnyH_take (i := 28) (oi := _) (v := .bool false) rfl (by kernel_rfl) (by kernel_rfl) (by kernel_rfl) (fun _ _ _ h => h) (Or.inl ⟨by first | (go_simp;done) | rfl,fun X _ => by go_simp⟩) hHeld ?_
  try simp only [Act.put,zsA,zsB,zsC]
  refine wpAnyH_done (by kernel_rfl) ?_ _
  go_simp
  clear hHeld
  go_wp2
  go_ret
  exact ⟨rfl,B3⟩
 ·have d3 : decide (t.extra ≤ (n3 : Int)) = true := decide_eq_true q3
  rw [decide_eq_true ⟨q1,q2,q3⟩] at hP1
  subst hP1
  replace q1 := hide q1
  replace q2 := hide q2
  replace q3 := hide q3
  go_upto_region 3 with (fail)
  refine wp_region_held_drew (S := fun X => X.cell? ⟨w.heap.size + 1,0,none⟩ = some (.int .i64 t.main) ∧ X.cell? ⟨w.heap.size + 1,1,none⟩ = some (.int .i64 t.bonus) ∧ X.cell? ⟨w.heap.size + 1,2,none⟩ = some (.int .i64 t.extra) ∧ X.cell? ⟨w.heap.size + 1 + 1,0,none⟩ = some (.slice la ln lc) ∧ X.cell? ⟨w.heap.size + 1 + 1,1,none⟩ = some (.slice ka kn kc) ∧ X.cell? ⟨w.heap.size + 1 + 1 + 1,0,none⟩ = some (.slice ma mn mc) ∧ X.cell? ⟨w.heap.size + 1 + 1 + 1,1,none⟩ = some (.slice ba bn bc) ∧ X.cell? ⟨w.heap.size + 1 + 1 + 1,2,none⟩ = some (.slice xa xn xc)) (by kernel_rfl) (cells) (fun hHeld => ?_)
  refine' wpAnyH_take (i := 0) (oi := _) (v := .pointer (some ⟨w.heap.size + 1 + 1,0,none⟩)) rfl (by kernel_rfl) (by kernel_rfl) (by kernel_rfl) (fun _ _ _ h => h) (Or.inl ⟨by first | (go_simp;done) | rfl,fun X _ => by go_simp⟩) hHeld ?_
  try simp only [Act.put,zsA,zsB,zsC]
  refine' wpAnyH_take (i := 1) (oi := _) (v := .slice la ln lc) rfl (by kernel_rfl) (by kernel_rfl) (by kernel_rfl) (fun _ _ _ h => h) (Or.inl ⟨by first | (go_simp;done) | rfl,fun X hX => by have cX := hX.2.2.2.1;go_simp⟩) hHeld ?_
  try simp only [Act.put,zsA,zsB,zsC]
  refine' wpAnyH_take (i := 2) (oi := _) (v := .pointer (some ⟨w.heap.size + 1 + 1 + 1,0,none⟩)) rfl (by kernel_rfl) (by kernel_rfl) (by kernel_rfl) (fun _ _ _ h => h) (Or.inl ⟨by first | (go_simp;done) | rfl,fun X _ => by go_simp⟩) hHeld ?_
  try simp only [Act.put,zsA,zsB,zsC]
  refine' wpAnyH_take (i := 3) (oi := _) (v := .slice ma mn mc) rfl (by kernel_rfl) (by kernel_rfl) (by kernel_rfl) (fun _ _ _ h => h) (Or.inl ⟨by first | (go_simp;done) | rfl,fun X hX => by have cX := hX.2.2.2.2.2.1;go_simp⟩) hHeld ?_
  try simp only [Act.put,zsA,zsB,zsC]
  refine' wpAnyH_take (i := 5) (oi := _) (v := .pointer (some ⟨w.heap.size + 1,0,none⟩)) rfl (by kernel_rfl) (by kernel_rfl) (by kernel_rfl) (fun _ _ _ h => h) (Or.inl ⟨by first | (go_simp;done) | rfl,fun X _ => by go_simp⟩) hHeld ?_
  try simp only [Act.put,zsA,zsB,zsC]
  refine' wpAnyH_take (i := 6) (oi := _) (v := .int .i64 t.main) rfl (by kernel_rfl) (by kernel_rfl) (by kernel_rfl) (fun _ _ _ h => h) (Or.inl ⟨by first | (go_simp;done) | rfl,fun X hX => by have cX := hX.1;go_simp⟩) hHeld ?_
  try simp only [Act.put,zsA,zsB,zsC]
  refine wpAnyH_ready (rs := [4]) (by kernel_rfl) (by simp) ?_
  refine AllReadyH.cons (o := _) rfl (fun K hK => ?_) AllReadyH.nil
  go_simp
  refine (cC1.out _ BD).mono ?_
  rintro e hb1w ⟨rfl,hb1⟩
  have B1 := Bel.to BD hb1
  go_wp2_with fail
  refine hK.out _ _ (⟨Bel.cellOf hb1 hHeld.1,Bel.cellOf hb1 hHeld.2.1,Bel.cellOf hb1 hHeld.2.2.1,Bel.cellOf hb1 hHeld.2.2.2.1,Bel.cellOf hb1 hHeld.2.2.2.2.1,Bel.cellOf hb1 hHeld.2.2.2.2.2.1,Bel.cellOf hb1 hHeld.2.2.2.2.2.2.1,Bel.cellOf hb1 hHeld.2.2.2.2.2.2.2⟩) (fun hHeld => ?_)
  clear hK K
  try simp only [Act.put,zsA,zsB,zsC]
  refine' wpAnyH_take (i := 7) (oi := _) (v := .bool true) rfl (by kernel_rfl) (by kernel_rfl) (by kernel_rfl) (fun _ _ _ h => h) (Or.inl ⟨by first | (go_simp;done) | rfl,fun X _ => by go_simp⟩) hHeld ?_
  try simp only [Act.put,zsA,zsB,zsC]
  refine' wpAnyH_take (i := 8) (oi := _) (v := .bool true) rfl (by kernel_rfl) (by kernel_rfl) (by kernel_rfl) (fun _ _ _ h => h) (Or.inl ⟨by first | (go_simp;done) | rfl,fun X _ => by go_simp⟩) hHeld ?_
  try simp only [Act.put,zsA,zsB,zsC]
  refine' wpAnyH_take (i := 9) (oi := _) (v := .pointer (some ⟨w.heap.size + 1 + 1,1,none⟩)) rfl (by kernel_rfl) (by kernel_rfl) (by kernel_rfl) (fun _ _ _ h => h) (Or.inl ⟨by first | (go_simp;done) | rfl,fun X _ => by go_simp⟩) hHeld ?_
  try simp only [Act.put,zsA,zsB,zsC]
  refine' wpAnyH_take (i := 10) (oi := _) (v := .slice ka kn kc) rfl (by kernel_rfl) (by kernel_rfl) (by kernel_rfl) (fun _ _ _ h => h) (Or.inl ⟨by first | (go_simp;done) | rfl,fun X hX => by have cX := hX.2.2.2.2.1;go_simp⟩) hHeld ?_
  try simp only [Act.put,zsA,zsB,zsC]
  refine' wpAnyH_take (i := 11) (oi := _) (v := .pointer (some ⟨w.heap.size + 1 + 1 + 1,1,none⟩)) rfl (by kernel_rfl) (by kernel_rfl) (by kernel_rfl) (fun _ _ _ h => h) (Or.inl ⟨by first | (go_simp;done) | rfl,fun X _ => by go_simp⟩) hHeld ?_
  try simp only [Act.put,zsA,zsB,zsC]
  refine' wpAnyH_take (i := 12) (oi := _) (v := .slice ba bn bc) rfl (by kernel_rfl) (by kernel_rfl) (by kernel_rfl) (fun _ _ _ h => h) (Or.inl ⟨by first | (go_simp;done) | rfl,fun X hX => by have cX := hX.2.2.2.2.2.2.1;go_simp⟩) hHeld ?_
  try simp only [Act.put,zsA,zsB,zsC]
  refine' wpAnyH_take (i := 14) (oi := _) (v := .pointer (some ⟨w.heap.size + 1,1,none⟩)) rfl (by kernel_rfl) (by kernel_rfl) (by kernel_rfl) (fun _ _ _ h => h) (Or.inl ⟨by first | (go_simp;done) | rfl,fun X _ => by go_simp⟩) hHeld ?_
  try simp only [Act.put,zsA,zsB,zsC]
  refine' wpAnyH_take (i := 15) (oi := _) (v := .int .i64 t.bonus) rfl (by kernel_rfl) (by kernel_rfl) (by kernel_rfl) (fun _ _ _ h => h) (Or.inl ⟨by first | (go_simp;done) | rfl,fun X hX => by have cX := hX.2.1;go_simp⟩) hHeld ?_
  try simp only [Act.put,zsA,zsB,zsC]
  refine wpAnyH_ready (rs := [13]) (by kernel_rfl) (by simp) ?_
  refine AllReadyH.cons (o := _) rfl (fun K hK => ?_) AllReadyH.nil
  go_simp
  refine (cC2.out _ B1).mono ?_
  rintro e hb2w ⟨rfl,hb2⟩
  have B2 := Bel.to B1 hb2
  go_wp2_with fail
  refine hK.out _ _ (⟨Bel.cellOf hb2 hHeld.1,Bel.cellOf hb2 hHeld.2.1,Bel.cellOf hb2 hHeld.2.2.1,Bel.cellOf hb2 hHeld.2.2.2.1,Bel.cellOf hb2 hHeld.2.2.2.2.1,Bel.cellOf hb2 hHeld.2.2.2.2.2.1,Bel.cellOf hb2 hHeld.2.2.2.2.2.2.1,Bel.cellOf hb2 hHeld.2.2.2.2.2.2.2⟩) (fun hHeld => ?_)
  clear hK K
  try simp only [Act.put,zsA,zsB,zsC]
  refine' wpAnyH_take (i := 16) (oi := _) (v := .bool true) rfl (by kernel_rfl) (by kernel_rfl) (by kernel_rfl) (fun _ _ _ h => h) (Or.inl ⟨by first | (go_simp;done) | rfl,fun X _ => by go_simp⟩) hHeld ?_
  try simp only [Act.put,zsA,zsB,zsC]
  refine' wpAnyH_take (i := 17) (oi := _) (v := .bool true) rfl (by kernel_rfl) (by kernel_rfl) (by kernel_rfl) (fun _ _ _ h => h) (Or.inl ⟨by first | (go_simp;done) | rfl,fun X _ => by go_simp⟩) hHeld ?_
  try simp only [Act.put,zsA,zsB,zsC]
  refine' wpAnyH_take (i := 18) (oi := _) (v := .bool true) rfl (by kernel_rfl) (by kernel_rfl) (by kernel_rfl) (fun _ _ _ h => h) (Or.inl ⟨by first | (go_simp;done) | rfl,fun X _ => by go_simp⟩) hHeld ?_
  try simp only [Act.put,zsA,zsB,zsC]
  refine' wpAnyH_take (i := 19) (oi := _) (v := .pointer (some ⟨w.heap.size + 1 + 1,0,none⟩)) rfl (by kernel_rfl) (by kernel_rfl) (by kernel_rfl) (fun _ _ _ h => h) (Or.inl ⟨by first | (go_simp;done) | rfl,fun X _ => by go_simp⟩) hHeld ?_
  try simp only [Act.put,zsA,zsB,zsC]
  refine' wpAnyH_take (i := 20) (oi := _) (v := .slice la ln lc) rfl (by kernel_rfl) (by kernel_rfl) (by kernel_rfl) (fun _ _ _ h => h) (Or.inl ⟨by first | (go_simp;done) | rfl,fun X hX => by have cX := hX.2.2.2.1;go_simp⟩) hHeld ?_
  try simp only [Act.put,zsA,zsB,zsC]
  refine' wpAnyH_take (i := 21) (oi := _) (v := .pointer (some ⟨w.heap.size + 1 + 1 + 1,2,none⟩)) rfl (by kernel_rfl) (by kernel_rfl) (by kernel_rfl) (fun _ _ _ h => h) (Or.inl ⟨by first | (go_simp;done) | rfl,fun X _ => by go_simp⟩) hHeld ?_
  try simp only [Act.put,zsA,zsB,zsC]
  refine' wpAnyH_take (i := 22) (oi := _) (v := .slice xa xn xc) rfl (by kernel_rfl) (by kernel_rfl) (by kernel_rfl) (fun _ _ _ h => h) (Or.inl ⟨by first | (go_simp;done) | rfl,fun X hX => by have cX := hX.2.2.2.2.2.2.2;go_simp⟩) hHeld ?_
  try simp only [Act.put,zsA,zsB,zsC]
  refine' wpAnyH_take (i := 24) (oi := _) (v := .pointer (some ⟨w.heap.size + 1,2,none⟩)) rfl (by kernel_rfl) (by kernel_rfl) (by kernel_rfl) (fun _ _ _ h => h) (Or.inl ⟨by first | (go_simp;done) | rfl,fun X _ => by go_simp⟩) hHeld ?_
  try simp only [Act.put,zsA,zsB,zsC]
  refine' wpAnyH_take (i := 25) (oi := _) (v := .int .i64 t.extra) rfl (by kernel_rfl) (by kernel_rfl) (by kernel_rfl) (fun _ _ _ h => h) (Or.inl ⟨by first | (go_simp;done) | rfl,fun X hX => by have cX := hX.2.2.1;go_simp⟩) hHeld ?_
  try simp only [Act.put,zsA,zsB,zsC]
  refine wpAnyH_ready (rs := [23]) (by kernel_rfl) (by simp) ?_
  refine AllReadyH.cons (o := _) rfl (fun K hK => ?_) AllReadyH.nil
  go_simp
  refine (cC3.out _ B2).mono ?_
  rintro e hb3w ⟨rfl,hb3⟩
  have B3 := Bel.to B2 hb3
  go_wp2_with fail
  refine hK.out _ _ (⟨Bel.cellOf hb3 hHeld.1,Bel.cellOf hb3 hHeld.2.1,Bel.cellOf hb3 hHeld.2.2.1,Bel.cellOf hb3 hHeld.2.2.2.1,Bel.cellOf hb3 hHeld.2.2.2.2.1,Bel.cellOf hb3 hHeld.2.2.2.2.2.1,Bel.cellOf hb3 hHeld.2.2.2.2.2.2.1,Bel.cellOf hb3 hHeld.2.2.2.2.2.2.2⟩) (fun hHeld => ?_)
  clear hK K
  try simp only [Act.put,zsA,zsB,zsC]
  refine' wpAnyH_take (i := 26) (oi := _) (v := .bool true) rfl (by kernel_rfl) (by kernel_rfl) (by kernel_rfl) (fun _ _ _ h => h) (Or.inl ⟨by first | (go_simp;done) | rfl,fun X _ => by go_simp⟩) hHeld ?_
  try simp only [Act.put,zsA,zsB,zsC]
  refine' wpAnyH_take (i := 27) (oi := _) (v := .bool true) rfl (by kernel_rfl) (by kernel_rfl) (by kernel_rfl) (fun _ _ _ h => h) (Or.inl ⟨by first | (go_simp;done) | rfl,fun X _ => by go_simp⟩) hHeld ?_
  try simp only [Act.put,zsA,zsB,zsC]
  refine' wpAnyH_take (i := 28) (oi := _) (v := .bool true) rfl (by kernel_rfl) (by kernel_rfl) (by kernel_rfl) (fun _ _ _ h => h) (Or.inl ⟨by first | (go_simp;done) | rfl,fun X _ => by go_simp⟩) hHeld ?_
  try simp only [Act.put,zsA,zsB,zsC]
  refine wpAnyH_done (by kernel_rfl) ?_ _
  go_simp
  clear hHeld
  go_wp2
  go_ret
  exact ⟨rfl,B3⟩
theorem checkM_cases {g : GameD} {x : LineD} {r : ResD} : checkM g x r = if gameE g ≠ 0 then gameE g else if lineE g x.1 x.2 ≠ 0 then lineE g x.1 x.2 else resE g r := by
 unfold checkM
 by_cases h : gameE g = 0
 ·rw [if_neg (show ¬ gameE g ≠ 0 by simpa using h)]
 ·rw [if_pos (show gameE g ≠ 0 from h)]
  have : lineE g x.1 x.2 = gameE g := by unfold lineE;rw [if_pos h]
  rw [this,if_pos h]
set_option maxHeartbeats 8000000 in
set_option maxRecDepth 100000 in
theorem check32_any (g : GameD) (av tv lv kv mv bv xv : Value) (ms : List AddonM) (x : LineD) (r : ResD) (w : World) (hg : GameR w av tv ms g) (hl : LineR w lv kv x.1 x.2) (hr : ResR w mv bv xv r) (hs : r.serial.size ≤ 9223372036854775807) :
  Calls Tryz.prog 60 #[gameVal g av tv,lineVal lv kv,resVal mv bv xv r] w (IntB (checkM g x r) w) := by
 have cC := hide (fun X (hX : Below w.heap.size w X) => rcheck_any g av tv ms X (hg.below hX))
 have cL := hide (fun X (hX : Below w.heap.size w X) => rlcheck_any g av tv lv kv ms x.1 x.2 X (hg.below hX) (hl.below hX))
 have cR := hide (fun X (hX : Below w.heap.size w X) => rcheck28_any g av tv mv bv xv ms r X (hg.below hX) (hr.below hX) hs)
 rw [checkM_cases]
 obtain ⟨P,hP⟩ : ∃ P,P = if gameE g ≠ 0 then gameE g else if lineE g x.1 x.2 ≠ 0 then lineE g x.1 x.2 else resE g r := ⟨_,rfl⟩
 rw [← hP]
 obtain ⟨la,ln,lc,rfl⟩ := Rd.shape hl.1
 obtain ⟨ka,kn,kc,rfl⟩ := Rd.shape hl.2
 obtain ⟨ma,mn,mc,rfl⟩ := Rd.shape hr.1
 obtain ⟨ba,bn,bc,rfl⟩ := Rd.shape hr.2.1
 obtain ⟨xa,xn,xc,rfl⟩ := Rd.shape hr.2.2
 obtain ⟨aa,ac,rfl,-,-⟩ := hg.1.1.shape
 obtain ⟨ta,tc,rfl,htl,htm⟩ := hg.2.2.shape
 obtain ⟨M,hM⟩ : ∃ M,M = g.tiers.length := ⟨_,rfl⟩
 rw [← hM] at cC cL cR ⊢
 unfold gameVal at cC
 unfold gameVal lineVal at cL
 unfold gameVal resVal at cR
 unfold gameVal lineVal resVal
 clear hg hl hr htl htm hM
 by_cases he : gameE g = 0
 rotate_left
 ·rw [if_pos he] at hP
  obtain ⟨c,hc⟩ : ∃ c,c = gameE g := ⟨_,rfl⟩
  rw [← hc] at hP cC he
  subst hP
  have hcb : (P != 0) = true := by simpa using he
  replace he := hide he
  clear hc cL cR
  go_enter Tryz.func60,Tryz.ntmps60
  go_upto_region 1 with (fail)
  obtain ⟨W,hW⟩ : ∃ W,W = (((w.alloc (Obj.cells #[.string g.name,.int .i64 g.kind,.int .i64 g.price,.int .i64 g.main,.int .i64 g.of,.int .i64 g.bonus,.int .i64 g.bonusOf,.int .i64 g.extra,.int .i64 g.draws,.int .i64 g.system,.int .i64 g.days,.int .i64 g.at_,.int .i64 g.close,.int .i64 g.cancel,.int .i64 g.expiry,.int .i64 g.pool,.int .i64 g.reserve,.int .i64 g.round,.int .i64 g.cap,.int .i64 g.rolls,(.slice aa ms.length ac),(.slice ta M tc)] 25)).alloc (Obj.cells #[(.slice la ln lc),(.slice ka kn kc)] 58)).alloc (Obj.cells #[.slice ma mn mc,.slice ba bn bc,.slice xa xn xc,.int .i64 r.factor,.string r.serial] 29)) := ⟨_,rfl⟩
  have bW : Below w.heap.size w W := by rw [hW];exact Bel.al (Bel.al (Bel.al (Below.refl _ _) _) _) _
  have r0 : GameAt W (w.heap.size) g ((.slice aa ms.length ac)) ((.slice ta M tc)) := by rw [hW];exact Row.alloc (Row.alloc (Row.new _ _ _) _) _
  have r1 : LineAt W (w.heap.size + 1) ((.slice la ln lc)) ((.slice ka kn kc)) := by rw [hW];exact Row.alloc (Row.at2 _ _ _ _) _
  have r2 : Row W ((w.heap.size + 1 + 1)) 29 [.slice ma mn mc,.slice ba bn bc,.slice xa xn xc,.int .i64 r.factor,.string r.serial] := by rw [hW];exact Row.at3 _ _ _ _ _
  have sW : w.heap.size + 1 + 1 < W.heap.size := by rw [hW];simp
  rw [← hW]
  clear hW
  go_wp2_with (first | (refine wpList_load_row rfl 25 _ rfl _ rfl _ _ _ _ r0 Tryz.underlying25 rfl (by kernel_rfl) ?_) | fail)
  refine (cC.out _ bW).mono ?_
  rintro e w1 ⟨s,rfl,hb1⟩
  go_wp2
  go_ret
  exact ⟨rfl,Bel.to bW hb1⟩
 rw [if_neg (by simpa using he)] at hP
 rw [he] at cC
 replace he := hide he
 by_cases hn : lineE g x.1 x.2 = 0
 rotate_left
 ·rw [if_pos hn] at hP
  obtain ⟨c,hc⟩ : ∃ c,c = lineE g x.1 x.2 := ⟨_,rfl⟩
  rw [← hc] at hP cL hn
  subst hP
  have hcb : (P != 0) = true := by simpa using hn
  replace hn := hide hn
  clear hc cR
  go_enter Tryz.func60,Tryz.ntmps60
  go_upto_region 1 with (fail)
  obtain ⟨W,hW⟩ : ∃ W,W = (((w.alloc (Obj.cells #[.string g.name,.int .i64 g.kind,.int .i64 g.price,.int .i64 g.main,.int .i64 g.of,.int .i64 g.bonus,.int .i64 g.bonusOf,.int .i64 g.extra,.int .i64 g.draws,.int .i64 g.system,.int .i64 g.days,.int .i64 g.at_,.int .i64 g.close,.int .i64 g.cancel,.int .i64 g.expiry,.int .i64 g.pool,.int .i64 g.reserve,.int .i64 g.round,.int .i64 g.cap,.int .i64 g.rolls,(.slice aa ms.length ac),(.slice ta M tc)] 25)).alloc (Obj.cells #[(.slice la ln lc),(.slice ka kn kc)] 58)).alloc (Obj.cells #[.slice ma mn mc,.slice ba bn bc,.slice xa xn xc,.int .i64 r.factor,.string r.serial] 29)) := ⟨_,rfl⟩
  have bW : Below w.heap.size w W := by rw [hW];exact Bel.al (Bel.al (Bel.al (Below.refl _ _) _) _) _
  have r0 : GameAt W (w.heap.size) g ((.slice aa ms.length ac)) ((.slice ta M tc)) := by rw [hW];exact Row.alloc (Row.alloc (Row.new _ _ _) _) _
  have r1 : LineAt W (w.heap.size + 1) ((.slice la ln lc)) ((.slice ka kn kc)) := by rw [hW];exact Row.alloc (Row.at2 _ _ _ _) _
  have r2 : Row W ((w.heap.size + 1 + 1)) 29 [.slice ma mn mc,.slice ba bn bc,.slice xa xn xc,.int .i64 r.factor,.string r.serial] := by rw [hW];exact Row.at3 _ _ _ _ _
  have sW : w.heap.size + 1 + 1 < W.heap.size := by rw [hW];simp
  rw [← hW]
  clear hW
  go_wp2_with (first | (refine wpList_load_row rfl 25 _ rfl _ rfl _ _ _ _ r0 Tryz.underlying25 rfl (by kernel_rfl) ?_) | fail)
  refine (cC.out _ bW).mono ?_
  rintro e w1 ⟨s,rfl,hb1⟩
  have B1 := Bel.to bW hb1
  have r0 := r0.keep hb1
  have r1 := r1.keep hb1
  go_wp2_with (first | (refine wpList_load_row rfl 25 _ rfl _ rfl _ _ _ _ r0 Tryz.underlying25 rfl (by kernel_rfl) ?_) | (refine wpList_load_row rfl 58 _ rfl _ rfl _ _ _ _ r1 Tryz.underlying58 rfl (by kernel_rfl) ?_) | fail)
  refine (cL.out _ B1).mono ?_
  rintro e w2 ⟨rfl,hb2⟩
  go_wp2
  go_ret
  exact ⟨rfl,Bel.to B1 hb2⟩
 ·rw [if_neg (by simpa using hn)] at hP
  rw [hn] at cL
  rw [← hP] at cR
  replace hP := hide hP
  replace hn := hide hn
  go_enter Tryz.func60,Tryz.ntmps60
  go_upto_region 1 with (fail)
  obtain ⟨W,hW⟩ : ∃ W,W = (((w.alloc (Obj.cells #[.string g.name,.int .i64 g.kind,.int .i64 g.price,.int .i64 g.main,.int .i64 g.of,.int .i64 g.bonus,.int .i64 g.bonusOf,.int .i64 g.extra,.int .i64 g.draws,.int .i64 g.system,.int .i64 g.days,.int .i64 g.at_,.int .i64 g.close,.int .i64 g.cancel,.int .i64 g.expiry,.int .i64 g.pool,.int .i64 g.reserve,.int .i64 g.round,.int .i64 g.cap,.int .i64 g.rolls,(.slice aa ms.length ac),(.slice ta M tc)] 25)).alloc (Obj.cells #[(.slice la ln lc),(.slice ka kn kc)] 58)).alloc (Obj.cells #[.slice ma mn mc,.slice ba bn bc,.slice xa xn xc,.int .i64 r.factor,.string r.serial] 29)) := ⟨_,rfl⟩
  have bW : Below w.heap.size w W := by rw [hW];exact Bel.al (Bel.al (Bel.al (Below.refl _ _) _) _) _
  have r0 : GameAt W (w.heap.size) g ((.slice aa ms.length ac)) ((.slice ta M tc)) := by rw [hW];exact Row.alloc (Row.alloc (Row.new _ _ _) _) _
  have r1 : LineAt W (w.heap.size + 1) ((.slice la ln lc)) ((.slice ka kn kc)) := by rw [hW];exact Row.alloc (Row.at2 _ _ _ _) _
  have r2 : Row W ((w.heap.size + 1 + 1)) 29 [.slice ma mn mc,.slice ba bn bc,.slice xa xn xc,.int .i64 r.factor,.string r.serial] := by rw [hW];exact Row.at3 _ _ _ _ _
  have sW : w.heap.size + 1 + 1 < W.heap.size := by rw [hW];simp
  rw [← hW]
  clear hW
  go_wp2_with (first | (refine wpList_load_row rfl 25 _ rfl _ rfl _ _ _ _ r0 Tryz.underlying25 rfl (by kernel_rfl) ?_) | fail)
  refine (cC.out _ bW).mono ?_
  rintro e w1 ⟨s,rfl,hb1⟩
  have B1 := Bel.to bW hb1
  have r0 := r0.keep hb1
  have r1 := r1.keep hb1
  have r2 := Row.keep r2 hb1
  go_wp2_with (first | (refine wpList_load_row rfl 25 _ rfl _ rfl _ _ _ _ r0 Tryz.underlying25 rfl (by kernel_rfl) ?_) | (refine wpList_load_row rfl 58 _ rfl _ rfl _ _ _ _ r1 Tryz.underlying58 rfl (by kernel_rfl) ?_) | fail)
  refine (cL.out _ B1).mono ?_
  rintro e w2 ⟨rfl,hb2⟩
  have B2 := Bel.to B1 hb2
  have r0 := r0.keep hb2
  have r2 := Row.keep r2 hb2
  go_wp2_with (first | (refine wpList_load_row rfl 25 _ rfl _ rfl _ _ _ _ r0 Tryz.underlying25 rfl (by kernel_rfl) ?_) | (refine wpList_load_row rfl 29 _ rfl _ rfl _ _ _ _ r2 Tryz.underlying29 rfl (by kernel_rfl) ?_) | fail)
  refine (cR.out _ B2).mono ?_
  rintro e w3 ⟨rfl,hb3⟩
  go_wp2
  go_ret
  exact ⟨rfl,Bel.to B2 hb3⟩
theorem tierGo_drop {f : TierD → Bool} {l : List TierD} {i : Nat} (h : i < l.length) : tierGo f (l.drop i) i = if f l[i] then (i : Int) else tierGo f (l.drop (i + 1)) (i + 1) := by
 rw [List.drop_eq_getElem_cons h,tierGo]
set_option maxHeartbeats 8000000 in
set_option maxRecDepth 100000 in
theorem tier32_any (g : GameD) (av tv lv kv mv bv xv : Value) (ms : List AddonM) (x : LineD) (r : ResD) (w : World) (hg : GameR w av tv ms g) (hl : LineR w lv kv x.1 x.2) (hr : ResR w mv bv xv r) (hs : r.serial.size ≤ 9223372036854775807) :
  Calls Tryz.prog 28 #[gameVal g av tv,lineVal lv kv,resVal mv bv xv r] w (IntC (tierP g x r).1 (tierP g x r).2 w) := by
 have cK := hide (fun X (hX : Below w.heap.size w X) => check32_any g av tv lv kv mv bv xv ms x r X (hg.below hX) (hl.below hX) (hr.below hX) hs)
 have cW := hide (fun X (hX : Below w.heap.size w X) (t : TierD) (h1 : ∃ a n c,av = .slice a n c) (h2 : ∃ a n c,tv = .slice a n c) => wins32_any g t av tv lv kv mv bv xv x r X (hl.below hX) (hr.below hX) h1 h2)
 have hT := hide (fun X (hX : Below w.heap.size w X) => (hg.below hX).2.2)
 obtain ⟨la,ln,lc,rfl⟩ := Rd.shape hl.1
 obtain ⟨ka,kn,kc,rfl⟩ := Rd.shape hl.2
 obtain ⟨ma,mn,mc,rfl⟩ := Rd.shape hr.1
 obtain ⟨ba,bn,bc,rfl⟩ := Rd.shape hr.2.1
 obtain ⟨xa,xn,xc,rfl⟩ := Rd.shape hr.2.2
 obtain ⟨aa,ac,rfl,-,-⟩ := hg.1.1.shape
 obtain ⟨ta,tc,rfl,htl,htm⟩ := hg.2.2.shape
 obtain ⟨M,hM⟩ : ∃ M,M = g.tiers.length := ⟨_,rfl⟩
 have hM63 : (M : Int) ≤ 9223372036854775807 := by unfold maxLen at htm;omega
 rw [← hM] at cK cW hT ⊢
 unfold gameVal lineVal resVal at cK
 unfold gameVal tierVal lineVal resVal at cW
 unfold gameVal lineVal resVal
 unfold tierP
 replace hM := hide hM
 clear hg hl hr htl htm
 by_cases hc : checkM g x r = 0
 rotate_left
 ·rw [if_pos hc]
  obtain ⟨c,hcc⟩ : ∃ c,c = checkM g x r := ⟨_,rfl⟩
  rw [← hcc] at cK hc ⊢
  have hcb : (c != 0) = true := by simpa using hc
  replace hc := hide hc
  clear hcc cW hT
  go_enter Tryz.func28,Tryz.ntmps28
  go_upto_region 1 with (fail)
  obtain ⟨W,hW⟩ : ∃ W,W = (((w.alloc (Obj.cells #[.string g.name,.int .i64 g.kind,.int .i64 g.price,.int .i64 g.main,.int .i64 g.of,.int .i64 g.bonus,.int .i64 g.bonusOf,.int .i64 g.extra,.int .i64 g.draws,.int .i64 g.system,.int .i64 g.days,.int .i64 g.at_,.int .i64 g.close,.int .i64 g.cancel,.int .i64 g.expiry,.int .i64 g.pool,.int .i64 g.reserve,.int .i64 g.round,.int .i64 g.cap,.int .i64 g.rolls,(.slice aa ms.length ac),(.slice ta M tc)] 25)).alloc (Obj.cells #[(.slice la ln lc),(.slice ka kn kc)] 58)).alloc (Obj.cells #[.slice ma mn mc,.slice ba bn bc,.slice xa xn xc,.int .i64 r.factor,.string r.serial] 29)) := ⟨_,rfl⟩
  have bW : Below w.heap.size w W := by rw [hW];exact Bel.al (Bel.al (Bel.al (Below.refl _ _) _) _) _
  have r0 : GameAt W (w.heap.size) g ((.slice aa ms.length ac)) ((.slice ta M tc)) := by rw [hW];exact Row.alloc (Row.alloc (Row.new _ _ _) _) _
  have r1 : LineAt W (w.heap.size + 1) ((.slice la ln lc)) ((.slice ka kn kc)) := by rw [hW];exact Row.alloc (Row.at2 _ _ _ _) _
  have r2 : Row W ((w.heap.size + 1 + 1)) 29 [.slice ma mn mc,.slice ba bn bc,.slice xa xn xc,.int .i64 r.factor,.string r.serial] := by rw [hW];exact Row.at3 _ _ _ _ _
  have sW : w.heap.size + 1 + 1 < W.heap.size := by rw [hW];simp
  rw [← hW]
  clear hW
  go_wp2_with (first | (refine wpList_load_row rfl 25 _ rfl _ rfl _ _ _ _ r0 Tryz.underlying25 rfl (by kernel_rfl) ?_) | (refine wpList_load_row rfl 58 _ rfl _ rfl _ _ _ _ r1 Tryz.underlying58 rfl (by kernel_rfl) ?_) | (refine wpList_load_row rfl 29 _ rfl _ rfl _ _ _ _ r2 Tryz.underlying29 rfl (by kernel_rfl) ?_) | fail)
  refine (cK.out _ bW).mono ?_
  rintro e w1 ⟨rfl,hb1⟩
  go_wp2
  go_ret2
  exact ⟨rfl,Bel.to bW hb1⟩
 rw [if_neg (by simpa using hc)]
 rw [hc] at cK
 obtain ⟨R,hR⟩ : ∃ R,R = tierM g x r := ⟨_,rfl⟩
 rw [← hR]
 have hR0 : Hid (tierGo (meetM g x r) (g.tiers.drop 0) 0 = R) := by show _ = _;rw [List.drop_zero,hR];rfl
 replace hc := hide hc
 clear hR
 go_enter Tryz.func28,Tryz.ntmps28
 go_upto_region 1 with (fail)
 obtain ⟨W,hW⟩ : ∃ W,W = (((w.alloc (Obj.cells #[.string g.name,.int .i64 g.kind,.int .i64 g.price,.int .i64 g.main,.int .i64 g.of,.int .i64 g.bonus,.int .i64 g.bonusOf,.int .i64 g.extra,.int .i64 g.draws,.int .i64 g.system,.int .i64 g.days,.int .i64 g.at_,.int .i64 g.close,.int .i64 g.cancel,.int .i64 g.expiry,.int .i64 g.pool,.int .i64 g.reserve,.int .i64 g.round,.int .i64 g.cap,.int .i64 g.rolls,(.slice aa ms.length ac),(.slice ta M tc)] 25)).alloc (Obj.cells #[(.slice la ln lc),(.slice ka kn kc)] 58)).alloc (Obj.cells #[.slice ma mn mc,.slice ba bn bc,.slice xa xn xc,.int .i64 r.factor,.string r.serial] 29)) := ⟨_,rfl⟩
 have bW : Below w.heap.size w W := by rw [hW];exact Bel.al (Bel.al (Bel.al (Below.refl _ _) _) _) _
 have r0 : GameAt W (w.heap.size) g ((.slice aa ms.length ac)) ((.slice ta M tc)) := by rw [hW];exact Row.alloc (Row.alloc (Row.new _ _ _) _) _
 have r1 : LineAt W (w.heap.size + 1) ((.slice la ln lc)) ((.slice ka kn kc)) := by rw [hW];exact Row.alloc (Row.at2 _ _ _ _) _
 have r2 : Row W ((w.heap.size + 1 + 1)) 29 [.slice ma mn mc,.slice ba bn bc,.slice xa xn xc,.int .i64 r.factor,.string r.serial] := by rw [hW];exact Row.at3 _ _ _ _ _
 have sW : w.heap.size + 1 + 1 < W.heap.size := by rw [hW];simp
 rw [← hW]
 clear hW
 go_wp2_with (first | (refine wpList_load_row rfl 25 _ rfl _ rfl _ _ _ _ r0 Tryz.underlying25 rfl (by kernel_rfl) ?_) | (refine wpList_load_row rfl 58 _ rfl _ rfl _ _ _ _ r1 Tryz.underlying58 rfl (by kernel_rfl) ?_) | (refine wpList_load_row rfl 29 _ rfl _ rfl _ _ _ _ r2 Tryz.underlying29 rfl (by kernel_rfl) ?_) | fail)
 refine (cK.out _ bW).mono ?_
 rintro e w1 ⟨rfl,hb1⟩
 have B1 := hide (Bel.to bW hb1)
 have Q0 := hide (r0.keep hb1)
 have Q1 := hide (r1.keep hb1)
 have Q2 := hide (Row.keep r2 hb1)
 clear r0 r1 r2 hb1 bW cK
 go_wp2
 go_loopg [9] M (fun gh t9 wr => ∃ (i : Nat),gh = M - i ∧ i ≤ M ∧ t9 = .int .i64 (i : Int) ∧ Hid (Below w1.heap.size w1 wr) ∧ Hid (tierGo (meetM g x r) (g.tiers.drop i) i = R))
 case atStart => exact ⟨0,rfl,Nat.zero_le _,rfl,Below.refl _ _,hR0⟩
 case round =>
  obtain ⟨i,hgh,hi,rfl,hB,hRi⟩ := hrel
  replace hgh := hide hgh
  have R0 : Row wr w.heap.size 25 (gameCells g (.slice aa ms.length ac) (.slice ta M tc)) := Row.keep Q0.out hB.out
  have R1 : Row wr (w.heap.size + 1) 58 [.slice la ln lc,.slice ka kn kc] := Row.keep Q1.out hB.out
  have R2 : Row wr (w.heap.size + 1 + 1) 29 [.slice ma mn mc,.slice ba bn bc,.slice xa xn xc,.int .i64 r.factor,.string r.serial] := Row.keep Q2.out hB.out
  have x21 : wr.cell? ⟨w.heap.size,21,none⟩ = some (.slice ta M tc) := (R0.cell? 21).trans rfl
  have BW : Below w.heap.size w wr := Bel.to B1.out hB.out
  by_cases hlt : i < M
  ·have hlt2 := hide hlt
   have hil : i < g.tiers.length := by rw [← hM.out];exact hlt
   obtain ⟨b9,o9,rfl,hb9',hcell⟩ := (hT.out wr BW).at_ hil
   obtain ⟨t,ht⟩ : ∃ t,t = g.tiers[i] := ⟨_,rfl⟩
   have hti : g.tiers[i]? = some t := by rw [ht];exact List.getElem?_eq_getElem hil
   have hrange : wr.drew.rangeAt b9 (o9 + i * 6) [.int .i64 t.main,.int .i64 t.bonus,.int .i64 t.extra,.int .i64 t.mode,.int .i64 t.kind,.int .i64 t.value] := fun j u hu => hcell i t hti j u hu
   have hR2 := hRi.out
   rw [tierGo_drop hil,← ht] at hR2
   have bd : Below wr.heap.size wr wr.drew := Below.drewSelf wr
   have cT := hide (cW.out wr.drew (Bel.to BW bd) t ⟨_,_,_,rfl⟩ ⟨_,_,_,rfl⟩)
   have i1 : (0 : Int) ≤ (i : Int) := by omega
   have i2 : (i : Int) < (M : Int) := by omega
   obtain ⟨q,hq⟩ : ∃ q,q = meetM g x r t := ⟨_,rfl⟩
   rw [← hq] at cT hR2
   clear hcell hti ht hRi hq
   cases q with
   | true =>
    rw [if_pos rfl] at hR2
    subst hR2
    go_upto_region 7 with (fail)
    refine wp_region_held_drew (S := fun X => Rng X [(w.heap.size,gameCells g (.slice aa ms.length ac) (.slice (some ⟨b9,o9,none⟩) M tc)),(w.heap.size + 1,[.slice la ln lc,.slice ka kn kc]),(w.heap.size + 1 + 1,[.slice ma mn mc,.slice ba bn bc,.slice xa xn xc,.int .i64 r.factor,.string r.serial])] ∧ X.rangeAt b9 (o9 + i * 6) [.int .i64 t.main,.int .i64 t.bonus,.int .i64 t.extra,.int .i64 t.mode,.int .i64 t.kind,.int .i64 t.value]) (by kernel_rfl) (⟨Rng.drew (Rng.cons R0 (Rng.cons R1 (Rng.cons R2 (Rng.nil _)))),hrange⟩) (fun hHeld => ?_)
    refine' wpAnyH_take (i := 0) (oi := _) (v := _) rfl (by kernel_rfl) (by kernel_rfl) (by kernel_rfl) (fun _ _ _ h => h) (yieldsIf_load_mid (by first | (go_simp;done) | rfl) 25 (.tmp 3) rfl (w.heap.size) (0) rfl (gameCells g (.slice aa ms.length ac) (.slice (some ⟨b9,o9,none⟩) M tc)) _ (fun X h => Rng.at0 h.1) Tryz.underlying25 rfl (by kernel_rfl)) hHeld ?_
    try simp only [Act.put,zsA,zsB,zsC]
    refine' wpAnyH_take (i := 1) (oi := _) (v := .pointer (some ⟨w.heap.size,21,none⟩)) rfl (by kernel_rfl) (by kernel_rfl) (by kernel_rfl) (fun _ _ _ h => h) (Or.inl ⟨by first | (go_simp;done) | rfl,fun X _ => by go_simp⟩) hHeld ?_
    try simp only [Act.put,zsA,zsB,zsC]
    refine' wpAnyH_take (i := 2) (oi := _) (v := .slice (some ⟨b9,o9,none⟩) M tc) rfl (by kernel_rfl) (by kernel_rfl) (by kernel_rfl) (fun _ _ _ h => h) (Or.inl ⟨by first | (go_simp;done) | rfl,fun X hX => by have cX := Rng.cell0 hX.1 21 _ rfl;go_simp⟩) hHeld ?_
    try simp only [Act.put,zsA,zsB,zsC]
    refine' wpAnyH_take (i := 3) (oi := _) (v := .int .i64 (i : Int)) rfl (by kernel_rfl) (by kernel_rfl) (by kernel_rfl) (fun _ _ _ h => h) (Or.inl ⟨by first | (go_simp;done) | rfl,fun X _ => by go_simp⟩) hHeld ?_
    try simp only [Act.put,zsA,zsB,zsC]
    refine' wpAnyH_take (i := 4) (oi := _) (v := .pointer (some ⟨b9,o9 + i * 6,none⟩)) rfl (by kernel_rfl) (by kernel_rfl) (by kernel_rfl) (fun _ _ _ h => h) (Or.inl ⟨by first | (go_simp;done) | rfl,fun X _ => by go_simp⟩) hHeld ?_
    try simp only [Act.put,zsA,zsB,zsC]
    refine' wpAnyH_take (i := 5) (oi := _) (v := .agg #[.int .i64 t.main,.int .i64 t.bonus,.int .i64 t.extra,.int .i64 t.mode,.int .i64 t.kind,.int .i64 t.value]) rfl (by kernel_rfl) (by kernel_rfl) (by kernel_rfl) (fun _ _ _ h => h) (by refine (yieldsIf_load_mid ?_ 81 (.tmp 28) rfl b9 (o9 + i * 6) ?_ ([.int .i64 t.main,.int .i64 t.bonus,.int .i64 t.extra,.int .i64 t.mode,.int .i64 t.kind,.int .i64 t.value]) _ (fun X h => h.2) Tryz.underlying81 rfl (by kernel_rfl)) <;> go_simp) hHeld ?_
    try simp only [Act.put,zsA,zsB,zsC]
    refine' wpAnyH_take (i := 6) (oi := _) (v := .agg #[.slice la ln lc,.slice ka kn kc]) rfl (by kernel_rfl) (by kernel_rfl) (by kernel_rfl) (fun _ _ _ h => h) (by refine (yieldsIf_load_mid ?_ 58 (.tmp 4) rfl (w.heap.size + 1) (0) ?_ ([.slice la ln lc,.slice ka kn kc]) _ (fun X h => Rng.at1 h.1) Tryz.underlying58 rfl (by kernel_rfl)) <;> go_simp) hHeld ?_
    try simp only [Act.put,zsA,zsB,zsC]
    refine' wpAnyH_take (i := 7) (oi := _) (v := .agg #[.slice ma mn mc,.slice ba bn bc,.slice xa xn xc,.int .i64 r.factor,.string r.serial]) rfl (by kernel_rfl) (by kernel_rfl) (by kernel_rfl) (fun _ _ _ h => h) (by refine (yieldsIf_load_mid ?_ 29 (.tmp 5) rfl (w.heap.size + 1 + 1) (0) ?_ ([.slice ma mn mc,.slice ba bn bc,.slice xa xn xc,.int .i64 r.factor,.string r.serial]) _ (fun X h => Rng.at2 h.1) Tryz.underlying29 rfl (by kernel_rfl)) <;> go_simp) hHeld ?_
    try simp only [Act.put,zsA,zsB,zsC]
    refine wpAnyH_ready (rs := [8]) (by kernel_rfl) (by simp) ?_
    refine AllReadyH.cons (o := _) rfl (fun K hK => ?_) AllReadyH.nil
    go_simp
    refine (cT.out).mono ?_
    rintro e w9 ⟨rfl,hb9⟩
    go_wp2_with fail
    refine hK.out _ _ (⟨Rng.keep hHeld.1 hb9,fun j u hu => Bel.cellOf hb9 (hHeld.2 j u hu)⟩) (fun hHeld => ?_)
    clear hK K
    try simp only [Act.put,zsA,zsB,zsC]
    refine wpAnyH_done (by kernel_rfl) ?_ _
    go_simp
    clear hHeld
    go_wp2
    go_ret2
    exact ⟨rfl,Bel.to BW (Bel.to bd hb9)⟩
   | false =>
    rw [if_neg (by simp)] at hR2
    replace hR2 := hide hR2
    go_upto_region 7 with (fail)
    refine wp_region_held_drew (S := fun X => Rng X [(w.heap.size,gameCells g (.slice aa ms.length ac) (.slice (some ⟨b9,o9,none⟩) M tc)),(w.heap.size + 1,[.slice la ln lc,.slice ka kn kc]),(w.heap.size + 1 + 1,[.slice ma mn mc,.slice ba bn bc,.slice xa xn xc,.int .i64 r.factor,.string r.serial])] ∧ X.rangeAt b9 (o9 + i * 6) [.int .i64 t.main,.int .i64 t.bonus,.int .i64 t.extra,.int .i64 t.mode,.int .i64 t.kind,.int .i64 t.value]) (by kernel_rfl) (⟨Rng.drew (Rng.cons R0 (Rng.cons R1 (Rng.cons R2 (Rng.nil _)))),hrange⟩) (fun hHeld => ?_)
    refine' wpAnyH_take (i := 0) (oi := _) (v := _) rfl (by kernel_rfl) (by kernel_rfl) (by kernel_rfl) (fun _ _ _ h => h) (yieldsIf_load_mid (by first | (go_simp;done) | rfl) 25 (.tmp 3) rfl (w.heap.size) (0) rfl (gameCells g (.slice aa ms.length ac) (.slice (some ⟨b9,o9,none⟩) M tc)) _ (fun X h => Rng.at0 h.1) Tryz.underlying25 rfl (by kernel_rfl)) hHeld ?_
    try simp only [Act.put,zsA,zsB,zsC]
    refine' wpAnyH_take (i := 1) (oi := _) (v := .pointer (some ⟨w.heap.size,21,none⟩)) rfl (by kernel_rfl) (by kernel_rfl) (by kernel_rfl) (fun _ _ _ h => h) (Or.inl ⟨by first | (go_simp;done) | rfl,fun X _ => by go_simp⟩) hHeld ?_
    try simp only [Act.put,zsA,zsB,zsC]
    refine' wpAnyH_take (i := 2) (oi := _) (v := .slice (some ⟨b9,o9,none⟩) M tc) rfl (by kernel_rfl) (by kernel_rfl) (by kernel_rfl) (fun _ _ _ h => h) (Or.inl ⟨by first | (go_simp;done) | rfl,fun X hX => by have cX := Rng.cell0 hX.1 21 _ rfl;go_simp⟩) hHeld ?_
    try simp only [Act.put,zsA,zsB,zsC]
    refine' wpAnyH_take (i := 3) (oi := _) (v := .int .i64 (i : Int)) rfl (by kernel_rfl) (by kernel_rfl) (by kernel_rfl) (fun _ _ _ h => h) (Or.inl ⟨by first | (go_simp;done) | rfl,fun X _ => by go_simp⟩) hHeld ?_
    try simp only [Act.put,zsA,zsB,zsC]
    refine' wpAnyH_take (i := 4) (oi := _) (v := .pointer (some ⟨b9,o9 + i * 6,none⟩)) rfl (by kernel_rfl) (by kernel_rfl) (by kernel_rfl) (fun _ _ _ h => h) (Or.inl ⟨by first | (go_simp;done) | rfl,fun X _ => by go_simp⟩) hHeld ?_
    try simp only [Act.put,zsA,zsB,zsC]
    refine' wpAnyH_take (i := 5) (oi := _) (v := .agg #[.int .i64 t.main,.int .i64 t.bonus,.int .i64 t.extra,.int .i64 t.mode,.int .i64 t.kind,.int .i64 t.value]) rfl (by kernel_rfl) (by kernel_rfl) (by kernel_rfl) (fun _ _ _ h => h) (by refine (yieldsIf_load_mid ?_ 81 (.tmp 28) rfl b9 (o9 + i * 6) ?_ ([.int .i64 t.main,.int .i64 t.bonus,.int .i64 t.extra,.int .i64 t.mode,.int .i64 t.kind,.int .i64 t.value]) _ (fun X h => h.2) Tryz.underlying81 rfl (by kernel_rfl)) <;> go_simp) hHeld ?_
    try simp only [Act.put,zsA,zsB,zsC]
    refine' wpAnyH_take (i := 6) (oi := _) (v := .agg #[.slice la ln lc,.slice ka kn kc]) rfl (by kernel_rfl) (by kernel_rfl) (by kernel_rfl) (fun _ _ _ h => h) (by refine (yieldsIf_load_mid ?_ 58 (.tmp 4) rfl (w.heap.size + 1) (0) ?_ ([.slice la ln lc,.slice ka kn kc]) _ (fun X h => Rng.at1 h.1) Tryz.underlying58 rfl (by kernel_rfl)) <;> go_simp) hHeld ?_
    try simp only [Act.put,zsA,zsB,zsC]
    refine' wpAnyH_take (i := 7) (oi := _) (v := .agg #[.slice ma mn mc,.slice ba bn bc,.slice xa xn xc,.int .i64 r.factor,.string r.serial]) rfl (by kernel_rfl) (by kernel_rfl) (by kernel_rfl) (fun _ _ _ h => h) (by refine (yieldsIf_load_mid ?_ 29 (.tmp 5) rfl (w.heap.size + 1 + 1) (0) ?_ ([.slice ma mn mc,.slice ba bn bc,.slice xa xn xc,.int .i64 r.factor,.string r.serial]) _ (fun X h => Rng.at2 h.1) Tryz.underlying29 rfl (by kernel_rfl)) <;> go_simp) hHeld ?_
    try simp only [Act.put,zsA,zsB,zsC]
    refine wpAnyH_ready (rs := [8]) (by kernel_rfl) (by simp) ?_
    refine AllReadyH.cons (o := _) rfl (fun K hK => ?_) AllReadyH.nil
    go_simp
    refine (cT.out).mono ?_
    rintro e w9 ⟨rfl,hb9⟩
    go_wp2_with fail
    refine hK.out _ _ (⟨Rng.keep hHeld.1 hb9,fun j u hu => Bel.cellOf hb9 (hHeld.2 j u hu)⟩) (fun hHeld => ?_)
    clear hK K
    try simp only [Act.put,zsA,zsB,zsC]
    refine wpAnyH_done (by kernel_rfl) ?_ _
    go_simp
    clear hHeld
    have hB9 : Hid (Below w1.heap.size w1 w9) := Bel.to hB.out (Bel.to bd hb9)
    clear R0 R1 R2 x21 BW hrange bd hb9 hB cT
    go_wp2
    go_roundg (M - (i + 1))
    case measure => have := hgh.out;have := hlt2.out;omega
    case rel => exact ⟨i + 1,rfl,by have := hlt2.out;omega,by go_num,hB9,hR2⟩
  ·have hR2 := hRi.out
   rw [List.drop_eq_nil_of_le (by have := hM.out;omega)] at hR2
   have hR3 : R = -1 := hR2.symm
   subst hR3
   have i2 : ¬ (i : Int) < (M : Int) := by omega
   clear hRi hR2 R0 R1 R2
   go_wp2
   go_ret2
   exact ⟨rfl,BW⟩
set_option maxHeartbeats 2000000 in
set_option maxRecDepth 100000 in
theorem takes34_any (m : TickM) (game : ByteArray) (draw : Int) (w : World) (h1 : InI m.d.first) (h2 : InI m.d.bet.draws) (h3 : InI draw) (hl : ∃ a n c,m.lv = .slice a n c) :
  Calls Tryz.prog 31 #[.agg m.cells.toArray,.string game,.int .i64 draw] w (BoolB (decide (m.d.game = game) && takesB m.d.first m.d.bet.draws draw) w) := by
 obtain ⟨⟨t1,gm,⟨tl,t4,t5,t6⟩,t7,t8,t9,t10,t11,t12,t13,t14⟩,lv⟩ := m
 obtain ⟨l1,l2,l3,rfl⟩ := hl
 simp only [] at h1 h2 ⊢
 unfold TickM.cells
 simp only []
 obtain ⟨f0,f1⟩ := h1
 obtain ⟨d0,d1⟩ := h2
 obtain ⟨r0',r1'⟩ := h3
 by_cases hg : gm = game
 rotate_left
 ·rw [decide_eq_false hg,Bool.false_and]
  have hnb := bytes_ne hg
  replace hg := hide hg
  go_enter Tryz.func31,Tryz.ntmps31
  go_upto_region 1 with (fail)
  obtain ⟨W,hW⟩ : ∃ W,W = (w.alloc (Obj.cells #[.string t1,.string gm,.slice l1 l2 l3,.bool t4,.int .i64 t5,.int .i64 t6,.string t7,.int .i64 t8,.int .i64 t9,.int .i64 t10,.int .i64 t11,.int .i64 t12,.int .i64 t13,.bool t14] 52)) := ⟨_,rfl⟩
  have bW : Below w.heap.size w W := by rw [hW];exact Bel.al (Below.refl _ _) _
  have r0 : Row W ((w.heap.size)) 52 [.string t1,.string gm,.slice l1 l2 l3,.bool t4,.int .i64 t5,.int .i64 t6,.string t7,.int .i64 t8,.int .i64 t9,.int .i64 t10,.int .i64 t11,.int .i64 t12,.int .i64 t13,.bool t14] := by rw [hW];exact Row.new _ _ _
  have sW : w.heap.size < W.heap.size := by rw [hW];simp
  rw [← hW]
  clear hW
  have x1 : W.cell? ⟨w.heap.size,1,none⟩ = some (.string gm) := (r0.cell? 1).trans rfl
  go_wp2
  go_ret
  exact ⟨rfl,bW⟩
 subst hg
 rw [decide_eq_true rfl,Bool.true_and]
 obtain ⟨P,hP⟩ : ∃ P,P = takesB t8 t5 draw := ⟨_,rfl⟩
 rw [← hP]
 unfold takesB at hP
 by_cases c1 : draw < t8
 ·rw [decide_eq_false (by omega)] at hP
  have e1 : decide (draw < t8) = true := decide_eq_true c1
  subst hP
  go_enter Tryz.func31,Tryz.ntmps31
  go_upto_region 1 with (fail)
  obtain ⟨W,hW⟩ : ∃ W,W = (w.alloc (Obj.cells #[.string t1,.string gm,.slice l1 l2 l3,.bool t4,.int .i64 t5,.int .i64 t6,.string t7,.int .i64 t8,.int .i64 t9,.int .i64 t10,.int .i64 t11,.int .i64 t12,.int .i64 t13,.bool t14] 52)) := ⟨_,rfl⟩
  have bW : Below w.heap.size w W := by rw [hW];exact Bel.al (Below.refl _ _) _
  have r0 : Row W ((w.heap.size)) 52 [.string t1,.string gm,.slice l1 l2 l3,.bool t4,.int .i64 t5,.int .i64 t6,.string t7,.int .i64 t8,.int .i64 t9,.int .i64 t10,.int .i64 t11,.int .i64 t12,.int .i64 t13,.bool t14] := by rw [hW];exact Row.new _ _ _
  have sW : w.heap.size < W.heap.size := by rw [hW];simp
  rw [← hW]
  clear hW
  have x1 : W.cell? ⟨w.heap.size,1,none⟩ = some (.string gm) := (r0.cell? 1).trans rfl
  have x7 : W.cell? ⟨w.heap.size,7,none⟩ = some (.int .i64 t8) := (r0.cell? 7).trans rfl
  go_wp2
  go_ret
  exact ⟨rfl,bW⟩
 ·have e1 : decide (draw < t8) = false := decide_eq_false c1
  by_cases c2 : t5 < 1
  ·rw [decide_eq_false (by omega)] at hP
   have e2 : decide (t5 < 1) = true := decide_eq_true c2
   subst hP
   go_enter Tryz.func31,Tryz.ntmps31
   go_upto_region 1 with (fail)
   obtain ⟨W,hW⟩ : ∃ W,W = (w.alloc (Obj.cells #[.string t1,.string gm,.slice l1 l2 l3,.bool t4,.int .i64 t5,.int .i64 t6,.string t7,.int .i64 t8,.int .i64 t9,.int .i64 t10,.int .i64 t11,.int .i64 t12,.int .i64 t13,.bool t14] 52)) := ⟨_,rfl⟩
   have bW : Below w.heap.size w W := by rw [hW];exact Bel.al (Below.refl _ _) _
   have r0 : Row W ((w.heap.size)) 52 [.string t1,.string gm,.slice l1 l2 l3,.bool t4,.int .i64 t5,.int .i64 t6,.string t7,.int .i64 t8,.int .i64 t9,.int .i64 t10,.int .i64 t11,.int .i64 t12,.int .i64 t13,.bool t14] := by rw [hW];exact Row.new _ _ _
   have sW : w.heap.size < W.heap.size := by rw [hW];simp
   rw [← hW]
   clear hW
   have x1 : W.cell? ⟨w.heap.size,1,none⟩ = some (.string gm) := (r0.cell? 1).trans rfl
   have x7 : W.cell? ⟨w.heap.size,7,none⟩ = some (.int .i64 t8) := (r0.cell? 7).trans rfl
   have x4 : W.cell? ⟨w.heap.size,4,none⟩ = some (.int .i64 t5) := (r0.cell? 4).trans rfl
   go_wp2
   go_ret
   exact ⟨rfl,bW⟩
  ·have e2 : decide (t5 < 1) = false := decide_eq_false c2
   have hPe : P = decide (draw - t8 < t5) := by
    rw [hP]
    by_cases c3 : draw - t8 < t5
    ·rw [decide_eq_true c3,decide_eq_true (by omega)]
    ·rw [decide_eq_false c3,decide_eq_false (by omega)]
   clear hP
   replace hPe := hide hPe
   have hw9 : IntKind.u64.wrap (IntKind.u64.wrap draw - IntKind.u64.wrap t8) = draw - t8 := by
    rw [IntKind.wrap_u64,IntKind.wrap_u64,IntKind.wrap_u64]
    omega
   go_enter Tryz.func31,Tryz.ntmps31
   go_upto_region 1 with (fail)
   obtain ⟨W,hW⟩ : ∃ W,W = (w.alloc (Obj.cells #[.string t1,.string gm,.slice l1 l2 l3,.bool t4,.int .i64 t5,.int .i64 t6,.string t7,.int .i64 t8,.int .i64 t9,.int .i64 t10,.int .i64 t11,.int .i64 t12,.int .i64 t13,.bool t14] 52)) := ⟨_,rfl⟩
   have bW : Below w.heap.size w W := by rw [hW];exact Bel.al (Below.refl _ _) _
   have r0 : Row W ((w.heap.size)) 52 [.string t1,.string gm,.slice l1 l2 l3,.bool t4,.int .i64 t5,.int .i64 t6,.string t7,.int .i64 t8,.int .i64 t9,.int .i64 t10,.int .i64 t11,.int .i64 t12,.int .i64 t13,.bool t14] := by rw [hW];exact Row.new _ _ _
   have sW : w.heap.size < W.heap.size := by rw [hW];simp
   rw [← hW]
   clear hW
   have x1 : W.cell? ⟨w.heap.size,1,none⟩ = some (.string gm) := (r0.cell? 1).trans rfl
   have x7 : W.cell? ⟨w.heap.size,7,none⟩ = some (.int .i64 t8) := (r0.cell? 7).trans rfl
   have x4 : W.cell? ⟨w.heap.size,4,none⟩ = some (.int .i64 t5) := (r0.cell? 4).trans rfl
   go_wp2
   go_ret
   exact ⟨by rw [hPe.out];rfl,bW⟩
theorem wpList_load_mid_ifE {P : Program} {w : World} {ops : Array Oper} {rest : List Oper} {op : Oper} {a : Act} {Q : Exit → Act → World → Prop} (hgd : Region.wanted op (yielded ops a.tmps) = true) (ty : TypeId) (x : Operand) (ho : op.op = .load ty x)
  (b o : Nat) (hx : a.eval x = .pointer (some ⟨b,o,none⟩)) (cs : List Value) (d : TypeDesc) (hc : w.rangeAt b o cs)
  (hu : P.underlying ty = some d) (hd : d.isRow = true) (hi : (P.info? ty).map (·.size) = some cs.length)
  (h : wpList P ops Q rest (a.put op.dst (.agg cs.toArray)) w) : wpList P ops Q (op :: rest) a w :=
 wpList_step fun K hK => by rw [if_pos hgd];exact wp_load_mid ty x ho b o hx cs d hc hu hd hi (hK _ _ h)
set_option maxHeartbeats 8000000 in
set_option maxRecDepth 100000 in
theorem religible_any (v : Value) (ms : List TickM) (game : ByteArray) (draw : Int) (w : World) (h : TicketsR w v ms) (hd : InI draw) (hs : ms.length ≤ 1000) :
  Calls Tryz.prog 17 #[v,.string game,.int .i64 draw] w (CloneP (eligP (ms.map (·.d)) game draw) w) := by
 obtain ⟨ts,hts⟩ : ∃ ts,ts = ms.map (·.d) := ⟨_,rfl⟩
 rw [← hts]
 obtain ⟨R,hR⟩ : ∃ R,R = eligP ts game draw := ⟨_,rfl⟩
 rw [← hR]
 obtain ⟨ao,cap,rfl,hle,hmax⟩ := h.1.shape
 have hlen : ms.length = ts.length := by rw [hts,List.length_map]
 obtain ⟨n,hn⟩ : ∃ n,n = ms.length := ⟨_,rfl⟩
 have hnm : n ≤ 1000 := by omega
 have hh := hide (fun X (hX : Below w.heap.size w X) => h.below hX)
 rw [← hn] at hh ⊢
 have hnh := hide hn
 replace hts := hide hts
 replace hR := hide hR
 replace hlen := hide hlen
 clear h hle hmax hn hs
 go_enter Tryz.func17,Tryz.ntmps17
 go_wp2
 go_loopg [7,8] n (fun gh v7 t wr => ∃ (i : Nat) (E : List Int) (ea : Option Addr) (ec : Nat),gh = n - i ∧ i ≤ n ∧ t = .int .i64 (i : Int) ∧ v7 = .slice ea E.length ec ∧ E.length ≤ i ∧ Own I64 wr w.heap.size 3 (.slice ea E.length ec) E ∧ Hid (E = (eligGo (eligB game draw) (ts.take i) 0).map fun p => (p.1 : Int)) ∧ Below w.heap.size w wr)
 case atStart => exact ⟨0,[],none,0,rfl,Nat.zero_le _,rfl,rfl,Nat.le_refl _,Own.nil _ _ _,rfl,Below.refl _ _⟩
 case round =>
  obtain ⟨i,E,ea,ec,hgh,hi,rfl,rfl,hEi,hown,hE,hB⟩ := hrel
  replace hgh := hide hgh
  by_cases hlt : i < n
  ·have hlt2 := hide hlt
   have him : i < ms.length := by rw [← hnh.out];exact hlt
   have hit : i < ts.length := by rw [← hlen.out];exact him
   have hhw := hh.out wr hB
   obtain ⟨b,off,rfl,hbb,hcell⟩ := hhw.1.at_ him
   obtain ⟨m,hm⟩ : ∃ m,m = ms[i] := ⟨_,rfl⟩
   have hmi : ms[i]? = some m := by rw [hm];exact List.getElem?_eq_getElem him
   have htm : ts[i] = m.d := by
    have h9 : ts[i]? = some m.d := by rw [hts.out,List.getElem?_map,hmi];rfl
    rw [List.getElem?_eq_getElem hit] at h9
    injection h9
   have hR9 := hhw.2 m (by rw [hm];exact List.getElem_mem him)
   have hsn := eligGo_snoc (eligB game draw) ts i hit
   rw [htm] at hsn
   have hE2 : (eligGo (eligB game draw) (ts.take (i + 1)) 0).map (fun p => (p.1 : Int)) = E ++ (if eligB game draw m.d then [(i : Int)] else []) := by
    rw [hsn,List.map_append,hE.out]
    split <;> rfl
   have hrange : wr.rangeAt b (off + i * 14) m.cells := fun j u hu => hcell i m hmi j u hu
   obtain ⟨hl9,hif,hid⟩ := hR9
   clear hcell hmi htm hsn hhw hm
   obtain ⟨⟨t1,gm,⟨tl,t4,t5,t6⟩,t7,t8,t9,t10,t11,t12,t13,t14⟩,lv⟩ := m
   unfold TickM.cells at hrange
   simp only [] at hrange hl9 hif hid hE2
   obtain ⟨l1,l3,rfl,-,-⟩ := hl9.shape
   obtain ⟨l2,hl2⟩ : ∃ x,x = tl.length := ⟨_,rfl⟩
   rw [← hl2] at hrange
   clear hl9 hl2
   have i1 : (0 : Int) ≤ (i : Int) := by omega
   have i2 : (i : Int) < (n : Int) := by omega
   have c13 : wr.cell? ⟨b,off + i * 14 + 13,none⟩ = some (.bool t14) := hrange 13 _ rfl
   have hel : eligB game draw ⟨t1,gm,⟨tl,t4,t5,t6⟩,t7,t8,t9,t10,t11,t12,t13,t14⟩ = (!t14 && (decide (gm = game) && takesB t8 t5 draw)) := by
    show (decide (gm = game) && !t14 && takesB t8 t5 draw) = _
    cases t14 <;> simp
   rw [hel] at hE2
   clear hel
   cases t14 with
   | true =>
    have hE3 : Hid (E = (eligGo (eligB game draw) (ts.take (i + 1)) 0).map fun p => (p.1 : Int)) := by show _ = _;rw [hE2];simp
    clear hE2 hE hrange
    go_wp2
    go_roundg (n - (i + 1))
    case measure => have := hgh.out;have := hlt2.out;omega
    case rel => exact ⟨i + 1,E,ea,ec,rfl,by have := hlt2.out;omega,by go_num,rfl,by omega,hown,hE3,hB⟩
   | false =>
    have cT := takes34_any ⟨⟨t1,gm,⟨tl,t4,t5,t6⟩,t7,t8,t9,t10,t11,t12,t13,false⟩,.slice l1 l2 l3⟩ game draw wr hif hid hd ⟨_,_,_,rfl⟩
    simp only [] at cT
    unfold TickM.cells at cT
    simp only [] at cT
    replace cT := hide cT
    obtain ⟨q,hq⟩ : ∃ q,q = (decide (gm = game) && takesB t8 t5 draw) := ⟨_,rfl⟩
    rw [← hq] at cT hE2
    clear hq hE
    cases q with
    | false =>
     have hE3 : Hid (E = (eligGo (eligB game draw) (ts.take (i + 1)) 0).map fun p => (p.1 : Int)) := by show _ = _;rw [hE2];simp
     clear hE2
     go_wp2_with (first | ((refine wpList_load_mid_ifE ?_ 52 _ rfl b (off + i * 14) ?_ [.string t1,.string gm,.slice l1 l2 l3,.bool t4,.int .i64 t5,.int .i64 t6,.string t7,.int .i64 t8,.int .i64 t9,.int .i64 t10,.int .i64 t11,.int .i64 t12,.int .i64 t13,.bool false] _ hrange Tryz.underlying52 rfl (by kernel_rfl) ?_);(focus (first | rfl | (go_simp;done)));(focus (first | rfl | (go_simp;done)))) | fail)
     refine cT.out.mono ?_
     rintro e w2 ⟨rfl,hb2⟩
     have hown2 := hown.keep hb2
     have B2 := Bel.to hB hb2
     clear hown hB hb2 hrange
     go_wp2
     go_roundg (n - (i + 1))
     case measure => have := hgh.out;have := hlt2.out;omega
     case rel => exact ⟨i + 1,E,ea,ec,rfl,by have := hlt2.out;omega,by go_num,rfl,by omega,hown2,hE3,B2⟩
    | true =>
     have hE3 : Hid (E ++ [(i : Int)] = (eligGo (eligB game draw) (ts.take (i + 1)) 0).map fun p => (p.1 : Int)) := by show _ = _;rw [hE2];simp
     clear hE2
     go_wp2_with (first | ((refine wpList_load_mid_ifE ?_ 52 _ rfl b (off + i * 14) ?_ [.string t1,.string gm,.slice l1 l2 l3,.bool t4,.int .i64 t5,.int .i64 t6,.string t7,.int .i64 t8,.int .i64 t9,.int .i64 t10,.int .i64 t11,.int .i64 t12,.int .i64 t13,.bool false] _ hrange Tryz.underlying52 rfl (by kernel_rfl) ?_);(focus (first | rfl | (go_simp;done)));(focus (first | rfl | (go_simp;done)))) | fail)
     refine cT.out.mono ?_
     rintro e w2 ⟨rfl,hb2⟩
     have hown1 := hown.keep hb2
     have B9 := Bel.to hB hb2
     clear hown hB hb2 hrange
     go_wp2_with (with_reducible refine wpList_append_rd _ rfl _ _ 27 rfl (V := I64) (fun _ => rfl) w.heap.size 3 (.int .i64 0) 8 Tryz.underlying27 infoInt rfl _ E rfl ?_ _ [(i : Int)] rfl ?_ ?_ ?_ ?_ ?_)
     case refine_1 => exact Own.alloc hown1 _
     case refine_2 => exact Rd.new [(i : Int)] rfl rfl (Nat.le_refl _) (by decide) rfl
     case refine_3 => simp;omega
     case refine_4 => simp;omega
     case refine_5 => have := B9.size;simp;omega
     intro v3 w3 hown3 hg3 hv3
     have B3 : Below w.heap.size w w3 := (Bel.al B9 _).grown hg3 (Bel.al B9 _).size (fun k hk => (hown1.lt k hk).1)
     obtain ⟨a3,c3,rfl⟩ := hown3.shape
     clear hg3 hv3 hown1
     go_wp2
     go_roundg (n - (i + 1))
     case measure => have := hgh.out;have := hlt2.out;omega
     case rel => exact ⟨i + 1,E ++ [(i : Int)],a3,c3,rfl,by have := hlt2.out;omega,by go_num,rfl,by simp;omega,hown3,hE3,B3⟩
  ·have hin : i = ts.length := by have := hnh.out;have := hlen.out;omega
   have hE2 := hE.out
   rw [hin,List.take_length] at hE2
   have hER : E = R := hE2.trans hR.out.symm
   subst hER
   replace hin := hide hin
   have i2 : ¬ (i : Int) < (n : Int) := by omega
   clear hE hE2
   go_wp2
   go_ret
   exact ⟨_,rfl,hown,hB⟩
set_option maxHeartbeats 16000000 in
set_option maxRecDepth 100000 in
theorem rwins_bad1 (g : GameD) (av tv v mv bv xv : Value) (ms : List AddonM) (tm : List TickM) (draw : Int) (r : ResD) (w : World) (hg : GameR w av tv ms g) (ht : TicketsR w v tm) (hr : ResR w mv bv xv r) (hs : r.serial.size ≤ 9223372036854775807) (hd : InI draw) (hn : tm.length ≤ 900) (he : gameE g ≠ 0) :
  Calls Tryz.prog 13 #[gameVal g av tv,v,.int .i64 draw,resVal mv bv xv r] w (WinsO [] (gameE g) w) := by
 have cN := hide (fun X (hX : Below w.heap.size w X) => rcheck_any g av tv ms X (hg.below hX))
 obtain ⟨c,hcc⟩ : ∃ c,c = gameE g := ⟨_,rfl⟩
 rw [← hcc] at cN he ⊢
 have hcb : (c != 0) = true := by simpa using he
 obtain ⟨aa,ac,rfl,hal,ham⟩ := hg.1.1.shape
 obtain ⟨ta,tc,rfl,htl,htm⟩ := hg.2.2.shape
 obtain ⟨tka0,tkc,rfl,htk1,htk2⟩ := ht.1.shape
 obtain ⟨ma,mc,rfl,-,-,-⟩ := hr.1.form
 obtain ⟨ba,bc,rfl,-,-,-⟩ := hr.2.1.form
 obtain ⟨xa,xc,rfl,-,-,-⟩ := hr.2.2.form
 clear hg ht hr hcc hal ham htl htm htk1 htk2
 replace he := hide he
 unfold gameVal at cN
 unfold gameVal resVal
 go_enter Tryz.func13,Tryz.ntmps13
 go_upto_region 1 with (fail)
 obtain ⟨W,hW⟩ : ∃ W,W = ((w.alloc (Obj.cells #[.string g.name,.int .i64 g.kind,.int .i64 g.price,.int .i64 g.main,.int .i64 g.of,.int .i64 g.bonus,.int .i64 g.bonusOf,.int .i64 g.extra,.int .i64 g.draws,.int .i64 g.system,.int .i64 g.days,.int .i64 g.at_,.int .i64 g.close,.int .i64 g.cancel,.int .i64 g.expiry,.int .i64 g.pool,.int .i64 g.reserve,.int .i64 g.round,.int .i64 g.cap,.int .i64 g.rolls,(.slice aa ms.length ac),(.slice ta g.tiers.length tc)] 25)).alloc (Obj.cells #[.slice ma r.main.length mc,.slice ba r.bonus.length bc,.slice xa r.extra.length xc,.int .i64 r.factor,.string r.serial] 29)) := ⟨_,rfl⟩
 have bW : Below w.heap.size w W := by rw [hW];exact Bel.al (Bel.al (Below.refl _ _) _) _
 have r0 : GameAt W (w.heap.size) g ((.slice aa ms.length ac)) ((.slice ta g.tiers.length tc)) := by rw [hW];exact Row.alloc (Row.new _ _ _) _
 have r1 : Row W ((w.heap.size + 1)) 29 [.slice ma r.main.length mc,.slice ba r.bonus.length bc,.slice xa r.extra.length xc,.int .i64 r.factor,.string r.serial] := by rw [hW];exact Row.at2 _ _ _ _
 have sW : w.heap.size + 1 < W.heap.size := by rw [hW];simp
 rw [← hW]
 clear hW
 go_wp2_with (first | (refine wpList_load_row rfl 25 _ rfl _ rfl _ _ _ _ r0 Tryz.underlying25 rfl (by kernel_rfl) ?_) | fail)
 refine (cN.out _ bW).mono ?_
 rintro e w1 ⟨s9,rfl,hb1⟩
 have B1 := Bel.to bW hb1
 have r0 := r0.keep hb1
 have r1 := Row.keep r1 hb1
 go_wp2
 go_ret2
 exact ⟨.slice none 0 0,rfl,OwnS.nil _ _ _,B1⟩
set_option maxHeartbeats 16000000 in
set_option maxRecDepth 100000 in
theorem rwins_bad2 (g : GameD) (av tv v mv bv xv : Value) (ms : List AddonM) (tm : List TickM) (draw : Int) (r : ResD) (w : World) (hg : GameR w av tv ms g) (ht : TicketsR w v tm) (hr : ResR w mv bv xv r) (hs : r.serial.size ≤ 9223372036854775807) (hd : InI draw) (hn : tm.length ≤ 900) (he : gameE g = 0) (hdr : draw < 1) :
  Calls Tryz.prog 13 #[gameVal g av tv,v,.int .i64 draw,resVal mv bv xv r] w (WinsO [] 2 w) := by
 have cN := hide (fun X (hX : Below w.heap.size w X) => rcheck_any g av tv ms X (hg.below hX))
 rw [he] at cN
 have hdb : decide (draw < 1) = true := decide_eq_true hdr
 obtain ⟨aa,ac,rfl,hal,ham⟩ := hg.1.1.shape
 obtain ⟨ta,tc,rfl,htl,htm⟩ := hg.2.2.shape
 obtain ⟨tka0,tkc,rfl,htk1,htk2⟩ := ht.1.shape
 obtain ⟨ma,mc,rfl,-,-,-⟩ := hr.1.form
 obtain ⟨ba,bc,rfl,-,-,-⟩ := hr.2.1.form
 obtain ⟨xa,xc,rfl,-,-,-⟩ := hr.2.2.form
 clear hg ht hr hal ham htl htm htk1 htk2
 replace he := hide he
 replace hdr := hide hdr
 unfold gameVal at cN
 unfold gameVal resVal
 go_enter Tryz.func13,Tryz.ntmps13
 go_upto_region 1 with (fail)
 obtain ⟨W,hW⟩ : ∃ W,W = ((w.alloc (Obj.cells #[.string g.name,.int .i64 g.kind,.int .i64 g.price,.int .i64 g.main,.int .i64 g.of,.int .i64 g.bonus,.int .i64 g.bonusOf,.int .i64 g.extra,.int .i64 g.draws,.int .i64 g.system,.int .i64 g.days,.int .i64 g.at_,.int .i64 g.close,.int .i64 g.cancel,.int .i64 g.expiry,.int .i64 g.pool,.int .i64 g.reserve,.int .i64 g.round,.int .i64 g.cap,.int .i64 g.rolls,(.slice aa ms.length ac),(.slice ta g.tiers.length tc)] 25)).alloc (Obj.cells #[.slice ma r.main.length mc,.slice ba r.bonus.length bc,.slice xa r.extra.length xc,.int .i64 r.factor,.string r.serial] 29)) := ⟨_,rfl⟩
 have bW : Below w.heap.size w W := by rw [hW];exact Bel.al (Bel.al (Below.refl _ _) _) _
 have r0 : GameAt W (w.heap.size) g ((.slice aa ms.length ac)) ((.slice ta g.tiers.length tc)) := by rw [hW];exact Row.alloc (Row.new _ _ _) _
 have r1 : Row W ((w.heap.size + 1)) 29 [.slice ma r.main.length mc,.slice ba r.bonus.length bc,.slice xa r.extra.length xc,.int .i64 r.factor,.string r.serial] := by rw [hW];exact Row.at2 _ _ _ _
 have sW : w.heap.size + 1 < W.heap.size := by rw [hW];simp
 rw [← hW]
 clear hW
 go_wp2_with (first | (refine wpList_load_row rfl 25 _ rfl _ rfl _ _ _ _ r0 Tryz.underlying25 rfl (by kernel_rfl) ?_) | fail)
 refine (cN.out _ bW).mono ?_
 rintro e w1 ⟨s9,rfl,hb1⟩
 have B1 := Bel.to bW hb1
 have r0 := r0.keep hb1
 have r1 := Row.keep r1 hb1
 go_wp2
 go_ret2
 exact ⟨.slice none 0 0,rfl,OwnS.nil _ _ _,B1⟩
set_option maxHeartbeats 16000000 in
set_option maxRecDepth 100000 in
theorem rwins_bad3 (g : GameD) (av tv v mv bv xv : Value) (ms : List AddonM) (tm : List TickM) (draw : Int) (r : ResD) (w : World) (hg : GameR w av tv ms g) (ht : TicketsR w v tm) (hr : ResR w mv bv xv r) (hs : r.serial.size ≤ 9223372036854775807) (hd : InI draw) (hn : tm.length ≤ 900) (he : gameE g = 0) (hdr : 1 ≤ draw) (hre : resE g r ≠ 0) :
  Calls Tryz.prog 13 #[gameVal g av tv,v,.int .i64 draw,resVal mv bv xv r] w (WinsO [] (resE g r) w) := by
 have cN := hide (fun X (hX : Below w.heap.size w X) => rcheck_any g av tv ms X (hg.below hX))
 rw [he] at cN
 have cD := hide (fun X (hX : Below w.heap.size w X) => rcheck28_any g av tv mv bv xv ms r X (hg.below hX) (hr.below hX) hs)
 obtain ⟨c,hcc⟩ : ∃ c,c = resE g r := ⟨_,rfl⟩
 rw [← hcc] at cD hre ⊢
 have hcb : (c != 0) = true := by simpa using hre
 have hdb : decide (draw < 1) = false := decide_eq_false (by omega)
 have hnb : decide ((2048 : Int) < (tm.length : Int)) = false := decide_eq_false (by omega)
 obtain ⟨aa,ac,rfl,hal,ham⟩ := hg.1.1.shape
 obtain ⟨ta,tc,rfl,htl,htm⟩ := hg.2.2.shape
 obtain ⟨tka0,tkc,rfl,htk1,htk2⟩ := ht.1.shape
 obtain ⟨ma,mc,rfl,-,-,-⟩ := hr.1.form
 obtain ⟨ba,bc,rfl,-,-,-⟩ := hr.2.1.form
 obtain ⟨xa,xc,rfl,-,-,-⟩ := hr.2.2.form
 obtain ⟨N,hN⟩ : ∃ N,N = tm.length := ⟨_,rfl⟩
 rw [← hN] at hnb ⊢
 clear hg ht hr hal ham htl htm htk1 htk2 hcc hn hN
 replace he := hide he
 replace hre := hide hre
 replace hdr := hide hdr
 unfold gameVal at cN
 unfold gameVal resVal at cD
 unfold gameVal resVal
 go_enter Tryz.func13,Tryz.ntmps13
 go_upto_region 1 with (fail)
 obtain ⟨W,hW⟩ : ∃ W,W = ((w.alloc (Obj.cells #[.string g.name,.int .i64 g.kind,.int .i64 g.price,.int .i64 g.main,.int .i64 g.of,.int .i64 g.bonus,.int .i64 g.bonusOf,.int .i64 g.extra,.int .i64 g.draws,.int .i64 g.system,.int .i64 g.days,.int .i64 g.at_,.int .i64 g.close,.int .i64 g.cancel,.int .i64 g.expiry,.int .i64 g.pool,.int .i64 g.reserve,.int .i64 g.round,.int .i64 g.cap,.int .i64 g.rolls,(.slice aa ms.length ac),(.slice ta g.tiers.length tc)] 25)).alloc (Obj.cells #[.slice ma r.main.length mc,.slice ba r.bonus.length bc,.slice xa r.extra.length xc,.int .i64 r.factor,.string r.serial] 29)) := ⟨_,rfl⟩
 have bW : Below w.heap.size w W := by rw [hW];exact Bel.al (Bel.al (Below.refl _ _) _) _
 have r0 : GameAt W (w.heap.size) g ((.slice aa ms.length ac)) ((.slice ta g.tiers.length tc)) := by rw [hW];exact Row.alloc (Row.new _ _ _) _
 have r1 : Row W ((w.heap.size + 1)) 29 [.slice ma r.main.length mc,.slice ba r.bonus.length bc,.slice xa r.extra.length xc,.int .i64 r.factor,.string r.serial] := by rw [hW];exact Row.at2 _ _ _ _
 have sW : w.heap.size + 1 < W.heap.size := by rw [hW];simp
 rw [← hW]
 clear hW
 go_wp2_with (first | (refine wpList_load_row rfl 25 _ rfl _ rfl _ _ _ _ r0 Tryz.underlying25 rfl (by kernel_rfl) ?_) | fail)
 refine (cN.out _ bW).mono ?_
 rintro e w1 ⟨s9,rfl,hb1⟩
 have B1 := Bel.to bW hb1
 have r0 := r0.keep hb1
 have r1 := Row.keep r1 hb1
 go_wp2_with (first | (refine wpList_load_row rfl 25 _ rfl _ rfl _ _ _ _ r0 Tryz.underlying25 rfl (by kernel_rfl) ?_) | (refine wpList_load_row rfl 29 _ rfl _ rfl _ _ _ _ r1 Tryz.underlying29 rfl (by kernel_rfl) ?_) | fail)
 refine (cD.out _ B1).mono ?_
 rintro e w2 ⟨rfl,hb⟩
 go_wp2
 go_ret2
 exact ⟨.slice none 0 0,rfl,OwnS.nil _ _ _,Bel.to B1 hb⟩
set_option maxHeartbeats 16000000 in
set_option maxRecDepth 100000 in
theorem rwins_ok (g : GameD) (av tv v mv bv xv : Value) (ms : List AddonM) (tm : List TickM) (draw : Int) (r : ResD) (w : World) (hg : GameR w av tv ms g) (ht : TicketsR w v tm) (hr : ResR w mv bv xv r) (hs : r.serial.size ≤ 9223372036854775807) (hd : InI draw) (hn : tm.length ≤ 900) (he : gameE g = 0) (hdr : 1 ≤ draw) (hre : resE g r = 0) :
  Calls Tryz.prog 13 #[gameVal g av tv,v,.int .i64 draw,resVal mv bv xv r] w (WinsO (winsE g r (eligT (tm.map (·.d)) g.name draw)).1 (winsE g r (eligT (tm.map (·.d)) g.name draw)).2 w) := by
 have cN := hide (fun X (hX : Below w.heap.size w X) => rcheck_any g av tv ms X (hg.below hX))
 rw [he] at cN
 obtain ⟨ts,hts⟩ : ∃ ts,ts = tm.map (·.d) := ⟨_,rfl⟩
 have hlen : tm.length = ts.length := by rw [hts,List.length_map]
 have htsi : ∀ (i : Nat) (hi : i < tm.length) (hi2 : i < ts.length),tm[i].d = ts[i] := by intro i hi hi2;subst hts;simp
 have cD := hide (fun X (hX : Below w.heap.size w X) => rcheck28_any g av tv mv bv xv ms r X (hg.below hX) (hr.below hX) hs)
 rw [hre] at cD
 have cE := hide (fun X (hX : Below w.heap.size w X) => religible_any v tm g.name draw X (ht.below hX) hd (by omega))
 rw [← hts] at cE ⊢
 obtain ⟨el,hel⟩ : ∃ el,el = eligT ts g.name draw := ⟨_,rfl⟩
 have hep : eligP ts g.name draw = el.map fun p => (p.1 : Int) := by rw [hel];rfl
 have helat : ∀ k (hk : k < el.length),∃ hk2 : el[k].1 < ts.length,ts[el[k].1] = el[k].2 := by intro k hk;subst hel;exact eligT_at hk
 have hell : el.length ≤ 900 := by have := eligT_len ts g.name draw;rw [← hel] at this;omega
 rw [hep] at cE
 rw [← hel]
 have cL := hide (fun X (hX : Below w.heap.size w X) lv B (hl : LinesR X lv B.lines) => r16lines_own g av tv lv ms B X (hg.below hX) hl)
 have cT := hide (fun X (hX : Below w.heap.size w X) lm lb (x : LineD) (hl : LineR X lm lb x.1 x.2) => tier32_any g av tv lm lb mv bv xv ms x r X (hg.below hX) hl (hr.below hX) hs)
 have hth := hide (fun X (hX : Below w.heap.size w X) => ht.below hX)
 have hdb : decide (draw < 1) = false := decide_eq_false (by omega)
 have hnb : decide ((2048 : Int) < (tm.length : Int)) = false := decide_eq_false (by omega)
 obtain ⟨P,hP⟩ : ∃ P,P = winsE g r el := ⟨_,rfl⟩
 rw [← hP]
 obtain ⟨aa,ac,rfl,hal,ham⟩ := hg.1.1.shape
 obtain ⟨ta,tc,rfl,htl,htm⟩ := hg.2.2.shape
 obtain ⟨tka0,tkc,rfl,htk1,htk2⟩ := ht.1.shape
 obtain ⟨ma,mc,rfl,-,-,-⟩ := hr.1.form
 obtain ⟨ba,bc,rfl,-,-,-⟩ := hr.2.1.form
 obtain ⟨xa,xc,rfl,-,-,-⟩ := hr.2.2.form
 obtain ⟨N,hN⟩ : ∃ N,N = tm.length := ⟨_,rfl⟩
 have hNn : N ≤ 900 := by omega
 rw [← hN] at hnb hth cE ⊢
 obtain ⟨n,hnn⟩ : ∃ n,n = el.length := ⟨_,rfl⟩
 have hnl : n ≤ 900 := by omega
 have hn9 : (n : Int) ≤ 900 := by omega
 have hNh := hide hN
 have hnnh := hide hnn
 replace hP := hide hP
 have hreh := hide hre
 have htsi := hide htsi
 have helat := hide helat
 have hlen := hide hlen
 clear hg ht hr hal ham htl htm htk1 htk2 hn hN hnn hre hel hts hep hell hs hd
 replace he := hide he
 replace hdr := hide hdr
 unfold gameVal at cN
 unfold gameVal resVal at cD
 unfold gameVal betVal at cL
 unfold gameVal lineVal resVal at cT
 unfold gameVal resVal
 go_enter Tryz.func13,Tryz.ntmps13
 go_upto_region 1 with (fail)
 obtain ⟨W,hW⟩ : ∃ W,W = ((w.alloc (Obj.cells #[.string g.name,.int .i64 g.kind,.int .i64 g.price,.int .i64 g.main,.int .i64 g.of,.int .i64 g.bonus,.int .i64 g.bonusOf,.int .i64 g.extra,.int .i64 g.draws,.int .i64 g.system,.int .i64 g.days,.int .i64 g.at_,.int .i64 g.close,.int .i64 g.cancel,.int .i64 g.expiry,.int .i64 g.pool,.int .i64 g.reserve,.int .i64 g.round,.int .i64 g.cap,.int .i64 g.rolls,(.slice aa ms.length ac),(.slice ta g.tiers.length tc)] 25)).alloc (Obj.cells #[.slice ma r.main.length mc,.slice ba r.bonus.length bc,.slice xa r.extra.length xc,.int .i64 r.factor,.string r.serial] 29)) := ⟨_,rfl⟩
 have bW : Below w.heap.size w W := by rw [hW];exact Bel.al (Bel.al (Below.refl _ _) _) _
 have r0 : GameAt W (w.heap.size) g ((.slice aa ms.length ac)) ((.slice ta g.tiers.length tc)) := by rw [hW];exact Row.alloc (Row.new _ _ _) _
 have r1 : Row W ((w.heap.size + 1)) 29 [.slice ma r.main.length mc,.slice ba r.bonus.length bc,.slice xa r.extra.length xc,.int .i64 r.factor,.string r.serial] := by rw [hW];exact Row.at2 _ _ _ _
 have sW : w.heap.size + 1 < W.heap.size := by rw [hW];simp
 rw [← hW]
 clear hW
 go_wp2_with (first | (refine wpList_load_row rfl 25 _ rfl _ rfl _ _ _ _ r0 Tryz.underlying25 rfl (by kernel_rfl) ?_) | fail)
 refine (cN.out _ bW).mono ?_
 rintro e w1 ⟨s9,rfl,hb1⟩
 have B1 := Bel.to bW hb1
 have r0 := r0.keep hb1
 have r1 := Row.keep r1 hb1
 go_wp2_with (first | (refine wpList_load_row rfl 25 _ rfl _ rfl _ _ _ _ r0 Tryz.underlying25 rfl (by kernel_rfl) ?_) | (refine wpList_load_row rfl 29 _ rfl _ rfl _ _ _ _ r1 Tryz.underlying29 rfl (by kernel_rfl) ?_) | fail)
 refine (cD.out _ B1).mono ?_
 rintro e w2 ⟨rfl,hb⟩
 have B2 := Bel.to B1 hb
 have r0 := r0.keep hb
 have r1 := Row.keep r1 hb
 have c0 := r0.name
 clear hb B1 cD bW sW hb1
 go_wp2_with fail
 refine (cE.out _ B2).mono ?_
 rintro e w5 ⟨u0,rfl,hoE,hb⟩
 have q0 := hide (r0.keep hb)
 have q1 := hide (Row.keep r1 hb)
 have B5 := hide (Bel.to B2 hb)
 obtain ⟨la,lc,rfl,-,-,-⟩ := hoE.rd.form
 rw [show (el.map fun p => (p.1 : Int)).length = n by rw [List.length_map];exact hnnh.out.symm] at hoE ⊢
 have hrE := hide (fun X (hX : Below w5.heap.size w5 X) => hoE.rd.below hX)
 clear hb B2 cE c0 hoE r0 r1
 go_wp2
 go_loopg [13,15,16,17,18,19,20] n (fun gh v13 t15 _ _ _ _ _ wr => ∃ (k : Nat) (E : List WinD) (ea : Option Addr) (ec : Nat),gh = n - k ∧ k ≤ n ∧ t15 = .int .i64 (k : Int) ∧ v13 = .slice ea E.length ec ∧ Hid (OwnWin wr w5.heap.size (.slice ea E.length ec) E) ∧ Hid (E = winsF g r (el.take k)) ∧ Hid (∀ p ∈ el.take k,(betP g p.2.bet).2 = 0) ∧ Hid (Below w5.heap.size w5 wr))
 case atStart => exact ⟨0,[],none,0,rfl,Nat.zero_le _,rfl,rfl,OwnS.nil _ _ _,rfl,(fun p hp => by simp at hp),Below.refl _ _⟩
 case round =>
  obtain ⟨k,E,ea,ec,hgh,hk,rfl,rfl,hown,hE,hok,hB⟩ := hrel
  replace hgh := hide hgh
  have BW : Below w.heap.size w wr := Bel.to B5.out hB.out
  have R0 : Row wr w.heap.size 25 (gameCells g (.slice aa ms.length ac) (.slice ta g.tiers.length tc)) := Row.keep q0.out hB.out
  by_cases hlt : k < n
  ·have hlt2 := hide hlt
   have hke : k < el.length := by rw [← hnnh.out];exact hlt
   obtain ⟨b0,off0,rfl,hb0,hcell⟩ := (hrE.out wr hB.out).at_ (k := k) (by rw [List.length_map];exact hke)
   obtain ⟨q,hq⟩ : ∃ q,q = el[k].1 := ⟨_,rfl⟩
   have e1 : wr.cell? ⟨b0,off0 + k,none⟩ = some (.int .i64 (q : Int)) := by rw [hcell k (by rw [List.length_map];exact hke),hq,List.getElem_map]
   have hwho := hide (fun X (hX : Below w5.heap.size w5 X) => show X.cell? ⟨b0,off0 + k,none⟩ = some (.int .i64 (q : Int)) from by
    obtain ⟨b0',off0',e0,hb0',hcell'⟩ := (hrE.out X hX).at_ (k := k) (by rw [List.length_map];exact hke)
    injection e0 with e0
    injection e0 with e01 e02
    subst e01 e02
    rw [hcell' k (by rw [List.length_map];exact hke),hq,List.getElem_map])
   obtain ⟨hq2,hq3⟩ := helat.out k hke
   have hq4 : q < tm.length := by rw [hq,hlen.out];exact hq2
   obtain ⟨m,hm⟩ : ∃ m,m = tm[q] := ⟨_,rfl⟩
   have hmd : m.d = el[k].2 := by
    have h9 := htsi.out q hq4 (by rw [← hlen.out];exact hq4)
    rw [← hm] at h9
    rw [h9,← hq3]
    congr 1
   have hTk := hth.out wr BW
   obtain ⟨b1,off1,rfl,hb1,hcl⟩ := hTk.1.at_ hq4
   have hmi : tm[q]? = some m := by rw [hm];exact List.getElem?_eq_getElem hq4
   have hcl2 := hcl q m hmi
   have hlr := (hTk.2 m (by rw [hm];exact List.getElem_mem hq4)).1
   clear hcell hcl hTk hmi hm hq3 hb0 hb1
   obtain ⟨⟨t1,t2,Bt,t3,t4,t5,t6,t7,t8,t9,t10⟩,lv⟩ := m
   simp only [] at hmd hlr hcl2
   obtain ⟨sa,sc,rfl,hsl1,hsl2⟩ := hlr.shape
   obtain ⟨sn,hsn⟩ : ∃ sn,sn = Bt.lines.length := ⟨_,rfl⟩
   rw [← hsn] at hlr hcl2
   have hrange : wr.rangeAt b1 (off1 + q * 14 + 2) [.slice sa sn sc,.bool Bt.sys,.int .i64 Bt.draws,.int .i64 Bt.addons] := by
    intro j u hu
    match j,hu with
    | 0,hu => exact hcl2 2 u hu
    | 1,hu => exact hcl2 3 u hu
    | 2,hu => exact hcl2 4 u hu
    | 3,hu => exact hcl2 5 u hu
   have hbet : el[k].2.bet = Bt := by rw [← hmd]
   clear hcl2 hsl1 hsl2
   have hqN : q < N := by rw [hNh.out];exact hq4
   have j1 : (0 : Int) ≤ (k : Int) := by omega
   have j2 : (k : Int) < (n : Int) := by omega
   have j3 : (0 : Int) ≤ (q : Int) := by omega
   have j4 : (q : Int) < (N : Int) := by omega
   have bd : Below wr.heap.size wr wr.drew := Below.drewSelf wr
   have cL1 := cL.out wr.drew (Bel.to BW bd) (.slice sa sn sc) Bt (hlr.below bd)
   unfold linesP16 at cL1
   replace hq := hide hq
   replace hsn := hide hsn
   clear hq2 hq4 hmd
   by_cases hc : (betP g Bt).2 = 0
   ·rw [if_pos hc,hc] at cL1
    replace cL1 := hide cL1
    have hTlen := linesB_len hc
    have hTv := hide (linesB_valid hc)
    have hElen := winsF_len (r := r) hok.out
    rw [← hE.out,List.length_take] at hElen
    have hsn1 : winsF g r (el.take (k + 1)) = E ++ winsL (fun x => tierM g x r) (q : Int) (linesB g Bt) 0 := by rw [winsF_snoc g r el k hke,hE.out,hq.out,hbet]
    obtain ⟨T,hT⟩ : ∃ T,T = linesB g Bt := ⟨_,rfl⟩
    rw [← hT] at cL1 hTlen hTv hsn1
    have hok2 : Hid (∀ p ∈ el.take (k + 1),(betP g p.2.bet).2 = 0) := by
     show ∀ p ∈ el.take (k + 1),(betP g p.2.bet).2 = 0
     intro p hp
     rw [List.take_succ_eq_append_getElem hke] at hp
     rcases List.mem_append.1 hp with hp | hp
     ·exact hok.out p hp
     ·rw [List.mem_singleton] at hp;subst hp;rw [hbet];exact hc
    have hElen2 : Hid (E.length + 1024 ≤ 1000000) := by show E.length + 1024 ≤ 1000000;omega
    replace hsn1 := hide hsn1
    have hTlen2 := hide hTlen
    clear hc hbet hT hElen hlr hok hTlen
    go_upto_region 16 with (fail)
    refine wp_region_held_drew (S := fun X => (Rng X [(w.heap.size,gameCells g (.slice aa ms.length ac) (.slice ta g.tiers.length tc))] ∧ X.rangeAt b1 (off1 + q * 14 + 2) [.slice sa sn sc,.bool Bt.sys,.int .i64 Bt.draws,.int .i64 Bt.addons]) ∧ X.cell? ⟨b0,off0 + k,none⟩ = some (.int .i64 (q : Int))) (by kernel_rfl) (⟨⟨Rng.drew (Rng.cons R0 (Rng.nil _)),hrange⟩,e1⟩) (fun hHeld => ?_)
    refine' wpAnyH_take (i := 0) (oi := _) (v := _) rfl (by kernel_rfl) (by kernel_rfl) (by kernel_rfl) (fun _ _ _ h => h) (yieldsIf_load_mid (by first | (go_simp;done) | rfl) 25 (.tmp 4) rfl (w.heap.size) (0) rfl (gameCells g (.slice aa ms.length ac) (.slice ta g.tiers.length tc)) _ (fun X h => Rng.at0 h.1.1) Tryz.underlying25 rfl (by kernel_rfl)) hHeld ?_
    try simp only [Act.put,zsA,zsB,zsC]
    refine' wpAnyH_take (i := 1) (oi := _) (v := .slice (some ⟨b1,off1,none⟩) N tkc) rfl (by kernel_rfl) (by kernel_rfl) (by kernel_rfl) (fun _ _ _ h => h) (Or.inl ⟨by first | (go_simp;done) | rfl,fun X _ => by go_simp⟩) hHeld ?_
    try simp only [Act.put,zsA,zsB,zsC]
    refine' wpAnyH_take (i := 2) (oi := _) (v := .slice (some ⟨b0,off0,none⟩) n lc) rfl (by kernel_rfl) (by kernel_rfl) (by kernel_rfl) (fun _ _ _ h => h) (Or.inl ⟨by first | (go_simp;done) | rfl,fun X _ => by go_simp⟩) hHeld ?_
    try simp only [Act.put,zsA,zsB,zsC]
    refine' wpAnyH_take (i := 3) (oi := _) (v := .int .i64 (k : Int)) rfl (by kernel_rfl) (by kernel_rfl) (by kernel_rfl) (fun _ _ _ h => h) (Or.inl ⟨by first | (go_simp;done) | rfl,fun X _ => by go_simp⟩) hHeld ?_
    try simp only [Act.put,zsA,zsB,zsC]
    refine' wpAnyH_take (i := 4) (oi := _) (v := .pointer (some ⟨b0,off0 + k,none⟩)) rfl (by kernel_rfl) (by kernel_rfl) (by kernel_rfl) (fun _ _ _ h => h) (Or.inl ⟨by first | (go_simp;done) | rfl,fun X _ => by go_simp⟩) hHeld ?_
    try simp only [Act.put,zsA,zsB,zsC]
    refine' wpAnyH_take (i := 5) (oi := _) (v := .int .i64 (q : Int)) rfl (by kernel_rfl) (by kernel_rfl) (by kernel_rfl) (fun _ _ _ h => h) (Or.inl ⟨by first | (go_simp;done) | rfl,fun X hX => by have cX := hX.2;go_simp⟩) hHeld ?_
    try simp only [Act.put,zsA,zsB,zsC]
    refine' wpAnyH_take (i := 6) (oi := _) (v := .pointer (some ⟨b1,off1 + q * 14,none⟩)) rfl (by kernel_rfl) (by kernel_rfl) (by kernel_rfl) (fun _ _ _ h => h) (Or.inl ⟨by first | (go_simp;done) | rfl,fun X _ => by go_simp⟩) hHeld ?_
    try simp only [Act.put,zsA,zsB,zsC]
    refine' wpAnyH_take (i := 7) (oi := _) (v := .pointer (some ⟨b1,off1 + q * 14 + 2,none⟩)) rfl (by kernel_rfl) (by kernel_rfl) (by kernel_rfl) (fun _ _ _ h => h) (Or.inl ⟨by first | (go_simp;done) | rfl,fun X _ => by go_simp⟩) hHeld ?_
    try simp only [Act.put,zsA,zsB,zsC]
    refine' wpAnyH_take (i := 8) (oi := _) (v := .agg #[.slice sa sn sc,.bool Bt.sys,.int .i64 Bt.draws,.int .i64 Bt.addons]) rfl (by kernel_rfl) (by kernel_rfl) (by kernel_rfl) (fun _ _ _ h => h) (by refine (yieldsIf_load_mid ?_ 50 (.tmp 59) rfl b1 (off1 + q * 14 + 2) ?_ ([.slice sa sn sc,.bool Bt.sys,.int .i64 Bt.draws,.int .i64 Bt.addons]) _ (fun X h => h.1.2) Tryz.underlying50 rfl (by kernel_rfl)) <;> go_simp) hHeld ?_
    try simp only [Act.put,zsA,zsB,zsC]
    refine wpAnyH_ready (rs := [9]) (by kernel_rfl) (by simp) ?_
    refine AllReadyH.cons (o := _) rfl (fun K hK => ?_) AllReadyH.nil
    go_simp
    refine (cL1.out).mono ?_
    rintro e w6 ⟨u,rfl,hu,hb6⟩
    obtain ⟨ua,uc,rfl⟩ := hu.shape
    go_wp2_with fail
    refine hK.out _ _ (⟨⟨Rng.keep hHeld.1.1 hb6,fun j u hu => Bel.cellOf hb6 (hHeld.1.2 j u hu)⟩,Bel.cellOf hb6 hHeld.2⟩) (fun hHeld => ?_)
    clear hK K
    try simp only [Act.put,zsA,zsB,zsC]
    refine' wpAnyH_take (i := 10) (oi := _) (v := .tuple #[.slice ua T.length uc,.int .i64 0]) rfl (by kernel_rfl) (by kernel_rfl) (by kernel_rfl) (fun _ _ _ h => h) (Or.inl ⟨by first | (go_simp;done) | rfl,fun X _ => by go_simp⟩) hHeld ?_
    try simp only [Act.put,zsA,zsB,zsC]
    refine' wpAnyH_take (i := 11) (oi := _) (v := .slice ua T.length uc) rfl (by kernel_rfl) (by kernel_rfl) (by kernel_rfl) (fun _ _ _ h => h) (Or.inl ⟨by first | (go_simp;done) | rfl,fun X _ => by go_simp⟩) hHeld ?_
    try simp only [Act.put,zsA,zsB,zsC]
    refine' wpAnyH_take (i := 12) (oi := _) (v := .int .i64 0) rfl (by kernel_rfl) (by kernel_rfl) (by kernel_rfl) (fun _ _ _ h => h) (Or.inl ⟨by first | (go_simp;done) | rfl,fun X _ => by go_simp⟩) hHeld ?_
    try simp only [Act.put,zsA,zsB,zsC]
    refine' wpAnyH_take (i := 13) (oi := _) (v := .slice ua T.length uc) rfl (by kernel_rfl) (by kernel_rfl) (by kernel_rfl) (fun _ _ _ h => h) (Or.inl ⟨by first | (go_simp;done) | rfl,fun X _ => by go_simp⟩) hHeld ?_
    try simp only [Act.put,zsA,zsB,zsC]
    refine' wpAnyH_take (i := 14) (oi := _) (v := .int .i64 0) rfl (by kernel_rfl) (by kernel_rfl) (by kernel_rfl) (fun _ _ _ h => h) (Or.inl ⟨by first | (go_simp;done) | rfl,fun X _ => by go_simp⟩) hHeld ?_
    try simp only [Act.put,zsA,zsB,zsC]
    refine wpAnyH_done (by kernel_rfl) ?_ _
    go_simp
    clear hHeld
    obtain ⟨wo,hwo⟩ : ∃ wo,wo = wr := ⟨_,rfl⟩
    subst hwo
    have bo := Bel.to bd hb6
    have hu6 : OwnLn w6 wo.heap.size (.slice ua T.length uc) T := hu
    have hown6 : OwnWin w6 w5.heap.size (.slice ea E.length ec) E := OwnS.keep hown.out bo
    have hlow := hown.out.lt
    have hB6 : Hid (Below w5.heap.size w5 w6) := hB.out.trans (bo.mono hB.out.size)
    have hlow6 : Hid (∀ b,(Value.slice ea E.length ec).ownBlock = some b → b < wo.heap.size ∨ w6.heap.size ≤ b) := fun b hb => .inl (hlow b hb).2
    obtain ⟨M,hM⟩ : ∃ M,M = T.length := ⟨_,rfl⟩
    rw [← hM] at hu6 ⊢
    have hu6h := hide hu6
    have hMh := hide hM
    have hM2 : Hid (M ≤ 1024) := by show M ≤ 1024;have := hTlen2.out;omega
    have hs0 := hide (SameIn.refl w6 wo.heap.size)
    have hM9 : (M : Int) ≤ 1024 := by have : M ≤ 1024 := hM2.out;omega
    have hown6 := hide hown6
    clear hu hu6 cL1 hb6 bo hrange e1 hown hB BW R0 bd hlow hM
    go_wp2
    go_loopg [13,18,19,20] M (fun gh2 v13 t18 _ _ wr => ∃ (j : Nat) (E2 : List WinD) (ea : Option Addr) (ec : Nat),gh2 = M - j ∧ j ≤ M ∧ t18 = .int .i64 (j : Int) ∧ v13 = .slice ea E2.length ec ∧ Hid (OwnWin wr w5.heap.size (.slice ea E2.length ec) E2) ∧ Hid (E2 = E ++ winsL (fun x => tierM g x r) (q : Int) (T.take j) 0) ∧ Hid (Below w5.heap.size w5 wr) ∧ Hid (SameIn wo.heap.size w6.heap.size w6 wr) ∧ Hid (∀ b,(Value.slice ea E2.length ec).ownBlock = some b → b < wo.heap.size ∨ w6.heap.size ≤ b))
    case atStart => exact ⟨0,E,ea,ec,rfl,Nat.zero_le _,rfl,rfl,hown6,by show E = _;simp [winsL],hB6,hs0,hlow6⟩
    case round =>
     clear hown6 hB6 hs0 hlow6
     obtain ⟨j,E2,ea2,ec2,hgj,hj,rfl,rfl,hown,hE2,hB,hSm,hlo⟩ := hrel
     replace hgj := hide hgj
     have BW : Below w.heap.size w wr := Bel.to B5.out hB.out
     have R0 : Row wr w.heap.size 25 (gameCells g (.slice aa ms.length ac) (.slice ta g.tiers.length tc)) := Row.keep q0.out hB.out
     have R1 : Row wr (w.heap.size + 1) 29 [.slice ma r.main.length mc,.slice ba r.bonus.length bc,.slice xa r.extra.length xc,.int .i64 r.factor,.string r.serial] := Row.keep q1.out hB.out
     by_cases hjl : j < M
     ·have hjl2 := hide hjl
      have hjT : j < T.length := by rw [← hMh.out];exact hjl
      have hls := hu6h.out.inR hSm.out
      obtain ⟨b2,off2,mv2,bv2,rfl,hb2,x1,y1,hl⟩ := hls.at_ hjT
      have hval := (hTv.out T[j] (List.getElem_mem hjT)).1
      have hsn2 : E2 ++ (if tierM g T[j] r = -1 then [] else [(⟨(q : Int),(j : Int),tierM g T[j] r⟩ : WinD)]) = E ++ winsL (fun x => tierM g x r) (q : Int) (T.take (j + 1)) 0 := by
       rw [winsL_snoc _ _ _ _ _ hjT,hE2.out,List.append_assoc,Nat.zero_add]
      have hlen2 : E2.length ≤ E.length + 1024 := by
       have h8 := winsL_len (fun x => tierM g x r) (q : Int) (T.take j) 0
       rw [List.length_take] at h8
       have h9 : M ≤ 1024 := hM2.out
       have h7 := hMh.out
       rw [hE2.out,List.length_append]
       omega
      obtain ⟨x,hx⟩ : ∃ x,x = T[j] := ⟨_,rfl⟩
      rw [← hx] at hl hval hsn2
      obtain ⟨s1,m1,k1,rfl⟩ := Rd.shape hl.1
      obtain ⟨s2,m2,k2,rfl⟩ := Rd.shape hl.2
      have hrange : wr.rangeAt b2 (off2 + j * 2) [.slice s1 m1 k1,.slice s2 m2 k2] := by
       intro i v hv
       match i,hv with
       | 0,hv => simp at hv;subst hv;exact x1
       | 1,hv => simp at hv;subst hv;exact y1
      have bd : Below wr.heap.size wr wr.drew := Below.drewSelf wr
      have cM := cT.out wr.drew (Bel.to BW bd) (.slice s1 m1 k1) (.slice s2 m2 k2) x (hl.below bd)
      rw [tierP_valid hval hreh.out] at cM
      simp only [] at cM
      have hlo' := tierM_lo g x r
      obtain ⟨t,htt⟩ : ∃ t,t = tierM g x r := ⟨_,rfl⟩
      rw [← htt] at cM hsn2 hlo'
      replace cM := hide cM
      have i1 : (0 : Int) ≤ (j : Int) := by omega
      have i2 : (j : Int) < (M : Int) := by omega
      replace hsn2 := hide hsn2
      have hlen3 : Hid (E2.length ≤ 1000000) := by show E2.length ≤ 1000000;have h9 : E.length + 1024 ≤ 1000000 := hElen2.out;omega
      replace hx := hide hx
      replace htt := hide htt
      clear x1 y1 hls hl hval hlen2
      go_upto_region 22 with (fail)
      refine wp_region_held_drew (S := fun X => Rng X [(w.heap.size,gameCells g (.slice aa ms.length ac) (.slice ta g.tiers.length tc)),(w.heap.size + 1,[.slice ma r.main.length mc,.slice ba r.bonus.length bc,.slice xa r.extra.length xc,.int .i64 r.factor,.string r.serial])] ∧ X.rangeAt b2 (off2 + j * 2) [.slice s1 m1 k1,.slice s2 m2 k2]) (by kernel_rfl) (⟨Rng.drew (Rng.cons R0 (Rng.cons R1 (Rng.nil _))),hrange⟩) (fun hHeld => ?_)
      refine' wpAnyH_take (i := 0) (oi := _) (v := _) rfl (by kernel_rfl) (by kernel_rfl) (by kernel_rfl) (fun _ _ _ h => h) (yieldsIf_load_mid (by first | (go_simp;done) | rfl) 25 (.tmp 4) rfl (w.heap.size) (0) rfl (gameCells g (.slice aa ms.length ac) (.slice ta g.tiers.length tc)) _ (fun X h => Rng.at0 h.1) Tryz.underlying25 rfl (by kernel_rfl)) hHeld ?_
      try simp only [Act.put,zsA,zsB,zsC]
      refine' wpAnyH_take (i := 1) (oi := _) (v := .slice (some ⟨b2,off2,none⟩) M uc) rfl (by kernel_rfl) (by kernel_rfl) (by kernel_rfl) (fun _ _ _ h => h) (Or.inl ⟨by first | (go_simp;done) | rfl,fun X _ => by go_simp⟩) hHeld ?_
      try simp only [Act.put,zsA,zsB,zsC]
      refine' wpAnyH_take (i := 2) (oi := _) (v := .int .i64 (j : Int)) rfl (by kernel_rfl) (by kernel_rfl) (by kernel_rfl) (fun _ _ _ h => h) (Or.inl ⟨by first | (go_simp;done) | rfl,fun X _ => by go_simp⟩) hHeld ?_
      try simp only [Act.put,zsA,zsB,zsC]
      refine' wpAnyH_take (i := 3) (oi := _) (v := .pointer (some ⟨b2,off2 + j * 2,none⟩)) rfl (by kernel_rfl) (by kernel_rfl) (by kernel_rfl) (fun _ _ _ h => h) (Or.inl ⟨by first | (go_simp;done) | rfl,fun X _ => by go_simp⟩) hHeld ?_
      try simp only [Act.put,zsA,zsB,zsC]
      refine' wpAnyH_take (i := 4) (oi := _) (v := .agg #[.slice s1 m1 k1,.slice s2 m2 k2]) rfl (by kernel_rfl) (by kernel_rfl) (by kernel_rfl) (fun _ _ _ h => h) (by refine (yieldsIf_load_mid ?_ 58 (.tmp 77) rfl b2 (off2 + j * 2) ?_ ([.slice s1 m1 k1,.slice s2 m2 k2]) _ (fun X h => h.2) Tryz.underlying58 rfl (by kernel_rfl)) <;> go_simp) hHeld ?_
      try simp only [Act.put,zsA,zsB,zsC]
      refine' wpAnyH_take (i := 5) (oi := _) (v := .agg #[.slice ma r.main.length mc,.slice ba r.bonus.length bc,.slice xa r.extra.length xc,.int .i64 r.factor,.string r.serial]) rfl (by kernel_rfl) (by kernel_rfl) (by kernel_rfl) (fun _ _ _ h => h) (by refine (yieldsIf_load_mid ?_ 29 (.tmp 7) rfl (w.heap.size + 1) (0) ?_ ([.slice ma r.main.length mc,.slice ba r.bonus.length bc,.slice xa r.extra.length xc,.int .i64 r.factor,.string r.serial]) _ (fun X h => Rng.at1 h.1) Tryz.underlying29 rfl (by kernel_rfl)) <;> go_simp) hHeld ?_
      try simp only [Act.put,zsA,zsB,zsC]
      refine wpAnyH_ready (rs := [6]) (by kernel_rfl) (by simp) ?_
      refine AllReadyH.cons (o := _) rfl (fun K hK => ?_) AllReadyH.nil
      go_simp
      refine (cM.out).mono ?_
      rintro e w8 ⟨rfl,hb8⟩
      go_wp2_with fail
      refine hK.out _ _ (⟨Rng.keep hHeld.1 hb8,fun j u hu => Bel.cellOf hb8 (hHeld.2 j u hu)⟩) (fun hHeld => ?_)
      clear hK K
      try simp only [Act.put,zsA,zsB,zsC]
      refine' wpAnyH_take (i := 7) (oi := _) (v := .tuple #[.int .i64 t,.int .i64 0]) rfl (by kernel_rfl) (by kernel_rfl) (by kernel_rfl) (fun _ _ _ h => h) (Or.inl ⟨by first | (go_simp;done) | rfl,fun X _ => by go_simp⟩) hHeld ?_
      try simp only [Act.put,zsA,zsB,zsC]
      refine' wpAnyH_take (i := 8) (oi := _) (v := .int .i64 t) rfl (by kernel_rfl) (by kernel_rfl) (by kernel_rfl) (fun _ _ _ h => h) (Or.inl ⟨by first | (go_simp;done) | rfl,fun X _ => by go_simp⟩) hHeld ?_
      try simp only [Act.put,zsA,zsB,zsC]
      refine' wpAnyH_take (i := 9) (oi := _) (v := .int .i64 0) rfl (by kernel_rfl) (by kernel_rfl) (by kernel_rfl) (fun _ _ _ h => h) (Or.inl ⟨by first | (go_simp;done) | rfl,fun X _ => by go_simp⟩) hHeld ?_
      try simp only [Act.put,zsA,zsB,zsC]
      refine' wpAnyH_take (i := 10) (oi := _) (v := .int .i64 t) rfl (by kernel_rfl) (by kernel_rfl) (by kernel_rfl) (fun _ _ _ h => h) (Or.inl ⟨by first | (go_simp;done) | rfl,fun X _ => by go_simp⟩) hHeld ?_
      try simp only [Act.put,zsA,zsB,zsC]
      refine' wpAnyH_take (i := 11) (oi := _) (v := .int .i64 0) rfl (by kernel_rfl) (by kernel_rfl) (by kernel_rfl) (fun _ _ _ h => h) (Or.inl ⟨by first | (go_simp;done) | rfl,fun X _ => by go_simp⟩) hHeld ?_
      try simp only [Act.put,zsA,zsB,zsC]
      refine wpAnyH_done (by kernel_rfl) ?_ _
      go_simp
      clear hHeld
      have bw8 := Bel.to bd hb8
      have hB8 : Below w5.heap.size w5 w8 := hB.out.trans (bw8.mono hB.out.size)
      have hown8 : OwnWin w8 w5.heap.size (.slice ea2 E2.length ec2) E2 := OwnS.keep hown.out bw8
      have hSm8 : SameR wo.heap.size w6.heap.size w6 w8 := SameR.keep (lo := wo.heap.size) (hi := w6.heap.size) hSm.out bw8
      by_cases hneg : t = -1
      ·have hs := hsn2.out
       rw [if_pos hneg,List.append_nil] at hs
       have hz1 : decide (0 ≤ t) = false := decide_eq_false (by omega)
       have hsh : Hid (E2 = E ++ winsL (fun x => tierM g x r) (q : Int) (T.take (j + 1)) 0) := hs
       have hB8h := hide hB8
       have hown8h := hide hown8
       have hSm8h : Hid (SameIn wo.heap.size w6.heap.size w6 w8) := hSm8
       replace hneg := hide hneg
       clear hb8 bd hrange R0 R1 hB cM bw8 hB8 hown8 hSm8 hown hSm hs BW hlo'
       go_wp2
       go_roundg (M - (j + 1))
       case measure => have := hgj.out;have := hjl2.out;omega
       case rel => exact ⟨j + 1,E2,ea2,ec2,rfl,by have := hjl2.out;omega,by go_num,rfl,hown8h,hsh,hB8h,hSm8h,hlo⟩
      ·have hs := hsn2.out
       rw [if_neg hneg] at hs
       have hz1 : decide (0 ≤ t) = true := decide_eq_true (by omega)
       have ew := hwho.out w8 hB8
       have hs8 := hB8.size
       have hlt8 := hide (OwnS.lt hown8)
       have hown8h := hide hown8
       have hB8h := hide hB8
       have hSm8h := hide hSm8
       replace hneg := hide hneg
       replace hs := hide hs
       clear hb8 bd hrange R0 R1 hB cM bw8 hB8 hown8 hSm8 hown hSm BW hlo'
       go_wp2_with (first | (with_reducible refine wpList_appendS _ rfl _ _ 34 rfl (sz := 3) (V := winCells) (R := fun _ _ => True) win_len w5.heap.size 46 (.agg #[.int .i64 0,.int .i64 0,.int .i64 0]) 24 Tryz.underlying34 infoWin rfl (by decide) _ E2 rfl ?_ _ [⟨(q : Int),(j : Int),t⟩] rfl ?_ ?_ ?_ ?_ ?_ ?_ ?_) | fail)
       case refine_1 => exact OwnS.keep hown8h.out (Bel.al (Below.refl _ _) _)
       case refine_2 => exact rdS_one (V := winCells) (x := (⟨(q : Int),(j : Int),t⟩ : WinD)) _ (Row.newOf _ rfl) (Nat.le_refl 1) (by unfold maxLen;omega)
       case refine_3 => intro y hy X hX;trivial
       case refine_4 => intro y hy;exact winOne y
       case refine_5 => have := hlen3.out;simp;omega
       case refine_6 => have := hlen3.out;simp;omega
       case refine_7 => simp;omega
       intro v9 w9 hown9 hg9 hv9
       have hB9 : Hid (Below w5.heap.size w5 w9) := (Bel.al hB8h.out _).grown hg9 (Bel.al hB8h.out _).size (fun q hq => (hlt8.out q hq).1)
       have hSm9 : Hid (SameIn wo.heap.size w6.heap.size w6 w9) := SameR.then (SameR.keep hSm8h.out (Bel.al (Below.refl _ _) _)) hg9 (fun k hk => hlo.out k hk)
       obtain ⟨a9,c9,rfl⟩ := OwnS.shape hown9
       obtain ⟨E3,hE3⟩ : ∃ E3,E3 = E2 ++ [(⟨(q : Int),(j : Int),t⟩ : WinD)] := ⟨_,rfl⟩
       rw [← hE3] at hown9 hs hv9 ⊢
       have hlo9 : Hid (∀ b,(Value.slice a9 E3.length c9).ownBlock = some b → b < wo.heap.size ∨ w6.heap.size ≤ b) := by
        intro b hb
        rcases hv9 with h | h
        ·exact hlo.out b (h.symm.trans hb)
        ·rw [h] at hb;injection hb with hb;subst hb;exact .inr (by have := hSm8h.out.2;simp;omega)
       have hown9h := hide hown9
       clear hg9 hv9 hown9 hE3
       go_wp2
       go_roundg (M - (j + 1))
       case measure => have := hgj.out;have := hjl2.out;omega
       case rel => exact ⟨j + 1,E3,a9,c9,rfl,by have := hjl2.out;omega,by go_num,rfl,hown9h,hs,hB9,hSm9,hlo9⟩
     ·have hjM : j = T.length := by have := hMh.out;omega
      have hEx := hE2.out
      rw [hjM,List.take_length] at hEx
      have hEx2 : Hid (E2 = winsF g r (el.take (k + 1))) := by show E2 = _;rw [hsn1.out,hEx]
      have i2 : ¬ (j : Int) < (M : Int) := by omega
      replace hjM := hide hjM
      replace hEx := hide hEx
      clear hSm hlo R0 R1 BW hE2
      go_wp2
      go_roundg (n - (k + 1))
      case measure => have := hgh.out;have := hlt2.out;omega
      case rel => exact ⟨k + 1,E2,ea2,ec2,rfl,by have := hlt2.out;omega,by go_num,rfl,hown,hEx2,hok2,hB⟩
   ·rw [if_neg hc] at cL1
    replace cL1 := hide cL1
    have hEx := hP.out
    rw [winsE_at hke hok.out (by rw [hbet];exact hc),hbet] at hEx
    obtain ⟨c,hcc⟩ : ∃ c,c = (betP g Bt).2 := ⟨_,rfl⟩
    rw [← hcc] at cL1 hc hEx
    subst hEx
    have hcb : (c != 0) = true := by simpa using hc
    replace hc := hide hc
    replace hbet := hide hbet
    clear hcc hlr hown hok hE
    go_upto_region 16 with (fail)
    refine wp_region_held_drew (S := fun X => (Rng X [(w.heap.size,gameCells g (.slice aa ms.length ac) (.slice ta g.tiers.length tc))] ∧ X.rangeAt b1 (off1 + q * 14 + 2) [.slice sa sn sc,.bool Bt.sys,.int .i64 Bt.draws,.int .i64 Bt.addons]) ∧ X.cell? ⟨b0,off0 + k,none⟩ = some (.int .i64 (q : Int))) (by kernel_rfl) (⟨⟨Rng.drew (Rng.cons R0 (Rng.nil _)),hrange⟩,e1⟩) (fun hHeld => ?_)
    refine' wpAnyH_take (i := 0) (oi := _) (v := _) rfl (by kernel_rfl) (by kernel_rfl) (by kernel_rfl) (fun _ _ _ h => h) (yieldsIf_load_mid (by first | (go_simp;done) | rfl) 25 (.tmp 4) rfl (w.heap.size) (0) rfl (gameCells g (.slice aa ms.length ac) (.slice ta g.tiers.length tc)) _ (fun X h => Rng.at0 h.1.1) Tryz.underlying25 rfl (by kernel_rfl)) hHeld ?_
    try simp only [Act.put,zsA,zsB,zsC]
    refine' wpAnyH_take (i := 1) (oi := _) (v := .slice (some ⟨b1,off1,none⟩) N tkc) rfl (by kernel_rfl) (by kernel_rfl) (by kernel_rfl) (fun _ _ _ h => h) (Or.inl ⟨by first | (go_simp;done) | rfl,fun X _ => by go_simp⟩) hHeld ?_
    try simp only [Act.put,zsA,zsB,zsC]
    refine' wpAnyH_take (i := 2) (oi := _) (v := .slice (some ⟨b0,off0,none⟩) n lc) rfl (by kernel_rfl) (by kernel_rfl) (by kernel_rfl) (fun _ _ _ h => h) (Or.inl ⟨by first | (go_simp;done) | rfl,fun X _ => by go_simp⟩) hHeld ?_
    try simp only [Act.put,zsA,zsB,zsC]
    refine' wpAnyH_take (i := 3) (oi := _) (v := .int .i64 (k : Int)) rfl (by kernel_rfl) (by kernel_rfl) (by kernel_rfl) (fun _ _ _ h => h) (Or.inl ⟨by first | (go_simp;done) | rfl,fun X _ => by go_simp⟩) hHeld ?_
    try simp only [Act.put,zsA,zsB,zsC]
    refine' wpAnyH_take (i := 4) (oi := _) (v := .pointer (some ⟨b0,off0 + k,none⟩)) rfl (by kernel_rfl) (by kernel_rfl) (by kernel_rfl) (fun _ _ _ h => h) (Or.inl ⟨by first | (go_simp;done) | rfl,fun X _ => by go_simp⟩) hHeld ?_
    try simp only [Act.put,zsA,zsB,zsC]
    refine' wpAnyH_take (i := 5) (oi := _) (v := .int .i64 (q : Int)) rfl (by kernel_rfl) (by kernel_rfl) (by kernel_rfl) (fun _ _ _ h => h) (Or.inl ⟨by first | (go_simp;done) | rfl,fun X hX => by have cX := hX.2;go_simp⟩) hHeld ?_
    try simp only [Act.put,zsA,zsB,zsC]
    refine' wpAnyH_take (i := 6) (oi := _) (v := .pointer (some ⟨b1,off1 + q * 14,none⟩)) rfl (by kernel_rfl) (by kernel_rfl) (by kernel_rfl) (fun _ _ _ h => h) (Or.inl ⟨by first | (go_simp;done) | rfl,fun X _ => by go_simp⟩) hHeld ?_
    try simp only [Act.put,zsA,zsB,zsC]
    refine' wpAnyH_take (i := 7) (oi := _) (v := .pointer (some ⟨b1,off1 + q * 14 + 2,none⟩)) rfl (by kernel_rfl) (by kernel_rfl) (by kernel_rfl) (fun _ _ _ h => h) (Or.inl ⟨by first | (go_simp;done) | rfl,fun X _ => by go_simp⟩) hHeld ?_
    try simp only [Act.put,zsA,zsB,zsC]
    refine' wpAnyH_take (i := 8) (oi := _) (v := .agg #[.slice sa sn sc,.bool Bt.sys,.int .i64 Bt.draws,.int .i64 Bt.addons]) rfl (by kernel_rfl) (by kernel_rfl) (by kernel_rfl) (fun _ _ _ h => h) (by refine (yieldsIf_load_mid ?_ 50 (.tmp 59) rfl b1 (off1 + q * 14 + 2) ?_ ([.slice sa sn sc,.bool Bt.sys,.int .i64 Bt.draws,.int .i64 Bt.addons]) _ (fun X h => h.1.2) Tryz.underlying50 rfl (by kernel_rfl)) <;> go_simp) hHeld ?_
    try simp only [Act.put,zsA,zsB,zsC]
    refine wpAnyH_ready (rs := [9]) (by kernel_rfl) (by simp) ?_
    refine AllReadyH.cons (o := _) rfl (fun K hK => ?_) AllReadyH.nil
    go_simp
    refine (cL1.out).mono ?_
    rintro e w6 ⟨u,rfl,hu,hb6⟩
    obtain ⟨ua,uc,rfl⟩ := hu.shape
    go_wp2_with fail
    refine hK.out _ _ (⟨⟨Rng.keep hHeld.1.1 hb6,fun j u hu => Bel.cellOf hb6 (hHeld.1.2 j u hu)⟩,Bel.cellOf hb6 hHeld.2⟩) (fun hHeld => ?_)
    clear hK K
    try simp only [Act.put,zsA,zsB,zsC]
    refine' wpAnyH_take (i := 10) (oi := _) (v := .tuple #[.slice ua ([] : List LineD).length uc,.int .i64 c]) rfl (by kernel_rfl) (by kernel_rfl) (by kernel_rfl) (fun _ _ _ h => h) (Or.inl ⟨by first | (go_simp;done) | rfl,fun X _ => by go_simp⟩) hHeld ?_
    try simp only [Act.put,zsA,zsB,zsC]
    refine' wpAnyH_take (i := 11) (oi := _) (v := .slice ua ([] : List LineD).length uc) rfl (by kernel_rfl) (by kernel_rfl) (by kernel_rfl) (fun _ _ _ h => h) (Or.inl ⟨by first | (go_simp;done) | rfl,fun X _ => by go_simp⟩) hHeld ?_
    try simp only [Act.put,zsA,zsB,zsC]
    refine' wpAnyH_take (i := 12) (oi := _) (v := .int .i64 c) rfl (by kernel_rfl) (by kernel_rfl) (by kernel_rfl) (fun _ _ _ h => h) (Or.inl ⟨by first | (go_simp;done) | rfl,fun X _ => by go_simp⟩) hHeld ?_
    try simp only [Act.put,zsA,zsB,zsC]
    refine' wpAnyH_take (i := 13) (oi := _) (v := .slice ua ([] : List LineD).length uc) rfl (by kernel_rfl) (by kernel_rfl) (by kernel_rfl) (fun _ _ _ h => h) (Or.inl ⟨by first | (go_simp;done) | rfl,fun X _ => by go_simp⟩) hHeld ?_
    try simp only [Act.put,zsA,zsB,zsC]
    refine' wpAnyH_take (i := 14) (oi := _) (v := .int .i64 c) rfl (by kernel_rfl) (by kernel_rfl) (by kernel_rfl) (fun _ _ _ h => h) (Or.inl ⟨by first | (go_simp;done) | rfl,fun X _ => by go_simp⟩) hHeld ?_
    try simp only [Act.put,zsA,zsB,zsC]
    refine wpAnyH_done (by kernel_rfl) ?_ _
    go_simp
    clear hHeld
    have BE := Bel.to (Bel.to BW bd) hb6
    clear hu cL1 hb6 bd hrange e1 R0
    go_wp2
    go_ret2
    exact ⟨.slice none 0 0,rfl,OwnS.nil _ _ _,BE⟩
  ·have hkn : k = el.length := by have := hnnh.out;omega
   have hEx := hE.out
   rw [hkn,List.take_length] at hEx
   have hok2 := hok.out
   rw [hkn,List.take_length] at hok2
   have hP2 := hP.out
   rw [winsE_full hok2,← hEx] at hP2
   subst hP2
   have hlow : OwnWin wr w.heap.size (.slice ea E.length ec) E := OwnS.lower hown.out B5.out.size
   have hlow := hide hlow
   have j2 : ¬ (k : Int) < (n : Int) := by omega
   replace hkn := hide hkn
   replace hEx := hide hEx
   clear hown hE hok hok2 R0
   go_wp2
   go_ret2
   exact ⟨_,rfl,hlow.out,BW⟩
theorem rwins_any (g : GameD) (av tv v mv bv xv : Value) (ms : List AddonM) (tm : List TickM) (draw : Int) (r : ResD) (w : World) (hg : GameR w av tv ms g) (ht : TicketsR w v tm) (hr : ResR w mv bv xv r) (hs : r.serial.size ≤ 9223372036854775807) (hd : InI draw) (hn : tm.length ≤ 900) :
  Calls Tryz.prog 13 #[gameVal g av tv,v,.int .i64 draw,resVal mv bv xv r] w (WinsO (winsP g (tm.map (·.d)) draw r).1 (winsP g (tm.map (·.d)) draw r).2 w) := by
 unfold winsP
 by_cases he : gameE g = 0
 ·rw [if_neg (by simpa using he)]
  by_cases h1 : draw < 1
  ·rw [if_pos h1]
   exact rwins_bad2 g av tv v mv bv xv ms tm draw r w hg ht hr hs hd hn he h1
  ·rw [if_neg h1,if_neg (by rw [List.length_map];omega)]
   by_cases h2 : resE g r = 0
   ·rw [if_neg (by simpa using h2)]
    exact rwins_ok g av tv v mv bv xv ms tm draw r w hg ht hr hs hd hn he (by omega) h2
   ·rw [if_pos h2]
    exact rwins_bad3 g av tv v mv bv xv ms tm draw r w hg ht hr hs hd hn he (by omega) h2
 ·rw [if_pos he]
  exact rwins_bad1 g av tv v mv bv xv ms tm draw r w hg ht hr hs hd hn he
end Go.Proofs.YtfggjlekcdpmmaaGreat
end

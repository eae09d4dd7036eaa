/- Lemmas, merged out of smaller texts (wip/tools/mergedce.py). No condition. -/
import Derived.Deep.MidRow
import Derived.Test.YtmocomkobbiflaaGreatHTrod
import Derived.Test.YtmocomkobbiflaaGreatHIdxA
import Derived.Test.YtmocomkobbiflaaGreatHRef
import Derived.Test.YtmocomkobbiflaaGreatHLine
import Derived.Test.YtmocomkobbiflaaGreatHSys
import Derived.Test.YtmocomkobbiflaaGreatHCore
import Derived.Test.YtmocomkobbiflaaGreatHIdxB
import Derived.Test.YtmocomkobbiflaaGreatHMat
import Derived.Test.YtmocomkobbiflaaGreatHRtw
section
set_option linter.unusedVariables false
set_option linter.unusedSimpArgs false
namespace Go.Proofs.YtmocomkobbiflaaGreat
def posE (e : EntD) : List EntD → Nat
 | [] => 0
 | x :: r => if ltK (keyD x) (keyD e) then posE e r + 1 else 0
theorem posE_le (e : EntD) (l : List EntD) : posE e l ≤ l.length := by
 induction l with
 | nil => exact Nat.le_refl _
 | cons x r ih =>
  rw [posE,List.length_cons]
  split <;> omega
theorem posE_step (e : EntD) (l : List EntD) (k : Nat) (h : k ≤ posE e l) : (∃ hk : k < l.length,ltK (keyD l[k]) (keyD e)) ↔ k < posE e l := by
 induction l generalizing k with
 | nil =>
  rw [posE]
  exact ⟨fun ⟨hk,_⟩ => absurd hk (Nat.not_lt_zero _),fun h => absurd h (Nat.not_lt_zero _)⟩
 | cons x r ih =>
  rw [posE] at h ⊢
  by_cases hx : ltK (keyD x) (keyD e)
  ·rw [if_pos hx] at h ⊢
   cases k with
   | zero => exact ⟨fun _ => Nat.succ_pos _,fun _ => ⟨Nat.succ_pos _,hx⟩⟩
   | succ k =>
    have h1 := ih k (by omega)
    constructor
    ·rintro ⟨hk,hl⟩
     have := h1.1 ⟨by simpa using hk,hl⟩
     omega
    ·intro hk
     obtain ⟨h2,h3⟩ := h1.2 (by omega)
     exact ⟨by simpa using h2,h3⟩
  ·rw [if_neg hx] at h ⊢
   obtain rfl : k = 0 := by omega
   exact ⟨fun ⟨_,hl⟩ => absurd hl hx,fun h => absurd h (Nat.lt_irrefl _)⟩
theorem insE_pos (e : EntD) (l : List EntD) : insE e l = l.take (posE e l) ++ e :: l.drop (posE e l) := by
 induction l with
 | nil => rfl
 | cons x r ih =>
  rw [insE,posE]
  by_cases hx : ltK (keyD x) (keyD e)
  ·rw [if_pos hx,if_pos hx,ih];rfl
  ·rw [if_neg hx,if_neg hx];rfl
theorem pos_exists {e : EntD} {l : List EntD} (hs : l.Pairwise fun a b => ltK (keyD a) (keyD b)) : keyD e ∈ l.map keyD ↔ ∃ h : posE e l < l.length,keyD l[posE e l] = keyD e := by
 constructor
 ·intro hm
  induction l with
  | nil => cases hm
  | cons x r ih =>
   have hs' := List.pairwise_cons.1 hs
   rw [List.map_cons] at hm
   by_cases hx : ltK (keyD x) (keyD e)
   ·rcases List.mem_cons.1 hm with hm | hm
    ·rw [hm] at hx;exact (ltK_irrefl hx).elim
    ·obtain ⟨h1,h2⟩ := ih hs'.2 hm
     simp only [posE,if_pos hx]
     exact ⟨by simpa using h1,h2⟩
   ·simp only [posE,if_neg hx]
    refine ⟨Nat.succ_pos _,?_⟩
    rcases List.mem_cons.1 hm with hm | hm
    ·exact hm.symm
    ·obtain ⟨y,hy,he⟩ := List.mem_map.1 hm
     have := hs'.1 y hy
     rw [he] at this
     exact absurd this hx
 ·rintro ⟨h,he⟩
  exact List.mem_map.2 ⟨_,List.getElem_mem h,he⟩
def refX (g : GameD) (es : List EntD) : List EntD := (sortE es).map (formE g)
theorem refX_snoc (g : GameD) (es : List EntD) (e : EntD) : refX g (es ++ [e]) = insE (formE g e) (refX g es) := by
 unfold refX
 rw [sortE_snoc,insE_form]
theorem refX_key {g : GameD} {es : List EntD} {e : EntD} : keyD e ∈ (refX g es).map keyD ↔ keyD e ∈ es.map keyD := by
 unfold refX
 rw [List.map_map]
 have : keyD ∘ formE g = keyD := by funext x;rfl
 rw [this]
 exact ((sortE_perm es).map keyD).mem_iff
theorem refX_sorted {g : GameD} {es : List EntD} (h : DiffK es) : (refX g es).Pairwise fun a b => ltK (keyD a) (keyD b) := by
 unfold refX
 rw [List.pairwise_map]
 exact sortE_sorted h
theorem refX_wins (g : GameD) (r : ResD) (es : List EntD) : winsX g r (refX g es) = winsX g r (sortE es) := winsX_form g r _
end Go.Proofs.YtmocomkobbiflaaGreat
end
section
open Go.RowKit
set_option linter.unusedVariables false
set_option linter.unusedSimpArgs false
namespace Go.Proofs.YtmocomkobbiflaaGreat
theorem wpList_load_mid_if2 {P : Program} {w : World} {ops : Array Oper} {rest : List Oper} {op : Oper} {a : Act} {Q : Exit → Act → World → Prop} (hgd : Region.wanted op (yielded ops a.tmps) = true) (ty : TypeId) (x : Operand) (ho : op.op = .load ty x)
  (b o : Nat) (hx : a.eval x = .pointer (some ⟨b,o,none⟩)) (cs : List Value) (d : TypeDesc) (hc : w.rangeAt b o cs)
  (hu : P.underlying ty = some d) (hd : d.isRow = true) (hi : (P.info? ty).map (·.size) = some cs.length)
  (h : wpList P ops Q rest (a.put op.dst (.agg cs.toArray)) w) : wpList P ops Q (op :: rest) a w :=
 wpList_step fun K hK => by rw [if_pos hgd];exact wp_load_mid ty x ho b o hx cs d hc hu hd hi (hK _ _ h)
def RefR (X : World) (C : Nat → Prop) (yb : Nat) (g : GameD) (av tv : Value) (es : List DoM) : Prop := ∃ (ea : Option Addr) (n ec : Nat),
 Row X yb 98 (gameCells g av tv ++ [.slice ea n ec]) ∧ ¬ C yb ∧ (∀ k,C k → k < X.heap.size) ∧
 ∀ Y,Chg (fun k => ¬ C k) X Y → RdS 4 DoM.cells Y (.slice ea n ec) es ∧ ∀ m ∈ es,LineR Y m.mv m.bv m.d.l.1 m.d.l.2
section
variable {X Y : World} {C p : Nat → Prop} {yb : Nat} {g : GameD} {av tv : Value} {es : List DoM}
theorem RefR.turn (h : RefR X C yb g av tv es) (hc : Chg p X Y) (hp : ∀ k,k < X.heap.size → p k → ¬ C k ∧ k ≠ yb) : RefR Y C yb g av tv es := by
 obtain ⟨ea,n,ec,h1,h2,h3,h4⟩ := h
 refine ⟨ea,n,ec,(hc.block yb h1.lt fun hpy => (hp yb h1.lt hpy).2 rfl).trans h1,h2,fun k hk => Nat.lt_of_lt_of_le (h3 k hk) hc.size,fun Z hZ => h4 Z ?_⟩
 exact ⟨hZ.os.trans hc.os,hZ.tape.trans hc.tape,hZ.output.trans hc.output,Nat.le_trans hc.size hZ.size,fun k hk hn => (hZ.block k (Nat.lt_of_lt_of_le hk hc.size) hn).trans (hc.block k hk fun hpk => hn (hp k hk hpk).1)⟩
theorem RefR.below (h : RefR X C yb g av tv es) (hb : Below X.heap.size X Y) : RefR Y C yb g av tv es := h.turn (p := fun _ => False) (Chg.ofBelow hb) fun _ _ h => h.elim
theorem RefR.ylt (h : RefR X C yb g av tv es) : yb < X.heap.size := by
 obtain ⟨ea,n,ec,h1,-⟩ := h
 exact h1.lt
end
set_option maxHeartbeats 4000000 in
set_option maxRecDepth 100000 in
theorem rnew_bad (g : GameD) (av tv : Value) (ms : List AddonM) (w : World) (rg : GameR w av tv ms g) (he : gameE g ≠ 0) :
  Calls Tryz.prog 11 #[gameVal g av tv] w (fun e w' => e = .returned (.tuple #[.pointer none,.int .i64 (gameE g)]) ∧ Below w.heap.size w w') := by
 have cC := hide (fun X (hX : Below w.heap.size w X) => rcheck_any g av tv ms X (rg.below hX))
 obtain ⟨aa,ac,rfl,hal,ham⟩ := rg.1.1.shape
 obtain ⟨ta,tc,rfl,htl,htm⟩ := rg.2.2.shape
 obtain ⟨an,han⟩ : ∃ an,an = ms.length := ⟨_,rfl⟩
 obtain ⟨tn,htn⟩ : ∃ tn,tn = g.tiers.length := ⟨_,rfl⟩
 obtain ⟨c,hc⟩ : ∃ c,c = gameE g := ⟨_,rfl⟩
 rw [← han,← htn,← hc] at cC
 rw [← han,← htn,← hc]
 rw [← hc] at he
 have hcb : (c != 0) = true := by simpa using he
 clear rg hal ham htl htm han htn hc he
 unfold gameVal ErrS at cC
 unfold gameVal
 go_enter Tryz.func11,Tryz.ntmps11
 go_upto_region 1 with (fail)
 obtain ⟨W,hW⟩ : ∃ W,W = w.alloc (Obj.cells #[.string g.name,.int .i64 g.kind,.int .i64 g.price,.int .i64 g.main,.int .i64 g.of,.int .i64 g.bonus,.int .i64 g.bonusOf,.int .i64 g.extra,.int .i64 g.draws,.int .i64 g.system,.int .i64 g.days,.int .i64 g.at_,.int .i64 g.close,.int .i64 g.cancel,.int .i64 g.expiry,.int .i64 g.pool,.int .i64 g.reserve,.int .i64 g.round,.int .i64 g.cap,.int .i64 g.rolls,(.slice aa an ac),(.slice ta tn tc)] 25) := ⟨_,rfl⟩
 have bW : Below w.heap.size w W := by rw [hW];exact Bel.al (Below.refl _ _) _
 have r0 : GameAt W w.heap.size g (.slice aa an ac) (.slice ta tn tc) := by rw [hW];exact Row.new _ _ _
 rw [← hW]
 clear hW
 go_wp2_with (first | (refine wpList_load_row rfl 25 _ rfl _ rfl _ _ _ _ r0 Tryz.underlying25 rfl (by kernel_rfl) ?_) | fail)
 refine (cC.out _ bW).mono ?_
 rintro e w1 ⟨s,rfl,b1⟩
 go_wp2
 go_ret2
 exact ⟨rfl,Bel.to bW b1⟩
def RNewO (g : GameD) (av tv : Value) (w : World) (e : Ending) (w' : World) : Prop := ∃ yb,e = .returned (.tuple #[.pointer (some ⟨yb,0,none⟩),.int .i64 0]) ∧ RefR w' (fun _ => False) yb g av tv [] ∧ w.heap.size ≤ yb ∧ Below w.heap.size w w'
set_option maxHeartbeats 4000000 in
set_option maxRecDepth 100000 in
theorem rnew_ok (g : GameD) (av tv : Value) (ms : List AddonM) (w : World) (rg : GameR w av tv ms g) (he : gameE g = 0) :
  Calls Tryz.prog 11 #[gameVal g av tv] w (RNewO g av tv w) := by
 have cC := hide (fun X (hX : Below w.heap.size w X) => rcheck_any g av tv ms X (rg.below hX))
 rw [he] at cC
 obtain ⟨aa,ac,rfl,hal,ham⟩ := rg.1.1.shape
 obtain ⟨ta,tc,rfl,htl,htm⟩ := rg.2.2.shape
 obtain ⟨an,han⟩ : ∃ an,an = ms.length := ⟨_,rfl⟩
 obtain ⟨tn,htn⟩ : ∃ tn,tn = g.tiers.length := ⟨_,rfl⟩
 rw [← han,← htn] at cC
 rw [← han,← htn]
 clear rg hal ham htl htm han htn he
 unfold gameVal ErrS at cC
 unfold gameVal
 go_enter Tryz.func11,Tryz.ntmps11
 go_upto_region 1 with (fail)
 obtain ⟨W,hW⟩ : ∃ W,W = w.alloc (Obj.cells #[.string g.name,.int .i64 g.kind,.int .i64 g.price,.int .i64 g.main,.int .i64 g.of,.int .i64 g.bonus,.int .i64 g.bonusOf,.int .i64 g.extra,.int .i64 g.draws,.int .i64 g.system,.int .i64 g.days,.int .i64 g.at_,.int .i64 g.close,.int .i64 g.cancel,.int .i64 g.expiry,.int .i64 g.pool,.int .i64 g.reserve,.int .i64 g.round,.int .i64 g.cap,.int .i64 g.rolls,(.slice aa an ac),(.slice ta tn tc)] 25) := ⟨_,rfl⟩
 have bW : Below w.heap.size w W := by rw [hW];exact Bel.al (Below.refl _ _) _
 have r0 : GameAt W w.heap.size g (.slice aa an ac) (.slice ta tn tc) := by rw [hW];exact Row.new _ _ _
 rw [← hW]
 clear hW
 go_wp2_with (first | (refine wpList_load_row rfl 25 _ rfl _ rfl _ _ _ _ r0 Tryz.underlying25 rfl (by kernel_rfl) ?_) | fail)
 refine (cC.out _ bW).mono ?_
 rintro e w1 ⟨s,rfl,b1⟩
 have r0 : Row w1 w.heap.size 25 [.string g.name,.int .i64 g.kind,.int .i64 g.price,.int .i64 g.main,.int .i64 g.of,.int .i64 g.bonus,.int .i64 g.bonusOf,.int .i64 g.extra,.int .i64 g.draws,.int .i64 g.system,.int .i64 g.days,.int .i64 g.at_,.int .i64 g.close,.int .i64 g.cancel,.int .i64 g.expiry,.int .i64 g.pool,.int .i64 g.reserve,.int .i64 g.round,.int .i64 g.cap,.int .i64 g.rolls,.slice aa an ac,.slice ta tn tc] := r0.keep b1
 have bW1 := Bel.to bW b1
 go_wp2_with (first | (refine wpList_load_row rfl 25 _ rfl _ rfl _ _ _ _ r0 Tryz.underlying25 rfl (by kernel_rfl) ?_) | fail)
 go_ret2
 refine ⟨w1.heap.size,rfl,⟨none,0,0,Row.newOf _ rfl,fun h => h,fun k h => h.elim,fun Y _ => ⟨⟨none,0,rfl,Nat.le_refl _,by decide,fun h => absurd h (by simp)⟩,fun m hm => by simp at hm⟩⟩,bW1.size,Bel.al bW1 _⟩
set_option maxHeartbeats 2000000 in
set_option maxRecDepth 100000 in
theorem rlen_any (yb : Nat) (C : Nat → Prop) (g : GameD) (av tv : Value) (es : List DoM) (w : World) (h : RefR w C yb g av tv es) : Calls Tryz.prog 17 #[.pointer (some ⟨yb,0,none⟩)] w (Pure (.int .i64 (es.length : Int)) w) := by
 obtain ⟨ea,n,ec,h1,h2,h3,h4⟩ := h
 have hlt := h1.lt
 obtain ⟨a,c,e,-⟩ := (h4 w (Chg.refl _ _)).1.shape
 injection e with e1 e2 e3
 have c22 : w.cell? ⟨yb,22,none⟩ = some (.slice ea n ec) := (h1.cell? 22).trans rfl
 rw [← e2]
 clear h1 h2 h3 h4 e1 e2 e3
 go_enter Tryz.func17,Tryz.ntmps17
 go_wp2
 go_ret
 exact ⟨rfl,rfl⟩
set_option maxHeartbeats 2000000 in
set_option maxRecDepth 100000 in
theorem before_any (a b : Int) (mv bv : Value) (t k : Int) (w : World) (hm : ∃ x y z,mv = .slice x y z) (hb : ∃ x y z,bv = .slice x y z) :
  Calls Tryz.prog 47 #[.agg #[.int .i64 a,.int .i64 b,mv,bv],.int .i64 t,.int .i64 k] w (BoolB (decide (ltK (a,b) (t,k))) w) := by
 obtain ⟨x1,x2,x3,rfl⟩ := hm
 obtain ⟨y1,y2,y3,rfl⟩ := hb
 by_cases h1 : a < t
 ·rw [decide_eq_true (show ltK (a,b) (t,k) from .inl h1)]
  go_enter Tryz.func47,Tryz.ntmps47
  go_wp2
  go_ret
  exact ⟨rfl,Bel.al (Below.refl _ _) _⟩
 ·by_cases h2 : a = t
  ·subst h2
   by_cases h3 : b < k
   ·rw [decide_eq_true (show ltK (a,b) (a,k) from .inr ⟨rfl,h3⟩)]
    go_enter Tryz.func47,Tryz.ntmps47
    go_wp2
    go_ret
    exact ⟨rfl,Bel.al (Below.refl _ _) _⟩
   ·rw [decide_eq_false (show ¬ ltK (a,b) (a,k) from fun h => by unfold ltK at h;simp only at h;omega)]
    go_enter Tryz.func47,Tryz.ntmps47
    go_wp2
    go_ret
    exact ⟨rfl,Bel.al (Below.refl _ _) _⟩
  ·rw [decide_eq_false (show ¬ ltK (a,b) (t,k) from fun h => by unfold ltK at h;simp only at h;omega)]
   have h4 : (a == t) = false := by simpa using h2
   go_enter Tryz.func47,Tryz.ntmps47
   go_wp2
   go_ret
   exact ⟨rfl,Bel.al (Below.refl _ _) _⟩
attribute [local go_sem ↓] Go.wp_at_zero Go.wp_at_succ
set_option maxHeartbeats 4000000 in
set_option maxRecDepth 100000 in
theorem rcanon_fr (mv bv : Value) (a b : List Int) (w : World) (h : LineR w mv bv a b) (ha : a.length ≤ 1000) (hb : b.length ≤ 1000) :
  Calls Tryz.prog 85 #[lineVal mv bv] w (LineF (sortI a) (sortI b) w) := by
 have hh := hide h
 obtain ⟨ma,mc,rfl,hma,hmc,-⟩ := h.1.form
 obtain ⟨ba,bc,rfl,hba,hbc,-⟩ := h.2.form
 clear h
 have cA := hide (fun X (hX : LineR X (.slice ma a.length mc) (.slice ba b.length bc) a b) => sorted13_fr _ a X hX.1 ha)
 have cB := hide (fun X (hX : LineR X (.slice ma a.length mc) (.slice ba b.length bc) a b) => sorted13_fr _ b X hX.2 hb)
 clear ha hb
 unfold lineVal
 go_enter Tryz.func85,Tryz.ntmps85
 go_upto_region 1 with (fail)
 obtain ⟨W,hW⟩ : ∃ W,W = ((w.alloc (Obj.cells #[(.slice ma a.length mc),(.slice ba b.length bc)] 41)).alloc (Obj.cells #[(.slice none 0 0),(.slice none 0 0)] 41)) := ⟨_,rfl⟩
 have bW : Below w.heap.size w W := by rw [hW];exact Bel.al (Bel.al (Below.refl _ _) _) _
 have r0 : LineAt W (w.heap.size) ((.slice ma a.length mc)) ((.slice ba b.length bc)) := by rw [hW];exact Row.alloc (Row.new _ _ _) _
 have r1 : LineAt W (w.heap.size + 1) ((.slice none 0 0)) ((.slice none 0 0)) := by rw [hW];exact Row.at2 _ _ _ _
 have sW : w.heap.size + 1 < W.heap.size := by rw [hW];simp
 rw [← hW]
 clear hW
 have c0 := r0.main
 have c1 := r0.bonus
 have hl0 := hide (fun X (hX : Below w.heap.size w X) => hh.out.below hX)
 have k0 := hide (fun X (hX : Below W.heap.size W X) => (r0.keep hX).main)
 have k1 := hide (fun X (hX : Below W.heap.size W X) => (r0.keep hX).bonus)
 have k2 := hide (fun X (hX : Below W.heap.size W X) => (r1.keep hX).main)
 have k3 := hide (fun X (hX : Below W.heap.size W X) => (r1.keep hX).bonus)
 have k4 := hide (fun X (hX : Below W.heap.size W X) => Row.frozen (r1.keep hX) 0)
 have k5 := hide (fun X (hX : Below W.heap.size W X) => Row.frozen (r1.keep hX) 1)
 have bd : Below W.heap.size W W.drew := Below.drew (Below.refl _ _)
 go_region_held3 (fun X => X.cell? ⟨w.heap.size,0,none⟩ = some (.slice ma a.length mc) ∧ X.cell? ⟨w.heap.size,1,none⟩ = some (.slice ba b.length bc)) (go_keep) (first
  | (go_at_call 126;(with_reducible refine (cA.out _ ?_).mono ?_);(first | exact hl0.out _ (Bel.to bW bB) | exact hl0.out _ (Bel.to bW bd));rintro e wa ⟨ua,rfl,hua,fua,hba⟩;obtain ⟨xa,na,ka,rfl⟩ := Rd.shape hua;have bA : Below W.heap.size W wa := (by first | exact Bel.to bB hba | exact Bel.to bd hba);have c0 := k0.out _ bA;have c1 := k1.out _ bA;have c2 := k2.out _ bA;have c3 := k3.out _ bA;have c4 := k4.out _ bA;have c5 := k5.out _ bA;(try have hub := hub.below hba);have fua := hide (Fr.mono fua (by first | exact (Bel.to bW bB).size | exact (Bel.to bW bd).size)))
  | (go_at_call 126;(with_reducible refine (cB.out _ ?_).mono ?_);(first | exact hl0.out _ (Bel.to bW bA) | exact hl0.out _ (Bel.to bW bd));rintro e wb ⟨ub,rfl,hub,fub,hbb⟩;obtain ⟨xb,nb,kb,rfl⟩ := Rd.shape hub;have bB : Below W.heap.size W wb := (by first | exact Bel.to bA hbb | exact Bel.to bd hbb);have c0 := k0.out _ bB;have c1 := k1.out _ bB;have c2 := k2.out _ bB;have c3 := k3.out _ bB;have c4 := k4.out _ bB;have c5 := k5.out _ bB;(try have hua := hua.below hbb);have fub := hide (Fr.mono fub (by first | exact (Bel.to bW bA).size | exact (Bel.to bW bd).size))))
 have hua2 := (hua.setNe c2 (fun _ h => by cases h) (.slice xa na ka)).setNe (p := ⟨w.heap.size + 1,1,none⟩) (c := .slice none 0 0) (by go_simp) (fun _ h => by cases h) (.slice xb nb kb)
 have hub2 := (hub.setNe c2 (fun _ h => by cases h) (.slice xa na ka)).setNe (p := ⟨w.heap.size + 1,1,none⟩) (c := .slice none 0 0) (by go_simp) (fun _ h => by cases h) (.slice xb nb kb)
 have bfin : Below w.heap.size w ((wb.setCell ⟨w.heap.size + 1,0,none⟩ (.slice xa na ka)).setCell ⟨w.heap.size + 1,1,none⟩ (.slice xb nb kb)) := Bel.st (Bel.st (Bel.to bW bB) (by simp) _) (by simp) _
 go_wp2
 exact bodyPost_ret (v := .agg #[.slice xa na ka,.slice xb nb kb]) (by simp [results,Tryz.results85,go_sem,c2,c3]) rfl ⟨_,_,rfl,⟨hua2,hub2⟩,fua.out,fub.out,bfin⟩
theorem wp_append_rd16 {P : Program} {w : World} {α : Type} {V : α → Value} {o : Oper} {a : Act} {K : Act → World → Prop} {Q : Exit → Act → World → Prop} (s x : Operand) (t : TypeId)
  (ho : o.op = .call { callee := .builtin .append,args := #[s,x],argTypes := #[t,t] })
  (hone : ∀ x,(V x).oneCell' = true) (base : Nat) (e : TypeId) (z : Value) (bytes : Nat) (ht : P.underlying t = some (.slice e)) (hi : (P.info? e).map (fun i => (i.zero,i.size,i.bytes)) = some (some z,1,bytes)) (hzs : z.cells.size = 1)
  (v : Value) (l : List α) (hs : a.eval s = v) (hown : Own V w base e v l) (u : Value) (l2 : List α) (hx : a.eval x = u) (hr : Rd V w u l2)
  (h63 : l.length + l2.length ≤ 9223372036854775807) (hbytes : (l.length + l2.length) * bytes ≤ 140737488355328) (hbase : base ≤ w.heap.size)
  (h : ∀ v' w',Own V w' base e v' (l ++ l2) → w.grownBy w' v.ownBlock → (v'.ownBlock = v.ownBlock ∨ v'.ownBlock = some w.heap.size) → K (a.put o.dst v') w') : o.wp P a w K Q := by
 obtain ⟨v',w',hr,h2,h3,h4⟩ := run_append_rd (P := P) w hone base t o.type e z bytes ht hi hzs v l hown u l2 hr h63 hbytes hbase
 unfold Oper.wp execOp
 simp only [ho,resolve,invoke,builtin,Sem.run_bind,Sem.run_pure,Result.andThen_ok,List.map_toArray,List.map_cons,List.map_nil,hs,hx,hr]
 exact h v' w' h2 h3 h4
set_option maxHeartbeats 4000000 in
set_option maxRecDepth 100000 in
theorem rform_choose (g : GameD) (av tv mv bv : Value) (ms : List AddonM) (a b : List Int) (w : World) (hg : GameR w av tv ms g) (h : LineR w mv bv a b) (ha : a.length ≤ 1000) (hb : b.length ≤ 1000) (hk : g.kind ≠ 2) :
  Calls Tryz.prog 48 #[gameVal g av tv,lineVal mv bv] w (LineF (sortI a) (sortI b) w) := by
 have cC := hide (fun X (hX : Below w.heap.size w X) => rcanon_fr mv bv a b X (h.below hX) ha hb)
 obtain ⟨aa,ac,rfl,hal,ham⟩ := hg.1.1.shape
 obtain ⟨ta,tc,rfl,htl,htm⟩ := hg.2.2.shape
 obtain ⟨ma,mc,rfl,hma,hmc,-⟩ := h.1.form
 obtain ⟨ba,bc,rfl,hba,hbc,-⟩ := h.2.form
 clear h hg
 have hkb : (g.kind == 2) = false := by simpa using hk
 replace hk := hide hk
 unfold lineVal at cC
 unfold lineVal gameVal
 go_enter Tryz.func48,Tryz.ntmps48
 go_upto_region 1 with (fail)
 obtain ⟨W,hW⟩ : ∃ W,W = (((w.alloc (Obj.cells #[.string g.name,.int .i64 g.kind,.int .i64 g.price,.int .i64 g.main,.int .i64 g.of,.int .i64 g.bonus,.int .i64 g.bonusOf,.int .i64 g.extra,.int .i64 g.draws,.int .i64 g.system,.int .i64 g.days,.int .i64 g.at_,.int .i64 g.close,.int .i64 g.cancel,.int .i64 g.expiry,.int .i64 g.pool,.int .i64 g.reserve,.int .i64 g.round,.int .i64 g.cap,.int .i64 g.rolls,(.slice aa ms.length ac),(.slice ta g.tiers.length tc)] 25)).alloc (Obj.cells #[(.slice ma a.length mc),(.slice ba b.length bc)] 41)).alloc (Obj.cells #[(.slice none 0 0),(.slice none 0 0)] 41)) := ⟨_,rfl⟩
 have bW : Below w.heap.size w W := by rw [hW];exact Bel.al (Bel.al (Bel.al (Below.refl _ _) _) _) _
 have r0 : GameAt W (w.heap.size) g ((.slice aa ms.length ac)) ((.slice ta g.tiers.length tc)) := by rw [hW];exact Row.alloc (Row.alloc (Row.new _ _ _) _) _
 have r1 : LineAt W (w.heap.size + 1) ((.slice ma a.length mc)) ((.slice ba b.length bc)) := by rw [hW];exact Row.alloc (Row.at2 _ _ _ _) _
 have r2 : LineAt W (w.heap.size + 1 + 1) ((.slice none 0 0)) ((.slice none 0 0)) := by rw [hW];exact Row.at3 _ _ _ _ _
 have sW : w.heap.size + 1 + 1 < W.heap.size := by rw [hW];simp
 rw [← hW]
 clear hW
 have d1 := r0.kind
 go_wp2_with (first | (refine wpList_load_row rfl 41 _ rfl _ rfl _ _ _ _ r1 Tryz.underlying41 rfl (by kernel_rfl) ?_) | fail)
 refine (cC.out _ bW).mono ?_
 rintro e w1 ⟨u,v,rfl,hlr,fu,fv,hb1⟩
 obtain ⟨u1,u2,u3,rfl⟩ := Rd.shape hlr.1
 obtain ⟨v1,v2,v3,rfl⟩ := Rd.shape hlr.2
 have r2 := r2.keep hb1
 have x0 := LineAt.main r2
 have x1 := LineAt.bonus r2
 have x2 := Row.frozen r2 0
 have x3 := Row.frozen r2 1
 have B1 := Bel.to bW hb1
 have rL : LineAt ((w1.setCell ⟨w.heap.size + 2,0,none⟩ (.slice u1 u2 u3)).setCell ⟨w.heap.size + 2,1,none⟩ (.slice v1 v2 v3)) (w.heap.size + 2) (.slice u1 u2 u3) (.slice v1 v2 v3) := LineAt.store r2 _ _
 have y0 := hide rL.main
 have y1 := hide rL.bonus
 have B9 := Bel.st (Bel.st B1 (p := ⟨w.heap.size + 2,0,none⟩) (by simp) (.slice u1 u2 u3)) (p := ⟨w.heap.size + 2,1,none⟩) (by simp) (.slice v1 v2 v3)
 have c1' : (w1.setCell ⟨w.heap.size + 2,0,none⟩ (.slice u1 u2 u3)).cell? ⟨w.heap.size + 2,1,none⟩ = some (.slice none 0 0) := by go_simp
 have n1 : ∀ x,I64 x ≠ Value.slice none 0 0 := fun x h => by cases h
 have hl9 : LineR ((w1.setCell ⟨w.heap.size + 2,0,none⟩ (.slice u1 u2 u3)).setCell ⟨w.heap.size + 2,1,none⟩ (.slice v1 v2 v3)) (.slice u1 u2 u3) (.slice v1 v2 v3) (sortI a) (sortI b) :=
  ⟨(hlr.1.setNe x0 n1 _).setNe c1' n1 _,(hlr.2.setNe x0 n1 _).setNe c1' n1 _⟩
 have fu := hide (fu.mono bW.size)
 have fv := hide (fv.mono bW.size)
 clear rL hb1 hlr c1'
 unfold lineVal
 go_wp2
 exact bodyPost_ret (v := .agg #[.slice u1 u2 u3,.slice v1 v2 v3]) (by simp [results,Tryz.results48,go_sem,y0.out,y1.out]) rfl ⟨_,_,rfl,hl9,fu.out,fv.out,B9⟩
set_option maxHeartbeats 4000000 in
set_option maxRecDepth 100000 in
theorem rform_digits (g : GameD) (av tv mv bv : Value) (ms : List AddonM) (a b : List Int) (w : World) (hg : GameR w av tv ms g) (h : LineR w mv bv a b) (ha : a.length ≤ 1000) (hb : b.length ≤ 1000) (hk : g.kind = 2) :
  Calls Tryz.prog 48 #[gameVal g av tv,lineVal mv bv] w (LineF a b w) := by
 have hh := hide h
 obtain ⟨aa,ac,rfl,hal,ham⟩ := hg.1.1.shape
 obtain ⟨ta,tc,rfl,htl,htm⟩ := hg.2.2.shape
 obtain ⟨ma,mc,rfl,hma,hmc,-⟩ := h.1.form
 obtain ⟨ba,bc,rfl,hba,hbc,-⟩ := h.2.form
 clear h hg
 have hkb : (g.kind == 2) = true := by simpa using hk
 replace hk := hide hk
 unfold lineVal gameVal
 go_enter Tryz.func48,Tryz.ntmps48
 go_upto_region 1 with (fail)
 obtain ⟨W,hW⟩ : ∃ W,W = (((w.alloc (Obj.cells #[.string g.name,.int .i64 g.kind,.int .i64 g.price,.int .i64 g.main,.int .i64 g.of,.int .i64 g.bonus,.int .i64 g.bonusOf,.int .i64 g.extra,.int .i64 g.draws,.int .i64 g.system,.int .i64 g.days,.int .i64 g.at_,.int .i64 g.close,.int .i64 g.cancel,.int .i64 g.expiry,.int .i64 g.pool,.int .i64 g.reserve,.int .i64 g.round,.int .i64 g.cap,.int .i64 g.rolls,(.slice aa ms.length ac),(.slice ta g.tiers.length tc)] 25)).alloc (Obj.cells #[(.slice ma a.length mc),(.slice ba b.length bc)] 41)).alloc (Obj.cells #[(.slice none 0 0),(.slice none 0 0)] 41)) := ⟨_,rfl⟩
 have bW : Below w.heap.size w W := by rw [hW];exact Bel.al (Bel.al (Bel.al (Below.refl _ _) _) _) _
 have r0 : GameAt W (w.heap.size) g ((.slice aa ms.length ac)) ((.slice ta g.tiers.length tc)) := by rw [hW];exact Row.alloc (Row.alloc (Row.new _ _ _) _) _
 have r1 : LineAt W (w.heap.size + 1) ((.slice ma a.length mc)) ((.slice ba b.length bc)) := by rw [hW];exact Row.alloc (Row.at2 _ _ _ _) _
 have r2 : LineAt W (w.heap.size + 1 + 1) ((.slice none 0 0)) ((.slice none 0 0)) := by rw [hW];exact Row.at3 _ _ _ _ _
 have sW : w.heap.size + 1 + 1 < W.heap.size := by rw [hW];simp
 rw [← hW]
 clear hW
 have d1 := r0.kind
 go_upto_region 2 with (fail)
 clear r0
 have hl0 := hide (fun X (hX : Below W.heap.size W X) => hh.out.below (Bel.to bW hX))
 have bd : Below W.heap.size W W.drew := Below.drewSelf W
 refine wp_region_held_drew (S := fun X => Rng X [(w.heap.size + 1,[.slice ma a.length mc,.slice ba b.length bc])]) (by kernel_rfl) (Rng.drew (Rng.cons r1 (Rng.nil _))) (fun hHeld => ?_)
 refine' wpAnyH_take (i := 1) (oi := _) (v := .pointer (some ⟨w.heap.size + 1,0,none⟩)) rfl (by kernel_rfl) (by kernel_rfl) (by kernel_rfl) (fun _ _ _ h => h) (Or.inl ⟨by rfl,fun X _ => by go_simp⟩) hHeld ?_
 try simp only [Act.put,zsA,zsB,zsC]
 refine' wpAnyH_take (i := 2) (oi := _) (v := .slice ma a.length mc) rfl (by kernel_rfl) (by kernel_rfl) (by kernel_rfl) (fun _ _ _ h => h) (Or.inl ⟨by rfl,fun X hX => by have cX := Rng.cell0 hX 0 _ rfl;go_simp⟩) hHeld ?_
 try simp only [Act.put,zsA,zsB,zsC]
 refine' wpAnyH_take (i := 5) (oi := _) (v := .pointer (some ⟨w.heap.size + 1,1,none⟩)) rfl (by kernel_rfl) (by kernel_rfl) (by kernel_rfl) (fun _ _ _ h => h) (Or.inl ⟨by rfl,fun X _ => by go_simp⟩) hHeld ?_
 try simp only [Act.put,zsA,zsB,zsC]
 refine' wpAnyH_take (i := 6) (oi := _) (v := .slice ba b.length bc) rfl (by kernel_rfl) (by kernel_rfl) (by kernel_rfl) (fun _ _ _ h => h) (Or.inl ⟨by rfl,fun X hX => by have cX := Rng.cell0 hX 1 _ rfl;go_simp⟩) hHeld ?_
 try simp only [Act.put,zsA,zsB,zsC]
 refine wpAnyH_ready (rs := [0,4]) (by kernel_rfl) (by simp) ?_
 refine AllReadyH.cons (o := _) rfl (fun K hK => ?_) (AllReadyH.cons (o := _) rfl (fun K hK => ?_) AllReadyH.nil)
 ·skip
  go_simp
  obtain ⟨Y1,hY1⟩ : ∃ Y,Y = W.drew.alloc (.cells #[] 3) := ⟨_,rfl⟩
  have nY1 : Own I64 Y1 W.heap.size 3 (.slice (some ⟨W.heap.size,0,none⟩) 0 0) [] := by rw [hY1];exact Own.ofRow (m := 0) (z := .int .i64 0) (Row.new _ _ _) (bd.size) (by omega)
  have bY1 : Below W.drew.heap.size W.drew Y1 := by rw [hY1];exact Bel.al (Below.refl _ _) _
  have bY2 : Below W.heap.size W Y1 := Bel.to bd bY1
  have zY1 : W.heap.size < Y1.heap.size := by rw [hY1];simp
  first | rw [← hY1] | (have hZ2 : Y1 = (W.alloc (.cells #[] 3)).drew := hY1;rw [← hZ2];clear hZ2)
  clear hY1
  refine hK.out _ _ (hHeld.keep bY1) (fun hHeld => ?_)
  clear hK K
  try simp only [Act.put,zsA,zsB,zsC]
  refine wpAnyH_ready (rs := [3,4]) (by kernel_rfl) (by simp) ?_
  refine AllReadyH.cons (o := _) rfl (fun K hK => ?_) (AllReadyH.cons (o := _) rfl (fun K hK => ?_) AllReadyH.nil)
  ·skip
   refine wp_append_rd16 _ _ 27 rfl (V := I64) (fun _ => rfl) W.heap.size 3 (.int .i64 0) 8 Tryz.underlying27 infoInt rfl (.slice (some ⟨W.heap.size,0,none⟩) 0 0) [] rfl nY1 _ a rfl (hl0.out Y1 bY2).1 (by simp;omega) (by simp;omega) bY2.size ?_
   intro v4 w3 nw3 gw3 h4
   rw [List.nil_append] at nw3
   have bY5 : Below W.heap.size W w3 := bY2.grown gw3 bY2.size (fun k hk => (nY1.lt k hk).1)
   have pw3 := h4
   have qw3 := nw3.lt
   obtain ⟨v4a,v4c,v4e⟩ := nw3.shape
   have fw3 := nw3.fr
   clear h4
   refine hK.out _ _ (by have := bY5;exact Rng.cons (r1.keep bY5) (Rng.nil _)) (fun hHeld => ?_)
   clear hK K
   try simp only [Act.put,zsA,zsB,zsC]
   refine wpAnyH_ready (rs := [4]) (by kernel_rfl) (by simp) ?_
   refine AllReadyH.cons (o := _) rfl (fun K hK => ?_) AllReadyH.nil
   go_simp
   obtain ⟨Y6,hY6⟩ : ∃ Y,Y = w3.alloc (.cells #[] 3) := ⟨_,rfl⟩
   have nY6 : Own I64 Y6 W.heap.size 3 (.slice (some ⟨w3.heap.size,0,none⟩) 0 0) [] := by rw [hY6];exact Own.ofRow (m := 0) (z := .int .i64 0) (Row.new _ _ _) (bY5.size) (by omega)
   have bY6 : Below w3.heap.size w3 Y6 := by rw [hY6];exact Bel.al (Below.refl _ _) _
   have bY7 : Below W.heap.size W Y6 := Bel.to bY5 bY6
   have lY6 := nw3.lt
   have mY6 := nw3.keep bY6
   have zY6 : w3.heap.size < Y6.heap.size := by rw [hY6];simp
   rw [← hY6]
   clear hY6
   refine hK.out _ _ (hHeld.keep bY6) (fun hHeld => ?_)
   clear hK K
   try simp only [Act.put,zsA,zsB,zsC]
   refine wpAnyH_ready (rs := [7]) (by kernel_rfl) (by simp) ?_
   refine AllReadyH.cons (o := _) rfl (fun K hK => ?_) AllReadyH.nil
   refine wp_append_rd16 _ _ 27 rfl (V := I64) (fun _ => rfl) W.heap.size 3 (.int .i64 0) 8 Tryz.underlying27 infoInt rfl (.slice (some ⟨w3.heap.size,0,none⟩) 0 0) [] rfl nY6 _ b rfl (hl0.out Y6 bY7).2 (by simp;omega) (by simp;omega) bY7.size ?_
   intro v9 w8 nw8 gw8 h4
   rw [List.nil_append] at nw8
   have bY10 : Below W.heap.size W w8 := bY7.grown gw8 bY7.size (fun k hk => (nY6.lt k hk).1)
   have mw8 := mY6.grown gw8 (.inr (fun h => by have h8 := lY6 w3.heap.size (h.trans rfl);omega))
   obtain ⟨v9a,v9c,v9e⟩ := nw8.shape
   have fw8 := nw8.fr
   clear h4
   refine hK.out _ _ (by have := bY10;exact Rng.cons (r1.keep bY10) (Rng.nil _)) (fun hHeld => ?_)
   clear hK K
   try simp only [Act.put,zsA,zsB,zsC]
   skip
   subst v4e
   subst v9e
   refine' wpAnyH_take (i := 8) (oi := _) (v := .agg #[.slice v4a a.length v4c,.slice v9a b.length v9c]) rfl (by kernel_rfl) (by kernel_rfl) (by kernel_rfl) (fun _ _ _ h => h) (Or.inl ⟨by rfl,fun X _ => by go_simp⟩) hHeld ?_
   try simp only [Act.put,zsA,zsB,zsC]
   have s2 := r2.keep bY10
   have x0 := LineAt.main s2
   have x2 := Row.frozen s2 0
   have x1 := LineAt.bonus s2
   have x3 := Row.frozen s2 1
   have rL : LineAt ((w8.setCell ⟨w.heap.size + 2,0,none⟩ (.slice v4a a.length v4c)).setCell ⟨w.heap.size + 2,1,none⟩ (.slice v9a b.length v9c)) (w.heap.size + 2) (.slice v4a a.length v4c) (.slice v9a b.length v9c) := LineAt.store s2 _ _
   have B9 := Bel.st (Bel.st (Bel.to bW bY10) (p := ⟨w.heap.size + 2,0,none⟩) (by simp) (.slice v4a a.length v4c)) (p := ⟨w.heap.size + 2,1,none⟩) (by simp) (.slice v9a b.length v9c)
   have c1' : (w8.setCell ⟨w.heap.size + 2,0,none⟩ (.slice v4a a.length v4c)).cell? ⟨w.heap.size + 2,1,none⟩ = some (.slice none 0 0) := by go_simp
   have n1 : ∀ x,I64 x ≠ Value.slice none 0 0 := fun x h => by cases h
   have hl9 : LineR ((w8.setCell ⟨w.heap.size + 2,0,none⟩ (.slice v4a a.length v4c)).setCell ⟨w.heap.size + 2,1,none⟩ (.slice v9a b.length v9c)) (.slice v4a a.length v4c) (.slice v9a b.length v9c) a b := ⟨(mw8.rd.setNe x0 n1 _).setNe c1' n1 _,(nw8.rd.setNe x0 n1 _).setNe c1' n1 _⟩
   have fu := hide (fw3.mono bW.size)
   have fv := hide (fw8.mono bW.size)
   have rLh := hide rL
   clear rL
   refine wpAnyH_ready (rs := [9]) (by kernel_rfl) (by simp) ?_
   refine AllReadyH.cons (o := _) rfl (fun K hK => ?_) AllReadyH.nil
   go_simp
   refine hK.out _ _ (Rng.cons (Row.far (Row.far (r1.keep bY10) (p := ⟨w.heap.size + 2,0,none⟩) (by simp) _) (p := ⟨w.heap.size + 2,1,none⟩) (by simp) _) (Rng.nil _)) (fun hHeld => ?_)
   clear hK K
   try simp only [Act.put,zsA,zsB,zsC]
   refine wpAnyH_done (by kernel_rfl) ?_ _
   go_simp
   have y0 := rLh.out.main
   have y1 := rLh.out.bonus
   go_wp2
   exact bodyPost_ret (v := .agg #[.slice v4a a.length v4c,.slice v9a b.length v9c]) (by simp [results,Tryz.results48,go_sem,y0,y1]) rfl ⟨_,_,rfl,hl9,fu.out,fv.out,B9⟩
  ·skip
   go_simp
   obtain ⟨Y11,hY11⟩ : ∃ Y,Y = Y1.alloc (.cells #[] 3) := ⟨_,rfl⟩
   have nY11 : Own I64 Y11 W.heap.size 3 (.slice (some ⟨Y1.heap.size,0,none⟩) 0 0) [] := by rw [hY11];exact Own.ofRow (m := 0) (z := .int .i64 0) (Row.new _ _ _) (bY2.size) (by omega)
   have bY11 : Below Y1.heap.size Y1 Y11 := by rw [hY11];exact Bel.al (Below.refl _ _) _
   have bY12 : Below W.heap.size W Y11 := Bel.to bY2 bY11
   have lY11 := nY1.lt
   have mY11 := nY1.keep bY11
   have zY11 : Y1.heap.size < Y11.heap.size := by rw [hY11];simp
   rw [← hY11]
   clear hY11
   refine hK.out _ _ (hHeld.keep bY11) (fun hHeld => ?_)
   clear hK K
   try simp only [Act.put,zsA,zsB,zsC]
   refine wpAnyH_ready (rs := [3]) (by kernel_rfl) (by simp) ?_
   refine AllReadyH.cons (o := _) rfl (fun K hK => ?_) AllReadyH.nil
   refine wp_append_rd16 _ _ 27 rfl (V := I64) (fun _ => rfl) W.heap.size 3 (.int .i64 0) 8 Tryz.underlying27 infoInt rfl (.slice (some ⟨W.heap.size,0,none⟩) 0 0) [] rfl mY11 _ a rfl (hl0.out Y11 bY12).1 (by simp;omega) (by simp;omega) bY12.size ?_
   intro v14 w13 nw13 gw13 h4
   rw [List.nil_append] at nw13
   have bY15 : Below W.heap.size W w13 := bY12.grown gw13 bY12.size (fun k hk => (mY11.lt k hk).1)
   have mw13 := nY11.grown gw13 (.inr (by simp only [Value.ownBlock];intro h;injection h with h;omega))
   have pw13 := h4
   have qw13 := nw13.lt
   obtain ⟨v14a,v14c,v14e⟩ := nw13.shape
   have fw13 := nw13.fr
   clear h4
   refine hK.out _ _ (by have := bY15;exact Rng.cons (r1.keep bY15) (Rng.nil _)) (fun hHeld => ?_)
   clear hK K
   try simp only [Act.put,zsA,zsB,zsC]
   refine wpAnyH_ready (rs := [7]) (by kernel_rfl) (by simp) ?_
   refine AllReadyH.cons (o := _) rfl (fun K hK => ?_) AllReadyH.nil
   refine wp_append_rd16 _ _ 27 rfl (V := I64) (fun _ => rfl) W.heap.size 3 (.int .i64 0) 8 Tryz.underlying27 infoInt rfl (.slice (some ⟨Y1.heap.size,0,none⟩) 0 0) [] rfl mw13 _ b rfl (hl0.out w13 bY15).2 (by simp;omega) (by simp;omega) bY15.size ?_
   intro v17 w16 nw16 gw16 h4
   rw [List.nil_append] at nw16
   have bY18 : Below W.heap.size W w16 := bY15.grown gw16 bY15.size (fun k hk => (mw13.lt k hk).1)
   have mw16 := nw13.grown gw16 (.inr (fun h => by rcases pw13 with h8 | h8 <;> (have h9 := h8.symm.trans h;simp only [Value.ownBlock] at h9;injection h9 with h9;omega)))
   obtain ⟨v17a,v17c,v17e⟩ := nw16.shape
   have fw16 := nw16.fr
   clear h4
   refine hK.out _ _ (by have := bY18;exact Rng.cons (r1.keep bY18) (Rng.nil _)) (fun hHeld => ?_)
   clear hK K
   try simp only [Act.put,zsA,zsB,zsC]
   skip
   subst v14e
   subst v17e
   refine' wpAnyH_take (i := 8) (oi := _) (v := .agg #[.slice v14a a.length v14c,.slice v17a b.length v17c]) rfl (by kernel_rfl) (by kernel_rfl) (by kernel_rfl) (fun _ _ _ h => h) (Or.inl ⟨by rfl,fun X _ => by go_simp⟩) hHeld ?_
   try simp only [Act.put,zsA,zsB,zsC]
   have s2 := r2.keep bY18
   have x0 := LineAt.main s2
   have x2 := Row.frozen s2 0
   have x1 := LineAt.bonus s2
   have x3 := Row.frozen s2 1
   have rL : LineAt ((w16.setCell ⟨w.heap.size + 2,0,none⟩ (.slice v14a a.length v14c)).setCell ⟨w.heap.size + 2,1,none⟩ (.slice v17a b.length v17c)) (w.heap.size + 2) (.slice v14a a.length v14c) (.slice v17a b.length v17c) := LineAt.store s2 _ _
   have B9 := Bel.st (Bel.st (Bel.to bW bY18) (p := ⟨w.heap.size + 2,0,none⟩) (by simp) (.slice v14a a.length v14c)) (p := ⟨w.heap.size + 2,1,none⟩) (by simp) (.slice v17a b.length v17c)
   have c1' : (w16.setCell ⟨w.heap.size + 2,0,none⟩ (.slice v14a a.length v14c)).cell? ⟨w.heap.size + 2,1,none⟩ = some (.slice none 0 0) := by go_simp
   have n1 : ∀ x,I64 x ≠ Value.slice none 0 0 := fun x h => by cases h
   have hl9 : LineR ((w16.setCell ⟨w.heap.size + 2,0,none⟩ (.slice v14a a.length v14c)).setCell ⟨w.heap.size + 2,1,none⟩ (.slice v17a b.length v17c)) (.slice v14a a.length v14c) (.slice v17a b.length v17c) a b := ⟨(mw16.rd.setNe x0 n1 _).setNe c1' n1 _,(nw16.rd.setNe x0 n1 _).setNe c1' n1 _⟩
   have fu := hide (fw13.mono bW.size)
   have fv := hide (fw16.mono bW.size)
   have rLh := hide rL
   clear rL
   refine wpAnyH_ready (rs := [9]) (by kernel_rfl) (by simp) ?_
   refine AllReadyH.cons (o := _) rfl (fun K hK => ?_) AllReadyH.nil
   go_simp
   refine hK.out _ _ (Rng.cons (Row.far (Row.far (r1.keep bY18) (p := ⟨w.heap.size + 2,0,none⟩) (by simp) _) (p := ⟨w.heap.size + 2,1,none⟩) (by simp) _) (Rng.nil _)) (fun hHeld => ?_)
   clear hK K
   try simp only [Act.put,zsA,zsB,zsC]
   refine wpAnyH_done (by kernel_rfl) ?_ _
   go_simp
   have y0 := rLh.out.main
   have y1 := rLh.out.bonus
   go_wp2
   exact bodyPost_ret (v := .agg #[.slice v14a a.length v14c,.slice v17a b.length v17c]) (by simp [results,Tryz.results48,go_sem,y0,y1]) rfl ⟨_,_,rfl,hl9,fu.out,fv.out,B9⟩
 ·skip
  go_simp
  obtain ⟨Y19,hY19⟩ : ∃ Y,Y = W.drew.alloc (.cells #[] 3) := ⟨_,rfl⟩
  have nY19 : Own I64 Y19 W.heap.size 3 (.slice (some ⟨W.heap.size,0,none⟩) 0 0) [] := by rw [hY19];exact Own.ofRow (m := 0) (z := .int .i64 0) (Row.new _ _ _) (bd.size) (by omega)
  have bY19 : Below W.drew.heap.size W.drew Y19 := by rw [hY19];exact Bel.al (Below.refl _ _) _
  have bY20 : Below W.heap.size W Y19 := Bel.to bd bY19
  have zY19 : W.heap.size < Y19.heap.size := by rw [hY19];simp
  first | rw [← hY19] | (have hZ2 : Y19 = (W.alloc (.cells #[] 3)).drew := hY19;rw [← hZ2];clear hZ2)
  clear hY19
  refine hK.out _ _ (hHeld.keep bY19) (fun hHeld => ?_)
  clear hK K
  try simp only [Act.put,zsA,zsB,zsC]
  refine wpAnyH_ready (rs := [0]) (by kernel_rfl) (by simp) ?_
  refine AllReadyH.cons (o := _) rfl (fun K hK => ?_) AllReadyH.nil
  go_simp
  obtain ⟨Y21,hY21⟩ : ∃ Y,Y = Y19.alloc (.cells #[] 3) := ⟨_,rfl⟩
  have nY21 : Own I64 Y21 W.heap.size 3 (.slice (some ⟨Y19.heap.size,0,none⟩) 0 0) [] := by rw [hY21];exact Own.ofRow (m := 0) (z := .int .i64 0) (Row.new _ _ _) (bY20.size) (by omega)
  have bY21 : Below Y19.heap.size Y19 Y21 := by rw [hY21];exact Bel.al (Below.refl _ _) _
  have bY22 : Below W.heap.size W Y21 := Bel.to bY20 bY21
  have lY21 := nY19.lt
  have mY21 := nY19.keep bY21
  have zY21 : Y19.heap.size < Y21.heap.size := by rw [hY21];simp
  rw [← hY21]
  clear hY21
  refine hK.out _ _ (hHeld.keep bY21) (fun hHeld => ?_)
  clear hK K
  try simp only [Act.put,zsA,zsB,zsC]
  refine wpAnyH_ready (rs := [3]) (by kernel_rfl) (by simp) ?_
  refine AllReadyH.cons (o := _) rfl (fun K hK => ?_) AllReadyH.nil
  refine wp_append_rd16 _ _ 27 rfl (V := I64) (fun _ => rfl) W.heap.size 3 (.int .i64 0) 8 Tryz.underlying27 infoInt rfl (.slice (some ⟨Y19.heap.size,0,none⟩) 0 0) [] rfl nY21 _ a rfl (hl0.out Y21 bY22).1 (by simp;omega) (by simp;omega) bY22.size ?_
  intro v24 w23 nw23 gw23 h4
  rw [List.nil_append] at nw23
  have bY25 : Below W.heap.size W w23 := bY22.grown gw23 bY22.size (fun k hk => (nY21.lt k hk).1)
  have mw23 := mY21.grown gw23 (.inr (by simp only [Value.ownBlock];intro h;injection h with h;omega))
  have pw23 := h4
  have qw23 := nw23.lt
  obtain ⟨v24a,v24c,v24e⟩ := nw23.shape
  have fw23 := nw23.fr
  clear h4
  refine hK.out _ _ (by have := bY25;exact Rng.cons (r1.keep bY25) (Rng.nil _)) (fun hHeld => ?_)
  clear hK K
  try simp only [Act.put,zsA,zsB,zsC]
  refine wpAnyH_ready (rs := [7]) (by kernel_rfl) (by simp) ?_
  refine AllReadyH.cons (o := _) rfl (fun K hK => ?_) AllReadyH.nil
  refine wp_append_rd16 _ _ 27 rfl (V := I64) (fun _ => rfl) W.heap.size 3 (.int .i64 0) 8 Tryz.underlying27 infoInt rfl (.slice (some ⟨W.heap.size,0,none⟩) 0 0) [] rfl mw23 _ b rfl (hl0.out w23 bY25).2 (by simp;omega) (by simp;omega) bY25.size ?_
  intro v27 w26 nw26 gw26 h4
  rw [List.nil_append] at nw26
  have bY28 : Below W.heap.size W w26 := bY25.grown gw26 bY25.size (fun k hk => (mw23.lt k hk).1)
  have mw26 := nw23.grown gw26 (.inr (fun h => by rcases pw23 with h8 | h8 <;> (have h9 := h8.symm.trans h;simp only [Value.ownBlock] at h9;injection h9 with h9;omega)))
  obtain ⟨v27a,v27c,v27e⟩ := nw26.shape
  have fw26 := nw26.fr
  clear h4
  refine hK.out _ _ (by have := bY28;exact Rng.cons (r1.keep bY28) (Rng.nil _)) (fun hHeld => ?_)
  clear hK K
  try simp only [Act.put,zsA,zsB,zsC]
  skip
  subst v24e
  subst v27e
  refine' wpAnyH_take (i := 8) (oi := _) (v := .agg #[.slice v24a a.length v24c,.slice v27a b.length v27c]) rfl (by kernel_rfl) (by kernel_rfl) (by kernel_rfl) (fun _ _ _ h => h) (Or.inl ⟨by rfl,fun X _ => by go_simp⟩) hHeld ?_
  try simp only [Act.put,zsA,zsB,zsC]
  have s2 := r2.keep bY28
  have x0 := LineAt.main s2
  have x2 := Row.frozen s2 0
  have x1 := LineAt.bonus s2
  have x3 := Row.frozen s2 1
  have rL : LineAt ((w26.setCell ⟨w.heap.size + 2,0,none⟩ (.slice v24a a.length v24c)).setCell ⟨w.heap.size + 2,1,none⟩ (.slice v27a b.length v27c)) (w.heap.size + 2) (.slice v24a a.length v24c) (.slice v27a b.length v27c) := LineAt.store s2 _ _
  have B9 := Bel.st (Bel.st (Bel.to bW bY28) (p := ⟨w.heap.size + 2,0,none⟩) (by simp) (.slice v24a a.length v24c)) (p := ⟨w.heap.size + 2,1,none⟩) (by simp) (.slice v27a b.length v27c)
  have c1' : (w26.setCell ⟨w.heap.size + 2,0,none⟩ (.slice v24a a.length v24c)).cell? ⟨w.heap.size + 2,1,none⟩ = some (.slice none 0 0) := by go_simp
  have n1 : ∀ x,I64 x ≠ Value.slice none 0 0 := fun x h => by cases h
  have hl9 : LineR ((w26.setCell ⟨w.heap.size + 2,0,none⟩ (.slice v24a a.length v24c)).setCell ⟨w.heap.size + 2,1,none⟩ (.slice v27a b.length v27c)) (.slice v24a a.length v24c) (.slice v27a b.length v27c) a b := ⟨(mw26.rd.setNe x0 n1 _).setNe c1' n1 _,(nw26.rd.setNe x0 n1 _).setNe c1' n1 _⟩
  have fu := hide (fw23.mono bW.size)
  have fv := hide (fw26.mono bW.size)
  have rLh := hide rL
  clear rL
  refine wpAnyH_ready (rs := [9]) (by kernel_rfl) (by simp) ?_
  refine AllReadyH.cons (o := _) rfl (fun K hK => ?_) AllReadyH.nil
  go_simp
  refine hK.out _ _ (Rng.cons (Row.far (Row.far (r1.keep bY28) (p := ⟨w.heap.size + 2,0,none⟩) (by simp) _) (p := ⟨w.heap.size + 2,1,none⟩) (by simp) _) (Rng.nil _)) (fun hHeld => ?_)
  clear hK K
  try simp only [Act.put,zsA,zsB,zsC]
  refine wpAnyH_done (by kernel_rfl) ?_ _
  go_simp
  have y0 := rLh.out.main
  have y1 := rLh.out.bonus
  go_wp2
  exact bodyPost_ret (v := .agg #[.slice v24a a.length v24c,.slice v27a b.length v27c]) (by simp [results,Tryz.results48,go_sem,y0,y1]) rfl ⟨_,_,rfl,hl9,fu.out,fv.out,B9⟩
theorem rform_any (g : GameD) (av tv mv bv : Value) (ms : List AddonM) (l : LineD) (w : World) (hg : GameR w av tv ms g) (h : LineR w mv bv l.1 l.2) (ha : l.1.length ≤ 1000) (hb : l.2.length ≤ 1000) :
  Calls Tryz.prog 48 #[gameVal g av tv,lineVal mv bv] w (LineF (formG g l).1 (formG g l).2 w) := by
 unfold formG
 by_cases hk : g.kind = 2
 ·rw [if_pos hk];exact rform_digits g av tv mv bv ms l.1 l.2 w hg h ha hb hk
 ·rw [if_neg hk];exact rform_choose g av tv mv bv ms l.1 l.2 w hg h ha hb hk
def rputX (g : GameD) (R : List EntD) (d : EntD) : List EntD := if addX g R d = 0 then insE (formE g d) R else R
def RAddO (g : GameD) (av tv : Value) (C : Nat → Prop) (yb : Nat) (es : List DoM) (d : EntD) (w : World) (e : Ending) (w' : World) : Prop :=
 e = .returned (.int .i64 (addX g (es.map (·.d)) d)) ∧ ∃ C' es',RefR w' C' yb g av tv es' ∧ es'.map (·.d) = rputX g (es.map (·.d)) d ∧ (∀ k,C' k → C k ∨ w.heap.size ≤ k) ∧ Chg (fun k => k = yb) w w'
section
variable {α : Type} {sz : Nat} {V : α → List Value} {w : World} {l : List α}
theorem RdS.dropS {ao : Option Addr} {cap k : Nat} (h : RdS sz V w (.slice ao l.length cap) l) (hk : k ≤ l.length) : RdS sz V w (sliced ao k l.length cap sz) (l.drop k) := by
 obtain ⟨ao',cap',e,h1,h2,h3⟩ := h
 injection e with e1 _ e3
 subst e1 e3
 have hl : (l.drop k).length = l.length - k := List.length_drop
 unfold sliced
 refine ⟨_,cap - k,by rw [hl],by omega,by omega,fun hp => ?_⟩
 obtain ⟨b,off,rfl,hb,hc⟩ := h3 (by omega)
 refine ⟨b,off + k * sz,?_,hb,fun i x hx j u hu => ?_⟩
 ·rw [if_neg (by omega)]
  simp only [Option.map_some,Addr.add]
  split
  ·next h0 => rw [h0];rfl
  ·rfl
 ·rw [List.getElem?_drop] at hx
  have := hc (k + i) x hx j u hu
  rw [show off + k * sz + i * sz + j = off + (k + i) * sz + j by rw [Nat.add_mul];omega]
  exact this
theorem wpList_slice_fromS {P : Program} {ops : Array Oper} {rest : List Oper} {o : Oper} {a : Act} {Q : Exit → Act → World → Prop}
  (hg : o.guard = none) (x lo : Operand) (t : TypeId) (hop : o.op = .slice t x (some lo) none none) (ht : P.underlying t = some (.slice (P.elem t))) (hs : ∀ w,(sizeOf (P.elem t)).run P w = .ok sz w)
  (ao : Option Addr) (n cap : Nat) (l : List α) (hx : a.eval x = .slice ao n cap) (hn : n = l.length) (hr : RdS sz V w (.slice ao n cap) l) (kl : IntKind) (k : Nat) (hk : a.eval lo = .int kl k) (hkl : k ≤ l.length)
  (h : ∀ v',RdS sz V w v' (l.drop k) → wpList P ops Q rest (a.put o.dst v') w) : wpList P ops Q (o :: rest) a w := by
 refine wpList_plain hg fun K hK => ?_
 subst hn
 have hrun := run_slice_l (P := P) (w := w) t ao l.length cap ht kl k (by omega) (by omega)
 have hrun' := (run_sliceAt_slice (P := P) (w := w) t (.slice ao l.length cap) (some (.int kl k)) none none ht).trans hrun
 have := hr.dropS hkl
 unfold Oper.wp
 simp [execOp,hop,hx,hk,hrun',hs,Result.andThen]
 exact hK _ _ (h _ this)
theorem wpList_slice_toS {P : Program} {ops : Array Oper} {rest : List Oper} {o : Oper} {a : Act} {Q : Exit → Act → World → Prop}
  (hg : o.guard = none) (x hi : Operand) (t : TypeId) (hop : o.op = .slice t x none (some hi) none) (ht : P.underlying t = some (.slice (P.elem t))) (hs : ∀ w,(sizeOf (P.elem t)).run P w = .ok sz w)
  (ao : Option Addr) (n cap : Nat) (l : List α) (hx : a.eval x = .slice ao n cap) (hn : n = l.length) (hr : RdS sz V w (.slice ao n cap) l) (kl : IntKind) (k : Nat) (hk : a.eval hi = .int kl k) (hkl : k ≤ l.length)
  (h : ∀ v',RdS sz V w v' (l.take k) → wpList P ops Q rest (a.put o.dst v') w) : wpList P ops Q (o :: rest) a w := by
 refine wpList_plain hg fun K hK => ?_
 subst hn
 obtain ⟨ao',cap',e,h1,h2,-⟩ := id hr
 injection e with _ _ e3
 subst e3
 have hrun := run_slice_h (P := P) (w := w) t ao l.length cap ht kl k (by omega) (by omega)
 have hrun' := (run_sliceAt_slice (P := P) (w := w) t (.slice ao l.length cap) none (some (.int kl k)) none ht).trans hrun
 have hv : RdS sz V w (sliced ao 0 k cap sz) (l.take k) := by
  have e : sliced ao 0 k cap sz = .slice ao k cap := by
   unfold sliced
   have : (ao.map fun x => x.add (0 * sz)) = ao := by cases ao <;> simp [Addr.add]
   split
   ·simp
   ·rw [this];simp
  rw [e]
  exact RdS.take hr rfl hkl (by omega) h2
 unfold Oper.wp
 simp [execOp,hop,hx,hk,hrun',hs,Result.andThen]
 exact hK _ _ (h _ hv)
end
theorem doZ4 : (Value.agg #[.int .i64 0,.int .i64 0,.slice none 0 0,.slice none 0 0]).cells.size = 4 := rfl
theorem four_pos4 : 0 < 4 := by decide
theorem infoEnt : (Tryz.prog.info? 109).map (fun i => (i.zero,i.size,i.bytes)) = some (some (.agg #[.int .i64 0,.int .i64 0,.slice none 0 0,.slice none 0 0]),4,64) := by kernel_rfl
theorem do_one4 (m : DoM) (h : m.mv.oneCell' = true ∧ m.bv.oneCell' = true) : ∀ v ∈ m.cells,v.oneCell' = true := fun v hv => by
 simp [DoM.cells] at hv
 rcases hv with rfl | rfl | rfl | rfl
 ·rfl
 ·rfl
 ·exact h.1
 ·exact h.2
set_option maxHeartbeats 2000000 in
set_option maxRecDepth 100000 in
theorem radd_range (yb : Nat) (t l : Int) (mv bv : Value) (w : World) (h : t < 0 ∨ l < 0) : Calls Tryz.prog 15 #[.pointer (some ⟨yb,0,none⟩),.int .i64 t,.int .i64 l,lineVal mv bv] w (fun e w' => e = .returned (.int .i64 2) ∧ Below w.heap.size w w') := by
 unfold lineVal
 by_cases ht : t < 0
 ·go_enter Tryz.func15,Tryz.ntmps15
  go_wp2
  go_ret
  exact ⟨rfl,Bel.al (Below.refl _ _) _⟩
 ·have hl : l < 0 := by omega
  go_enter Tryz.func15,Tryz.ntmps15
  go_wp2
  go_ret
  exact ⟨rfl,Bel.al (Below.refl _ _) _⟩
set_option maxHeartbeats 8000000 in
set_option maxRecDepth 100000 in
theorem radd_line (yb : Nat) (C : Nat → Prop) (g : GameD) (av tv : Value) (ms : List AddonM) (es : List DoM) (d : EntD) (mv bv : Value) (w : World) (hR : RefR w C yb g av tv es) (rg : GameR w av tv ms g) (hl : LineR w mv bv d.l.1 d.l.2) (t0 : 0 ≤ d.ticket) (l0 : 0 ≤ d.line) (hc : lineE g d.l.1 d.l.2 ≠ 0) :
  Calls Tryz.prog 15 #[.pointer (some ⟨yb,0,none⟩),.int .i64 d.ticket,.int .i64 d.line,lineVal mv bv] w (fun e w' => e = .returned (.int .i64 (lineE g d.l.1 d.l.2)) ∧ Below w.heap.size w w') := by
 obtain ⟨ea,n,ec,hrow,hnC,hClt,hC⟩ := id hR
 have hyb := hrow.lt
 have hga := hide (fun X (hX : Below w.heap.size w X) => show X.rangeAt yb 0 (gameCells g av tv) from fun j u hu => by
  rw [Nat.zero_add,(Row.keep hrow hX).cell? j,List.getElem?_append_left (List.getElem?_eq_some_iff.1 hu).1]
  exact hu)
 obtain ⟨c,hcc⟩ : ∃ c,c = lineE g d.l.1 d.l.2 := ⟨_,rfl⟩
 have cC := hide (fun X (hX : Below w.heap.size w X) => rlcheck_any g av tv mv bv ms d.l.1 d.l.2 X (rg.below hX) (hl.below hX))
 rw [← hcc] at cC
 have hlh := hide hl
 have rgh := hide rg
 obtain ⟨ma,mn,mc,rfl⟩ := hl.1.shape
 obtain ⟨ba,bn,bc,rfl⟩ := hl.2.shape
 unfold lineVal IntB at cC
 unfold gameVal at cC
 rw [← hcc] at hc ⊢
 have hcb : (c != 0) = true := by simpa using hc
 have n1 : ¬ d.ticket < 0 := by omega
 have n2 : ¬ d.line < 0 := by omega
 clear hcc hl hc hrow hnC hClt hC hlh rgh rg hR t0 l0
 unfold lineVal
 go_enter Tryz.func15,Tryz.ntmps15
 go_upto_region 5 with (fail)
 obtain ⟨W,hW⟩ : ∃ W,W = w.alloc (Obj.cells #[.slice ma mn mc,.slice ba bn bc] 41) := ⟨_,rfl⟩
 have bW : Below w.heap.size w W := by rw [hW];exact Bel.al (Below.refl _ _) _
 have rl : Row W w.heap.size 41 [.slice ma mn mc,.slice ba bn bc] := by rw [hW];exact Row.new _ _ _
 rw [← hW]
 clear hW
 have bD : Below w.heap.size w W.drew := Below.drew bW
 refine wp_region_held_drew (S := fun X => X.rangeAt yb 0 (gameCells g av tv) ∧ X.rangeAt w.heap.size 0 [.slice ma mn mc,.slice ba bn bc]) (by kernel_rfl) ⟨hga.out _ bD,fun j u hu => by rw [Nat.zero_add];exact ((rl.drew).cell? j).trans hu⟩ (fun hHeld => ?_)
 refine' wpAnyH_take (i := 0) (oi := _) (v := .pointer (some ⟨yb,0,none⟩)) rfl (by kernel_rfl) (by kernel_rfl) (by kernel_rfl) (fun _ _ _ h => h) (Or.inl ⟨by first | (go_simp;done) | rfl,fun X hX => by go_simp⟩) hHeld ?_
 try simp only [Act.put,zsA,zsB,zsC]
 refine' wpAnyH_take (i := 1) (oi := _) (v := .pointer (some ⟨yb,0,none⟩)) rfl (by kernel_rfl) (by kernel_rfl) (by kernel_rfl) (fun _ _ _ h => h) (Or.inl ⟨by first | (go_simp;done) | rfl,fun X hX => by go_simp⟩) hHeld ?_
 try simp only [Act.put,zsA,zsB,zsC]
 refine' wpAnyH_take (i := 2) (oi := _) (v := .pointer (some ⟨yb,0,none⟩)) rfl (by kernel_rfl) (by kernel_rfl) (by kernel_rfl) (fun _ _ _ h => h) (Or.inl ⟨by first | (go_simp;done) | rfl,fun X hX => by go_simp⟩) hHeld ?_
 try simp only [Act.put,zsA,zsB,zsC]
 refine' wpAnyH_take (i := 3) (oi := _) (v := .agg (gameCells g av tv).toArray) rfl (by kernel_rfl) (by kernel_rfl) (by kernel_rfl) (fun _ _ _ h => h) (by refine (yieldsIf_load_mid ?_ 25 (.tmp 22) rfl (yb) 0 ?_ (gameCells g av tv) _ (fun X h => h.1) Tryz.underlying25 rfl (by kernel_rfl)) <;> go_simp) hHeld ?_
 try simp only [Act.put,zsA,zsB,zsC]
 refine' wpAnyH_take (i := 4) (oi := _) (v := .agg #[.slice ma mn mc,.slice ba bn bc]) rfl (by kernel_rfl) (by kernel_rfl) (by kernel_rfl) (fun _ _ _ h => h) (by refine (yieldsIf_load_mid ?_ 41 (.tmp 7) rfl (w.heap.size) 0 ?_ [.slice ma mn mc,.slice ba bn bc] _ (fun X h => h.2) Tryz.underlying41 rfl (by kernel_rfl)) <;> go_simp) hHeld ?_
 try simp only [Act.put,zsA,zsB,zsC]
 refine wpAnyH_ready (rs := [5]) (by kernel_rfl) (by simp) ?_
 refine AllReadyH.cons (o := _) rfl (fun K hK => ?_) AllReadyH.nil
 go_simp
 refine (cC.out W.drew bD).mono ?_
 rintro e w1 ⟨rfl,hb1⟩
 go_wp2_with fail
 refine hK.out _ _ ⟨fun j u hu => Bel.cellOf hb1 (hHeld.1 j u hu),fun j u hu => Bel.cellOf hb1 (hHeld.2 j u hu)⟩ (fun hHeld => ?_)
 clear hK K
 try simp only [Act.put,zsA,zsB,zsC]
 have b1 : Below w.heap.size w w1 := Bel.to bD hb1
 have rl1 := Row.keep rl.drew hb1
 clear hb1 bW bD rl
 refine' wpAnyH_take (i := 6) (oi := _) (v := .int .i64 c) rfl (by kernel_rfl) (by kernel_rfl) (by kernel_rfl) (fun _ _ _ h => h) (Or.inl ⟨by first | (go_simp;done) | rfl,fun X hX => by go_simp⟩) hHeld ?_
 try simp only [Act.put,zsA,zsB,zsC]
 refine wpAnyH_done (by kernel_rfl) ?_ _
 go_simp
 clear hHeld
 go_wp2
 go_ret
 exact ⟨rfl,b1⟩
theorem radd_fin {g : GameD} {av tv : Value} {C : Nat → Prop} {yb n ec bse : Nat} {ea : Option Addr} {es : List DoM} {d : EntD} {w w10 w11 Y4 w12 w15 : World} {v10 v12 v15 u v : Value} {a b : List Int} {P : Nat}
  (hrow : Row w yb 98 (gameCells g av tv ++ [.slice ea n ec])) (hnC : ¬ C yb) (hClt : ∀ k,C k → k < w.heap.size)
  (hC : ∀ Y,Chg (fun k => ¬ C k) w Y → RdS 4 DoM.cells Y (.slice ea n ec) es ∧ ∀ m ∈ es,LineR Y m.mv m.bv m.d.l.1 m.d.l.2)
  (b10 : Below w.heap.size w w10) (b11 : Below w10.heap.size w10 w11) (hlf : LineR w11 u v a b) (ff1 : Fr w10.heap.size u a) (ff2 : Fr w10.heap.size v b) (b4 : Below w11.heap.size w11 Y4)
  (hg12 : Y4.grownBy w12 v10.ownBlock) (hv10 : ∀ k,v10.ownBlock = some k → bse ≤ k ∧ k < w10.heap.size) (hl12 : v12.ownBlock = v10.ownBlock ∨ v12.ownBlock = some Y4.heap.size) (hg15 : w12.grownBy w15 v12.ownBlock)
  (ho15 : OwnS 4 DoM.cells (fun _ _ => True) w15 bse 109 v15 (es.take P ++ [⟨⟨d.ticket,d.line,(a,b)⟩,u,v⟩] ++ es.drop P)) (hbse : w.heap.size ≤ bse) (hv : ∃ x y z,v15 = Value.slice x y z) :
  ∃ C' es',RefR (w15.setCell ⟨yb,22,none⟩ v15) C' yb g av tv es' ∧ es'.map (·.d) = (es.map (·.d)).take P ++ [⟨d.ticket,d.line,(a,b)⟩] ++ (es.map (·.d)).drop P ∧ (∀ k,C' k → C k ∨ w.heap.size ≤ k) ∧ Chg (fun k => k = yb) w (w15.setCell ⟨yb,22,none⟩ v15) := by
 obtain ⟨e15,m15,f15,rfl⟩ := hv
 have hyb := hrow.lt
 have s10 := b10.size
 have s11 := b11.size
 have s4 := b4.size
 have s12 := hg12.size
 have s15 := hg15.size
 have z12 : Below w.heap.size w w12 := (((b10.trans (b11.mono s10)).trans (b4.mono (by omega))).grown hg12 (by omega) (fun j hj => by have := (hv10 j hj).1;omega))
 have hv12 : ∀ k,v12.ownBlock = some k → w.heap.size ≤ k ∧ (k < w10.heap.size ∨ w11.heap.size ≤ k) := fun k hk => by
  rcases hl12 with h | h
  ·rw [h] at hk
   have := hv10 k hk
   exact ⟨by omega,.inl this.2⟩
  ·rw [h] at hk
   injection hk with hk
   exact ⟨by omega,.inr (by omega)⟩
 have z15 : Below w.heap.size w w15 := z12.grown hg15 (by omega) fun j hj => (hv12 j hj).1
 have hzF : Chg (fun k => k = yb) w (w15.setCell ⟨yb,22,none⟩ (.slice e15 m15 f15)) := (Chg.ofBelow z15).then (q := fun k => k = yb) (Chg.set (p := fun k => k = yb) rfl _ _) fun _ _ h => h
 have sF : (w15.setCell ⟨yb,22,none⟩ (.slice e15 m15 f15)).heap.size = w15.heap.size := by simp [World.setCell]
 have r15 : Row w15 yb 98 (gameCells g av tv ++ [.slice ea n ec]) := hrow.keep z15
 have rF := r15.set 22 (.slice e15 m15 f15)
 have eF : (gameCells g av tv ++ [Value.slice ea n ec]).set 22 (.slice e15 m15 f15) = gameCells g av tv ++ [.slice e15 m15 f15] := rfl
 rw [eF] at rF
 refine ⟨fun k => C k ∨ w.heap.size ≤ k ∧ k < w15.heap.size,es.take P ++ [⟨⟨d.ticket,d.line,(a,b)⟩,u,v⟩] ++ es.drop P,⟨e15,m15,f15,rF,?_,?_,?_⟩,?_,?_,hzF⟩
 ·rintro (h | h)
  ·exact hnC h
  ·omega
 ·rintro k (h | h)
  ·have := hClt k h
   rw [sF]
   omega
  ·rw [sF];exact h.2
 ·intro Y hY
  have hwY : Chg (fun k => ¬ C k) w Y := (hzF.mono fun k _ hk => by rw [hk];exact hnC).then (q := fun k => ¬ (C k ∨ w.heap.size ≤ k ∧ k < w15.heap.size)) hY fun k _ hk h => hk (.inl h)
  have ho : OwnS 4 DoM.cells (fun _ _ => True) Y bse 109 (.slice e15 m15 f15) (es.take P ++ [⟨⟨d.ticket,d.line,(a,b)⟩,u,v⟩] ++ es.drop P) := by
   refine ⟨ownsRow_block ho15.1 fun k hk => ?_,fun _ _ _ _ => trivial⟩
   have h1 := ho15.lt k hk
   have h2 : k < (w15.setCell ⟨yb,22,none⟩ (.slice e15 m15 f15)).heap.size := by rw [sF];exact h1.2
   rw [hY.block k h2 fun h => h (.inr ⟨by omega,h1.2⟩)]
   exact Below.heap_setCell _ _ _ _ (by simp only;omega)
  refine ⟨ho.rd do_len,fun m hm => ?_⟩
  rcases List.mem_append.1 hm with hm | hm
  ·rcases List.mem_append.1 hm with hm | hm
   ·exact (hC Y hwY).2 m (List.mem_of_mem_take hm)
   ·obtain rfl := List.mem_singleton.1 hm
    have hcol : Hold (fun k => if w10.heap.size ≤ k then 5 else 0) 5 w11 fun X => LineR X u v a b := (Rd.hold (n := w10.heap.size) hlf.1 ff1 fun k hk _ => if_pos hk).and (Rd.hold (n := w10.heap.size) hlf.2 ff2 fun k hk _ => if_pos hk)
    refine hcol Y ?_
    have q1 : Chg (fun k => (if w10.heap.size ≤ k then 5 else 0) ≠ 5) w11 w12 := (Chg.ofBelow b4).then (q := fun k => v10.ownBlock = some k) (Chg.ofGb hg12 fun k hk => hk) fun k hk h => by rw [if_neg (by have := (hv10 k h).2;omega)];decide
    have q2 : Chg (fun k => (if w10.heap.size ≤ k then 5 else 0) ≠ 5) w11 w15 := q1.then (q := fun k => v12.ownBlock = some k) (Chg.ofGb hg15 fun k hk => hk) fun k hk h => by
     rcases (hv12 k h).2 with h2 | h2
     ·rw [if_neg (by omega)];decide
     ·omega
    have q3 : Chg (fun k => (if w10.heap.size ≤ k then 5 else 0) ≠ 5) w11 (w15.setCell ⟨yb,22,none⟩ (.slice e15 m15 f15)) := q2.then (q := fun k => k = yb) (Chg.set (p := fun k => k = yb) rfl _ _) fun k hk h => by rw [if_neg (by omega)];decide
    exact q3.then (q := fun k => ¬ (C k ∨ w.heap.size ≤ k ∧ k < w15.heap.size)) hY fun k hk h => by
     rw [if_neg]
     ·decide
     ·intro hk2
      exact h (.inr ⟨by omega,by omega⟩)
  ·exact (hC Y hwY).2 m (List.mem_of_mem_drop hm)
 ·rw [List.map_append,List.map_append,List.map_take,List.map_drop]
  rfl
 ·rintro k (h | h)
  ·exact .inl h
  ·exact .inr h.1
theorem radd_post {g : GameD} {av tv : Value} {C : Nat → Prop} {yb : Nat} {es : List DoM} {d : EntD} {w w' : World} {P : Nat} (hz : ¬ (d.ticket < 0 ∨ d.line < 0)) (hc : lineE g d.l.1 d.l.2 = 0) (hk : keyD d ∉ (es.map (·.d)).map keyD) (hP : P = posE d (es.map (·.d)))
  (h : ∃ C' es',RefR w' C' yb g av tv es' ∧ es'.map (·.d) = (es.map (·.d)).take P ++ [⟨d.ticket,d.line,formG g d.l⟩] ++ (es.map (·.d)).drop P ∧ (∀ k,C' k → C k ∨ w.heap.size ≤ k) ∧ Chg (fun k => k = yb) w w') : RAddO g av tv C yb es d w (.returned (.int .i64 0)) w' := by
 have h0 : addX g (es.map (·.d)) d = 0 := by unfold addX;rw [if_neg hz,if_neg (by rw [hc];simp),if_neg hk]
 obtain ⟨C',es',h1,h2,h3,h4⟩ := h
 refine ⟨by rw [h0],C',es',h1,?_,h3,h4⟩
 rw [h2,rputX,if_pos h0,insE_pos]
 have hpe : ∀ l : List EntD,posE (formE g d) l = posE d l := fun l => by
  induction l with
  | nil => rfl
  | cons x r ih => rw [posE,posE,ih];rfl
 rw [hpe,← hP,List.append_assoc]
 rfl
theorem radd_exists {g : GameD} {av tv : Value} {C : Nat → Prop} {yb : Nat} {es : List DoM} {d : EntD} {w w' : World} (hz : ¬ (d.ticket < 0 ∨ d.line < 0)) (hc : lineE g d.l.1 d.l.2 = 0) (hk : keyD d ∈ (es.map (·.d)).map keyD)
  (h : RefR w C yb g av tv es) (hb : Below w.heap.size w w') : RAddO g av tv C yb es d w (.returned (.int .i64 6)) w' := by
 have h0 : addX g (es.map (·.d)) d = 6 := by unfold addX;rw [if_neg hz,if_neg (by rw [hc];simp),if_pos hk]
 exact ⟨by rw [h0],C,es,h.below hb,by rw [rputX,if_neg (by rw [h0];decide)],fun k hk => .inl hk,Chg.ofBelow hb⟩
theorem line_small2 {g : GameD} {a b : List Int} (h : lineE g a b = 0) : a.length ≤ 10 ∧ b.length ≤ 4 := by
 obtain ⟨h1,h2,h3,h4,h5,h6,h7⟩ := lineE_ok.1 h
 obtain ⟨f1,f2,f3,f4,f5,f6,f7,f8,f9,f10,f11⟩ := mat_facts (game_mat h1)
 exact ⟨by omega,by omega⟩
set_option maxHeartbeats 16000000 in
set_option maxRecDepth 100000 in
theorem radd_ok (yb : Nat) (C : Nat → Prop) (g : GameD) (av tv : Value) (ms : List AddonM) (es : List DoM) (d : EntD) (mv bv : Value) (w : World) (hR : RefR w C yb g av tv es) (rg : GameR w av tv ms g) (hl : LineR w mv bv d.l.1 d.l.2) (t0 : 0 ≤ d.ticket) (l0 : 0 ≤ d.line) (hc : lineE g d.l.1 d.l.2 = 0) (hsort : (es.map (·.d)).Pairwise fun a b => ltK (keyD a) (keyD b)) (hsize : es.length ≤ 900) :
  Calls Tryz.prog 15 #[.pointer (some ⟨yb,0,none⟩),.int .i64 d.ticket,.int .i64 d.line,lineVal mv bv] w (RAddO g av tv C yb es d w) := by
 have hsm := line_small2 hc
 have cF := hide (fun X (hX : Below w.heap.size w X) => rform_any g av tv mv bv ms d.l X (rg.below hX) (hl.below hX) (by omega) (by omega))
 obtain ⟨ea,n,ec,hrow,hnC,hClt,hC⟩ := id hR
 have hyb := hrow.lt
 have hga := hide (fun X (hX : Below w.heap.size w X) => show X.rangeAt yb 0 (gameCells g av tv) from fun j u hu => by
  rw [Nat.zero_add,(Row.keep hrow hX).cell? j,List.getElem?_append_left (List.getElem?_eq_some_iff.1 hu).1]
  exact hu)
 obtain ⟨c,hcc⟩ : ∃ c,c = lineE g d.l.1 d.l.2 := ⟨_,rfl⟩
 have cC := hide (fun X (hX : Below w.heap.size w X) => rlcheck_any g av tv mv bv ms d.l.1 d.l.2 X (rg.below hX) (hl.below hX))
 rw [← hcc] at cC
 have hlh := hide hl
 have rgh := hide rg
 obtain ⟨ma,mn,mc,rfl⟩ := hl.1.shape
 obtain ⟨ba,bn,bc,rfl⟩ := hl.2.shape
 unfold lineVal IntB at cC
 unfold gameVal at cC
 unfold lineVal gameVal at cF
 have hnl : Hid (n = es.length) := by
  obtain ⟨a,c,h,-⟩ := (hC w (Chg.refl _ _)).1.shape
  injection h
 have hsz : Hid (es.length ≤ 900) := hsize
 have hcc2 := hide hc
 rw [← hcc] at hc
 have n1 : ¬ d.ticket < 0 := by omega
 have n2 : ¬ d.line < 0 := by omega
 have hzz := hide (show ¬ (d.ticket < 0 ∨ d.line < 0) from by omega)
 obtain ⟨P,hP0⟩ : ∃ P,P = posE d (es.map (·.d)) := ⟨_,rfl⟩
 have hP := hide hP0
 have hPl : Hid (P ≤ es.length) := by show P ≤ _;rw [hP0];have := posE_le d (es.map (·.d));rwa [List.length_map] at this
 have hybl := hide hyb
 have hR0 := hide hR
 have hone : Hid (∀ x ∈ es,∀ u ∈ x.cells,u.oneCell' = true) := fun x hx => by
  have h9 := (hC w (Chg.refl _ _)).2 x hx
  obtain ⟨_,_,_,q1⟩ := h9.1.shape
  obtain ⟨_,_,_,q2⟩ := h9.2.shape
  exact do_one4 x ⟨by rw [q1];rfl,by rw [q2];rfl⟩
 have hnCh := hide hnC
 have hClh := hide hClt
 have hCh := hide hC
 have hso := hide hsort
 replace hrow := hide hrow
 subst hc
 clear hcc hl hnC hClt hC hP0 t0 l0 hsort hsize hR rg hsm
 unfold lineVal
 go_enter Tryz.func15,Tryz.ntmps15
 go_upto_region 5 with (fail)
 obtain ⟨W,hW⟩ : ∃ W,W = w.alloc (Obj.cells #[.slice ma mn mc,.slice ba bn bc] 41) := ⟨_,rfl⟩
 have bW : Below w.heap.size w W := by rw [hW];exact Bel.al (Below.refl _ _) _
 have rl : Row W w.heap.size 41 [.slice ma mn mc,.slice ba bn bc] := by rw [hW];exact Row.new _ _ _
 rw [← hW]
 clear hW
 have bD : Below w.heap.size w W.drew := Below.drew bW
 refine wp_region_held_drew (S := fun X => X.rangeAt yb 0 (gameCells g av tv) ∧ X.rangeAt w.heap.size 0 [.slice ma mn mc,.slice ba bn bc]) (by kernel_rfl) ⟨hga.out _ bD,fun j u hu => by rw [Nat.zero_add];exact ((rl.drew).cell? j).trans hu⟩ (fun hHeld => ?_)
 refine' wpAnyH_take (i := 0) (oi := _) (v := .pointer (some ⟨yb,0,none⟩)) rfl (by kernel_rfl) (by kernel_rfl) (by kernel_rfl) (fun _ _ _ h => h) (Or.inl ⟨by first | (go_simp;done) | rfl,fun X hX => by go_simp⟩) hHeld ?_
 try simp only [Act.put,zsA,zsB,zsC]
 refine' wpAnyH_take (i := 1) (oi := _) (v := .pointer (some ⟨yb,0,none⟩)) rfl (by kernel_rfl) (by kernel_rfl) (by kernel_rfl) (fun _ _ _ h => h) (Or.inl ⟨by first | (go_simp;done) | rfl,fun X hX => by go_simp⟩) hHeld ?_
 try simp only [Act.put,zsA,zsB,zsC]
 refine' wpAnyH_take (i := 2) (oi := _) (v := .pointer (some ⟨yb,0,none⟩)) rfl (by kernel_rfl) (by kernel_rfl) (by kernel_rfl) (fun _ _ _ h => h) (Or.inl ⟨by first | (go_simp;done) | rfl,fun X hX => by go_simp⟩) hHeld ?_
 try simp only [Act.put,zsA,zsB,zsC]
 refine' wpAnyH_take (i := 3) (oi := _) (v := .agg (gameCells g av tv).toArray) rfl (by kernel_rfl) (by kernel_rfl) (by kernel_rfl) (fun _ _ _ h => h) (by refine (yieldsIf_load_mid ?_ 25 (.tmp 22) rfl (yb) 0 ?_ (gameCells g av tv) _ (fun X h => h.1) Tryz.underlying25 rfl (by kernel_rfl)) <;> go_simp) hHeld ?_
 try simp only [Act.put,zsA,zsB,zsC]
 refine' wpAnyH_take (i := 4) (oi := _) (v := .agg #[.slice ma mn mc,.slice ba bn bc]) rfl (by kernel_rfl) (by kernel_rfl) (by kernel_rfl) (fun _ _ _ h => h) (by refine (yieldsIf_load_mid ?_ 41 (.tmp 7) rfl (w.heap.size) 0 ?_ [.slice ma mn mc,.slice ba bn bc] _ (fun X h => h.2) Tryz.underlying41 rfl (by kernel_rfl)) <;> go_simp) hHeld ?_
 try simp only [Act.put,zsA,zsB,zsC]
 refine wpAnyH_ready (rs := [5]) (by kernel_rfl) (by simp) ?_
 refine AllReadyH.cons (o := _) rfl (fun K hK => ?_) AllReadyH.nil
 go_simp
 refine (cC.out W.drew bD).mono ?_
 rintro e w1 ⟨rfl,hb1⟩
 go_wp2_with fail
 refine hK.out _ _ ⟨fun j u hu => Bel.cellOf hb1 (hHeld.1 j u hu),fun j u hu => Bel.cellOf hb1 (hHeld.2 j u hu)⟩ (fun hHeld => ?_)
 clear hK K
 try simp only [Act.put,zsA,zsB,zsC]
 have b1 : Below w.heap.size w w1 := Bel.to bD hb1
 have rl1 := Row.keep rl.drew hb1
 clear hb1 bW bD rl
 refine' wpAnyH_take (i := 6) (oi := _) (v := .int .i64 0) rfl (by kernel_rfl) (by kernel_rfl) (by kernel_rfl) (fun _ _ _ h => h) (Or.inl ⟨by first | (go_simp;done) | rfl,fun X hX => by go_simp⟩) hHeld ?_
 try simp only [Act.put,zsA,zsB,zsC]
 refine wpAnyH_done (by kernel_rfl) ?_ _
 go_simp
 clear hHeld
 go_wp2
 go_loopg [10] n (fun gh t10 wr => ∃ (i : Nat),gh = n - i ∧ i ≤ P ∧ t10 = .int .i64 (i : Int) ∧ Hid (Below w.heap.size w wr) ∧ Hid (Row wr w.heap.size 41 [.slice ma mn mc,.slice ba bn bc]))
 case atStart => exact ⟨0,rfl,Nat.zero_le _,rfl,b1,rl1⟩
 case round =>
  clear rl1
  obtain ⟨i,hgh,hiP,rfl,hbr,hrl⟩ := hrel
  replace hgh := hide hgh
  have hrwh := hide (Row.keep hrow.out hbr.out)
  have c22 : wr.cell? ⟨yb,22,none⟩ = some (.slice ea n ec) := (hrwh.out.cell? 22).trans rfl
  by_cases hin : i < n
  ·have hin2 := hide hin
   have hil : i < es.length := by rw [← hnl.out];exact hin
   have hrd := (hCh.out wr (Chg.ofBelow hbr.out))
   obtain ⟨b,off,hea,hbb,hcell⟩ := hrd.1.at_ hil
   subst hea
   obtain ⟨m,hm⟩ : ∃ m,m = es[i] := ⟨_,rfl⟩
   have hmi : es[i]? = some m := by rw [hm];exact List.getElem?_eq_getElem hil
   have hmR : (es.map (·.d))[i]? = some m.d := by rw [List.getElem?_map,hmi];rfl
   have hml := hrd.2 m (by rw [hm];exact List.getElem_mem _)
   have hstep := posE_step d (es.map (·.d)) i (by rw [← hP.out];exact hiP)
   rw [← hP.out] at hstep
   have hlt : ltK (keyD m.d) (keyD d) ↔ i < P := by
    rw [← hstep]
    have hg : ∀ hk : i < (es.map (·.d)).length,(es.map (·.d))[i] = m.d := fun hk => by
     rw [List.getElem?_eq_getElem hk] at hmR
     injection hmR
    exact ⟨fun h => ⟨by rw [List.length_map];exact hil,by rw [hg];exact h⟩,fun ⟨hk,h⟩ => by rw [hg] at h;exact h⟩
   have cB := before_any m.d.ticket m.d.line m.mv m.bv d.ticket d.line wr hml.1.shape hml.2.shape
   obtain ⟨q,hq⟩ : ∃ q,q = decide (ltK (m.d.ticket,m.d.line) (d.ticket,d.line)) := ⟨_,rfl⟩
   rw [← hq] at cB
   have hqi : q = true ↔ i < P := by rw [hq,decide_eq_true_eq];exact hlt
   have hrange : wr.rangeAt b (off + i * 4) [.int .i64 m.d.ticket,.int .i64 m.d.line,m.mv,m.bv] := fun j u hu => hcell i m hmi j u hu
   have e0 : wr.cell? ⟨b,off + i * 4,none⟩ = some (.int .i64 m.d.ticket) := hcell i m hmi 0 _ rfl
   have e1 : wr.cell? ⟨b,off + i * 4 + 1,none⟩ = some (.int .i64 m.d.line) := hcell i m hmi 1 _ rfl
   have i1 : (0 : Int) ≤ (i : Int) := by omega
   have i2 : (i : Int) < (n : Int) := by omega
   have i3 : (n : Int) ≤ 1000 := by have := hnl.out;have := hsz.out;omega
   obtain ⟨a1,a2,a3,hmv⟩ := hml.1.shape
   obtain ⟨b1',b2',b3',hbv⟩ := hml.2.shape
   rw [hmv,hbv] at cB hrange
   replace cB := hide cB
   replace hqi := hide hqi
   replace hlt := hide hlt
   replace hmR := hide hmR
   have e0h := hide e0
   have e1h := hide e1
   clear hcell hstep hq hml hrd hmi hm
   cases q
   ·have hPi2 : P = i := by
     have := hqi.out.2
     rcases Nat.lt_or_ge i P with h | h
     ·exact absurd (this h) (by simp)
     ·omega
    clear hqi hlt
    by_cases hsame : keyD m.d = keyD d
    ·have hkey : keyD d ∈ (es.map (·.d)).map keyD := List.mem_map.2 ⟨m.d,List.mem_iff_getElem?.2 ⟨i,hmR.out⟩,hsame⟩
     have hpost := hide (fun (w' : World) h => radd_exists (C := C) (av := av) (tv := tv) (yb := yb) (w := w) (w' := w') hzz.out hcc2.out hkey hR0.out h)
     have ht : m.d.ticket = d.ticket := congrArg Prod.fst hsame
     have hk : m.d.line = d.line := congrArg Prod.snd hsame
     clear hkey hsame hmR
     rw [ht,hk] at cB hrange
     rw [ht] at e0
     rw [hk] at e1
     clear ht hk
     go_wp2_with (first | (refine wpList_load_mid_if2 (by first | (go_simp;done) | rfl) 109 _ rfl b (off + i * 4) rfl [.int .i64 d.ticket,.int .i64 d.line,.slice a1 a2 a3,.slice b1' b2' b3'] _ hrange Tryz.underlying109 rfl (by kernel_rfl) ?_) | fail)
     refine cB.out.mono ?_
     rintro e w3 ⟨rfl,hb3⟩
     have hbr3 := hide (Bel.to hbr.out hb3)
     have e0 := Bel.cellOf hb3 e0
     have e1 := Bel.cellOf hb3 e1
     have c22 := Bel.cellOf hb3 c22
     clear hb3 cB hrange
     go_wp2
     go_ret
     exact hpost.out _ hbr3.out
    ·have hkey : keyD d ∉ (es.map (·.d)).map keyD := fun h => by
      obtain ⟨h1,h2⟩ := (pos_exists hso.out).1 h
      have h3 : (es.map (·.d))[posE d (es.map (·.d))]? = some m.d := by rw [← hP.out,hPi2];exact hmR.out
      rw [List.getElem?_eq_getElem h1] at h3
      injection h3 with h3
      rw [h3] at h2
      exact hsame h2
     have hpost := hide (fun (w' : World) h => radd_post (C := C) (av := av) (tv := tv) (yb := yb) (w := w) (w' := w') hzz.out hcc2.out hkey hP.out h)
     have hcase : (m.d.ticket == d.ticket && m.d.line == d.line) = false := by
      rw [Bool.and_eq_false_iff,beq_eq_false_iff_ne,beq_eq_false_iff_ne]
      by_cases ht : m.d.ticket = d.ticket
      ·exact .inr fun hk => hsame (Prod.ext ht hk)
      ·exact .inl ht
     obtain ⟨q1,hq1⟩ : ∃ q1,(m.d.ticket == d.ticket) = q1 := ⟨_,rfl⟩
     obtain ⟨q2,hq2⟩ : ∃ q2,(m.d.line == d.line) = q2 := ⟨_,rfl⟩
     rw [hq1,hq2] at hcase
     have hqa := hide hq1
     have hqb := hide hq2
     clear hkey hsame hmR hq1 hq2
     subst hPi2
     cases q1
     case' true => replace hcase : q2 = false := by simpa using hcase
     case' true => subst hcase
     all_goals
      go_wp2_with (first | (refine wpList_load_mid_if2 (by first | (go_simp;done) | rfl) 109 _ rfl b (off + P * 4) rfl [.int .i64 m.d.ticket,.int .i64 m.d.line,.slice a1 a2 a3,.slice b1' b2' b3'] _ hrange Tryz.underlying109 rfl (by kernel_rfl) ?_) | fail)
      refine cB.out.mono ?_
      rintro e w3 ⟨rfl,hb3⟩
      have hbr3 := hide (Bel.to hbr.out hb3)
      have hrl3 := hide (Row.keep hrl.out hb3)
      have e0 := Bel.cellOf hb3 e0
      have e1 := Bel.cellOf hb3 e1
      have hqa2 := hqa.out
      have hqb2 := hqb.out
      clear hb3 cB hrange c22
      have bw3 : Below w.heap.size w w3 := hbr3.out
      have hrw := Row.keep hrow.out bw3
      have c22 : w3.cell? ⟨yb,22,none⟩ = some (.slice (some ⟨b,off,none⟩) n ec) := (hrw.cell? 22).trans rfl
      have hrd := hide (fun X (hX : Below w.heap.size w X) => (hCh.out X (Chg.ofBelow hX)).1)
      have hrdr := hide (hrd.out w3 bw3)
      have hPi : (P : Int) ≤ 1000 := by have := hPl.out;have := hsz.out;omega
      have htl : Hid ((es.take P).length ≤ 1000) := by show _ ≤ _;rw [List.length_take];have := hsz.out;omega
      have hdl : Hid ((es.drop P).length ≤ 1000) := by show _ ≤ _;rw [List.length_drop];have := hsz.out;omega
      obtain ⟨bse,hbse0⟩ : ∃ bse,bse = w3.heap.size := ⟨_,rfl⟩
      have hbse := hide hbse0
      clear hbse0
      have hwb : Hid (w.heap.size < bse) := by show _ < _;rw [hbse.out];exact hrl3.out.lt
      have hybh : Hid (yb < w.heap.size) := hybl.out
      have c22a := fun o => cell_alloc c22 o
      clear hrw
      go_upto_region 11 with (fail)
      go_upto_region 13 with (fail)
      go_upto_region 14 with (first | (refine wpList_slice_toS (sz := 4) (V := DoM.cells) rfl _ _ 96 rfl (by kernel_rfl) (fun w => by kernel_rfl) (some ⟨b,off,none⟩) n ec es rfl hnl.out ?_ .i64 P rfl hPl.out ?_) | fail)
      case refine_1 => exact RdS.below hrdr.out (Bel.al (Below.refl _ _) _)
      intro vs1 hvs1
      go_upto_region 14 with (first | (refine wpList_appendS _ rfl _ _ 96 rfl (sz := 4) (V := DoM.cells) (R := fun _ _ => True) do_len bse 109 (.agg #[.int .i64 0,.int .i64 0,.slice none 0 0,.slice none 0 0]) 64 Tryz.underlying96 infoEnt doZ4 four_pos4 _ [] rfl ?_ _ (es.take P) rfl ?_ (fun _ _ _ _ => trivial) ?_ ?_ ?_ ?_ ?_) | fail)
      case refine_2.refine_1 => rw [hbse.out];exact ⟨World.ownsRow_made w3 #[] 0 (Nat.le_refl _) (by decide) rfl,fun x hx => by cases hx⟩
      case refine_2.refine_2 => exact hvs1
      case refine_2.refine_3 => exact fun x hx => hone.out x (List.mem_of_mem_take hx)
      case refine_2.refine_4 => have := htl.out;simp at this ⊢;omega
      case refine_2.refine_5 => have := htl.out;simp at this ⊢;omega
      case refine_2.refine_6 => rw [hbse.out];simp
      intro v10 w10 ho10 hg10 hl10
      try rw [List.nil_append] at ho10
      obtain ⟨e10,m10,f10,rfl⟩ : ∃ a b c,v10 = Value.slice a b c := by obtain ⟨a,c,h⟩ := ho10.shape;exact ⟨a,_,c,h⟩
      have B10 : Below w3.heap.size w3 w10 := (Bel.al (Below.refl _ _) _).grown hg10 (by simp) (fun g hg => by simp [Value.ownBlock] at hg;omega)
      have bw10 : Below w.heap.size w w10 := Bel.to bw3 B10
      have rl10 := Row.keep hrl3.out B10
      have hbs : Hid (bse ≤ w10.heap.size) := by show _ ≤ _;rw [hbse.out];exact B10.size
      have hq1 : Hid (w.heap.size ≠ bse ∧ w.heap.size < bse) := by have := hwb.out;exact ⟨by omega,this⟩
      clear hg10 hl10 B10 hvs1 hbse hrdr c22a c22 bw3 hbr3 hrl3 hwb
      go_upto_region 14 with (fail)
      refine wp_region_held_drew (S := fun X => X.rangeAt yb 0 (gameCells g av tv) ∧ X.rangeAt w.heap.size 0 [.slice ma mn mc,.slice ba bn bc]) (by kernel_rfl) ⟨hga.out _ (Below.drew bw10),fun j u hu => by rw [Nat.zero_add];exact ((rl10.drew).cell? j).trans hu⟩ (fun hHeld => ?_)
      refine' wpAnyH_take (i := 0) (oi := _) (v := .slice e10 m10 f10) rfl (by kernel_rfl) (by kernel_rfl) (by kernel_rfl) (fun _ _ _ h => h) (Or.inl ⟨by first | (go_simp;done) | rfl,fun X hX => by go_simp⟩) hHeld ?_
      try simp only [Act.put,zsA,zsB,zsC]
      refine' wpAnyH_take (i := 1) (oi := _) (v := .int .i64 d.ticket) rfl (by kernel_rfl) (by kernel_rfl) (by kernel_rfl) (fun _ _ _ h => h) (Or.inl ⟨by first | (go_simp;done) | rfl,fun X hX => by go_simp⟩) hHeld ?_
      try simp only [Act.put,zsA,zsB,zsC]
      refine' wpAnyH_take (i := 2) (oi := _) (v := .int .i64 d.line) rfl (by kernel_rfl) (by kernel_rfl) (by kernel_rfl) (fun _ _ _ h => h) (Or.inl ⟨by first | (go_simp;done) | rfl,fun X hX => by go_simp⟩) hHeld ?_
      try simp only [Act.put,zsA,zsB,zsC]
      refine' wpAnyH_take (i := 3) (oi := _) (v := .pointer (some ⟨yb,0,none⟩)) rfl (by kernel_rfl) (by kernel_rfl) (by kernel_rfl) (fun _ _ _ h => h) (Or.inl ⟨by first | (go_simp;done) | rfl,fun X hX => by go_simp⟩) hHeld ?_
      try simp only [Act.put,zsA,zsB,zsC]
      refine' wpAnyH_take (i := 4) (oi := _) (v := .pointer (some ⟨yb,0,none⟩)) rfl (by kernel_rfl) (by kernel_rfl) (by kernel_rfl) (fun _ _ _ h => h) (Or.inl ⟨by first | (go_simp;done) | rfl,fun X hX => by go_simp⟩) hHeld ?_
      try simp only [Act.put,zsA,zsB,zsC]
      refine' wpAnyH_take (i := 5) (oi := _) (v := .pointer (some ⟨yb,0,none⟩)) rfl (by kernel_rfl) (by kernel_rfl) (by kernel_rfl) (fun _ _ _ h => h) (Or.inl ⟨by first | (go_simp;done) | rfl,fun X hX => by go_simp⟩) hHeld ?_
      try simp only [Act.put,zsA,zsB,zsC]
      refine' wpAnyH_take (i := 6) (oi := _) (v := .agg (gameCells g av tv).toArray) rfl (by kernel_rfl) (by kernel_rfl) (by kernel_rfl) (fun _ _ _ h => h) (by refine (yieldsIf_load_mid ?_ 25 (.tmp 94) rfl (yb) 0 ?_ (gameCells g av tv) _ (fun X h => h.1) Tryz.underlying25 rfl (by kernel_rfl)) <;> go_simp) hHeld ?_
      try simp only [Act.put,zsA,zsB,zsC]
      refine' wpAnyH_take (i := 7) (oi := _) (v := .agg #[.slice ma mn mc,.slice ba bn bc]) rfl (by kernel_rfl) (by kernel_rfl) (by kernel_rfl) (fun _ _ _ h => h) (by refine (yieldsIf_load_mid ?_ 41 (.tmp 7) rfl (w.heap.size) 0 ?_ [.slice ma mn mc,.slice ba bn bc] _ (fun X h => h.2) Tryz.underlying41 rfl (by kernel_rfl)) <;> go_simp) hHeld ?_
      try simp only [Act.put,zsA,zsB,zsC]
      refine wpAnyH_ready (rs := [8]) (by kernel_rfl) (by simp) ?_
      refine AllReadyH.cons (o := _) rfl (fun K hK => ?_) AllReadyH.nil
      go_simp
      refine (cF.out w10.drew (Below.drew bw10)).mono ?_
      rintro e w11 ⟨fu,fv,rfl,hlf,ff1,ff2,hb11⟩
      obtain ⟨u1,u2,u3,rfl⟩ := hlf.1.shape
      obtain ⟨v1,v2,v3,rfl⟩ := hlf.2.shape
      unfold lineVal
      go_wp2_with fail
      refine hK.out _ _ ⟨fun j u hu => Bel.cellOf hb11 (hHeld.1 j u hu),fun j u hu => Bel.cellOf hb11 (hHeld.2 j u hu)⟩ (fun hHeld => ?_)
      clear hK K
      try simp only [Act.put,zsA,zsB,zsC]
      refine' wpAnyH_take (i := 9) (oi := _) (v := .agg #[.int .i64 d.ticket,.int .i64 d.line,.slice u1 u2 u3,.slice v1 v2 v3]) rfl (by kernel_rfl) (by kernel_rfl) (by kernel_rfl) (fun _ _ _ h => h) (Or.inl ⟨by first | (go_simp;done) | rfl,fun X hX => by go_simp⟩) hHeld ?_
      try simp only [Act.put,zsA,zsB,zsC]
      refine wpAnyH_ready (rs := [10]) (by kernel_rfl) (by simp) ?_
      refine AllReadyH.cons (o := _) rfl (fun K hK => ?_) AllReadyH.nil
      go_simp
      refine hK.out _ _ ⟨fun j u hu => cell_alloc (hHeld.1 j u hu) _,fun j u hu => cell_alloc (hHeld.2 j u hu) _⟩ (fun hHeld => ?_)
      clear hK K
      try simp only [Act.put,zsA,zsB,zsC]
      obtain ⟨Y4,hY4⟩ : ∃ Y4,Y4 = w11.alloc (Obj.cells #[.int .i64 d.ticket,.int .i64 d.line,.slice u1 u2 u3,.slice v1 v2 v3] 109) := ⟨_,rfl⟩
      have bY4 : Below w11.heap.size w11 Y4 := by rw [hY4];exact Bel.al (Below.refl _ _) _
      have rn4 : Row Y4 w11.heap.size 109 [.int .i64 d.ticket,.int .i64 d.line,.slice u1 u2 u3,.slice v1 v2 v3] := by rw [hY4];exact Row.new w11 _ _
      rw [← hY4] at hHeld ⊢
      clear hY4
      have bw11 : Below w10.heap.size w10 w11 := Bel.to (Below.drew (Below.refl _ _)) hb11
      refine wpAnyH_ready (rs := [11]) (by kernel_rfl) (by simp) ?_
      refine AllReadyH.cons (o := _) rfl (fun K hK => ?_) AllReadyH.nil
      rw [if_pos (by first | rfl | (go_simp;done))]
      refine wp_appendS _ _ _ 96 rfl (sz := 4) (V := DoM.cells) (R := fun _ _ => True) do_len bse 109 (.agg #[.int .i64 0,.int .i64 0,.slice none 0 0,.slice none 0 0]) 64 Tryz.underlying96 infoEnt doZ4 four_pos4 (.slice e10 m10 f10) (es.take P) rfl (OwnS.keep (OwnS.keep ho10 bw11) bY4) (.slice (some ⟨w11.heap.size,0,none⟩) 1 1) [⟨⟨d.ticket,d.line,formG g d.l⟩,.slice u1 u2 u3,.slice v1 v2 v3⟩] rfl (rdS_one _ (V := DoM.cells) (x := (⟨⟨d.ticket,d.line,formG g d.l⟩,.slice u1 u2 u3,.slice v1 v2 v3⟩ : DoM)) rn4 (Nat.le_refl _) (by decide)) (fun _ _ _ _ => trivial) (fun x hx u hu => by rcases List.mem_singleton.1 hx with rfl;exact do_one4 _ ⟨rfl,rfl⟩ u hu) (by have := htl.out;simp;omega) (by have := htl.out;simp;omega) (by have := hbs.out;have := bw11.size;have := bY4.size;omega) ?_
      intro v12 w12 ho12 hg12 hl12
      obtain ⟨e12,m12,f12,rfl⟩ : ∃ a b c,v12 = Value.slice a b c := by obtain ⟨a,c,h⟩ := ho12.shape;exact ⟨a,_,c,h⟩
      have nB : ∀ j,j < bse → some j ≠ (Value.slice e10 m10 f10).ownBlock := fun j hj e => by have := (ho10.lt j e.symm).1;omega
      have sY4 : w10.heap.size ≤ Y4.heap.size := by have := bw11.size;have := bY4.size;omega
      have hq2 : yb < bse := by have := hybh.out;have := hq1.out;omega
      refine hK.out _ _ ⟨fun j u hu => (World.cell?_of_block (hg12.block yb (by have := hbs.out;omega) (nB _ hq2))).trans (hHeld.1 j u hu),fun j u hu => (World.cell?_of_block (hg12.block w.heap.size (by have := hbs.out;have := hq1.out.2;omega) (nB _ hq1.out.2))).trans (hHeld.2 j u hu)⟩ (fun hHeld => ?_)
      clear hK K
      try simp only [Act.put,zsA,zsB,zsC]
      refine' wpAnyH_take (i := 12) (oi := _) (v := .slice e12 m12 f12) rfl (by kernel_rfl) (by kernel_rfl) (by kernel_rfl) (fun _ _ _ h => h) (Or.inl ⟨by first | (go_simp;done) | rfl,fun X hX => by go_simp⟩) hHeld ?_
      try simp only [Act.put,zsA,zsB,zsC]
      refine wpAnyH_done (by kernel_rfl) ?_ _
      go_simp
      clear hq2
      have bw12 : Below w.heap.size w w12 := (((bw10.trans (bw11.mono bw10.size)).trans (bY4.mono (by have := bw10.size;have := bw11.size;omega))).grown hg12 (by have := bw10.size;have := bw11.size;have := bY4.size;omega) (fun j hj => by have := (ho10.lt j hj).1;have := hq1.out;omega))
      have hbs12 : Hid (bse ≤ w12.heap.size) := by show _ ≤ _;have := hbs.out;have := bw11.size;have := bY4.size;have := hg12.size;omega
      have hyb12 : Hid (yb < w12.heap.size) := by show _ < _;have := hybl.out;have := hbs12.out;have := hq1.out;omega
      have nyb12 : Hid (some yb ≠ (Value.slice e12 m12 f12).ownBlock) := fun e => by have := (ho12.lt yb e.symm).1;have := hq1.out;have := hybl.out;omega
      have c22 : w12.cell? ⟨yb,22,none⟩ = some (.slice (some ⟨b,off,none⟩) n ec) := ((Row.keep hrow.out bw12).cell? 22).trans rfl
      have f22 : w12.frozen? ⟨yb,22,none⟩ = false := (Row.keep hrow.out bw12).frozen 22
      have hrd12 := hide (hrd.out w12 bw12)
      have hfin := hide (fun (v15 : Value) (w15 : World) (hv : ∃ a b c,v15 = Value.slice a b c) (ho15 : OwnS 4 DoM.cells (fun _ _ => True) w15 bse 109 v15 (es.take P ++ [⟨⟨d.ticket,d.line,formG g d.l⟩,.slice u1 u2 u3,.slice v1 v2 v3⟩] ++ es.drop P)) (hg15 : w12.grownBy w15 (Value.slice e12 m12 f12).ownBlock) => radd_fin (g := g) (av := av) (tv := tv) hrow.out hnCh.out hClh.out hCh.out bw10 bw11 hlf ff1 ff2 bY4 hg12 ho10.lt hl12 hg15 ho15 (Nat.le_of_lt hq1.out.2) hv)
      have ho12h := hide ho12
      clear hHeld rn4 hl12 bY4 bw11 hg12 ho10 hlf ff1 ff2 bw10 rl10 bw12 nB sY4 ho12 cF
      go_upto_region 16 with (first | (refine wpList_slice_fromS (sz := 4) (V := DoM.cells) rfl _ _ 96 rfl (by kernel_rfl) (fun w => by kernel_rfl) (some ⟨b,off,none⟩) n ec es rfl hnl.out ?_ .i64 P rfl hPl.out ?_) | fail)
      case refine_1 => exact hrd12.out
      intro vs2 hvs2
      go_upto_region 16 with (first | (refine wpList_appendS _ rfl _ _ 96 rfl (sz := 4) (V := DoM.cells) (R := fun _ _ => True) do_len bse 109 (.agg #[.int .i64 0,.int .i64 0,.slice none 0 0,.slice none 0 0]) 64 Tryz.underlying96 infoEnt doZ4 four_pos4 (.slice e12 m12 f12) (es.take P ++ [⟨⟨d.ticket,d.line,formG g d.l⟩,.slice u1 u2 u3,.slice v1 v2 v3⟩]) rfl ho12h.out _ (es.drop P) rfl ?_ (fun _ _ _ _ => trivial) ?_ ?_ ?_ ?_ ?_) | fail)
      case refine_2.refine_1 => exact hvs2
      case refine_2.refine_2 => exact fun x hx => hone.out x (List.mem_of_mem_drop hx)
      case refine_2.refine_3 => have := htl.out;have := hdl.out;simp at *;omega
      case refine_2.refine_4 => have := htl.out;have := hdl.out;simp at *;omega
      case refine_2.refine_5 => have := (ho12h.out.lt);have := hbs12.out;exact this
      intro v15 w15 ho15 hg15 hl15
      have hfin2 := hide (hfin.out v15 w15 (by obtain ⟨a,c,h⟩ := ho15.shape;exact ⟨a,_,c,h⟩) (by rw [List.append_assoc];exact ho15) hg15)
      obtain ⟨e15,m15,f15,rfl⟩ : ∃ a b c,v15 = Value.slice a b c := by obtain ⟨a,c,h⟩ := ho15.shape;exact ⟨a,_,c,h⟩
      have c22 : w15.cell? ⟨yb,22,none⟩ = some (.slice (some ⟨b,off,none⟩) n ec) := (World.cell?_of_block (hg15.block yb hyb12.out nyb12.out)).trans c22
      have f22 : w15.frozen? ⟨yb,22,none⟩ = false := (World.frozen?_of_block (hg15.block yb hyb12.out nyb12.out)).trans f22
      clear hg15 hl15 ho15 hvs2 hrd12 hfin
      go_wp2
      go_ret
      exact hpost.out _ hfin2.out
   ·have hiP2 := hide (hqi.out.1 rfl)
    clear e0 e1
    go_wp2_with (first | (refine wpList_load_mid_if2 (by first | (go_simp;done) | rfl) 109 _ rfl b (off + i * 4) rfl [.int .i64 m.d.ticket,.int .i64 m.d.line,.slice a1 a2 a3,.slice b1' b2' b3'] _ hrange Tryz.underlying109 rfl (by kernel_rfl) ?_) | fail)
    refine cB.out.mono ?_
    rintro e w3 ⟨rfl,hb3⟩
    have hbr3 := hide (Bel.to hbr.out hb3)
    have hrl3 := hide (Row.keep hrl.out hb3)
    clear hb3 cB hrange c22
    go_wp2
    go_roundg (n - (i + 1))
    case measure => have := hgh.out;have := hin2.out;omega
    case rel => exact ⟨i + 1,rfl,by have := hiP2.out;omega,by (have := hin2.out;go_num),hbr3,hrl3⟩
  ·have hPi2 : P = i := by have := hPl.out;have := hnl.out;omega
   have hkey : keyD d ∉ (es.map (·.d)).map keyD := fun h => by
    obtain ⟨h1,h2⟩ := (pos_exists hso.out).1 h
    rw [List.length_map,← hP.out] at h1
    have := hnl.out
    omega
   have hpost := hide (fun (w' : World) h => radd_post (C := C) (av := av) (tv := tv) (yb := yb) (w := w) (w' := w') hzz.out hcc2.out hkey hP.out h)
   clear hkey
   subst hPi2
   have bwr : Below w.heap.size w wr := hbr.out
   have hrw := Row.keep hrow.out bwr
   have c22 : wr.cell? ⟨yb,22,none⟩ = some (.slice ea n ec) := (hrw.cell? 22).trans rfl
   have hrd := hide (fun X (hX : Below w.heap.size w X) => (hCh.out X (Chg.ofBelow hX)).1)
   have hrdr := hide (hrd.out wr bwr)
   have hPi : (P : Int) ≤ 1000 := by have := hPl.out;have := hsz.out;omega
   have htl : Hid ((es.take P).length ≤ 1000) := by show _ ≤ _;rw [List.length_take];have := hsz.out;omega
   have hdl : Hid ((es.drop P).length ≤ 1000) := by show _ ≤ _;rw [List.length_drop];have := hsz.out;omega
   obtain ⟨bse,hbse0⟩ : ∃ bse,bse = wr.heap.size := ⟨_,rfl⟩
   have hbse := hide hbse0
   clear hbse0
   have hwb : Hid (w.heap.size < bse) := by show _ < _;rw [hbse.out];exact hrl.out.lt
   have hybh : Hid (yb < w.heap.size) := hybl.out
   have c22a := fun o => cell_alloc c22 o
   clear hrw
   go_upto_region 11 with (fail)
   go_upto_region 13 with (fail)
   go_upto_region 14 with (first | (refine wpList_slice_toS (sz := 4) (V := DoM.cells) rfl _ _ 96 rfl (by kernel_rfl) (fun w => by kernel_rfl) ea n ec es rfl hnl.out ?_ .i64 P rfl hPl.out ?_) | fail)
   case refine_1 => exact RdS.below hrdr.out (Bel.al (Below.refl _ _) _)
   intro vs1 hvs1
   go_upto_region 14 with (first | (refine wpList_appendS _ rfl _ _ 96 rfl (sz := 4) (V := DoM.cells) (R := fun _ _ => True) do_len bse 109 (.agg #[.int .i64 0,.int .i64 0,.slice none 0 0,.slice none 0 0]) 64 Tryz.underlying96 infoEnt doZ4 four_pos4 _ [] rfl ?_ _ (es.take P) rfl ?_ (fun _ _ _ _ => trivial) ?_ ?_ ?_ ?_ ?_) | fail)
   case refine_2.refine_1 => rw [hbse.out];exact ⟨World.ownsRow_made wr #[] 0 (Nat.le_refl _) (by decide) rfl,fun x hx => by cases hx⟩
   case refine_2.refine_2 => exact hvs1
   case refine_2.refine_3 => exact fun x hx => hone.out x (List.mem_of_mem_take hx)
   case refine_2.refine_4 => have := htl.out;simp at this ⊢;omega
   case refine_2.refine_5 => have := htl.out;simp at this ⊢;omega
   case refine_2.refine_6 => rw [hbse.out];simp
   intro v10 w10 ho10 hg10 hl10
   try rw [List.nil_append] at ho10
   obtain ⟨e10,m10,f10,rfl⟩ : ∃ a b c,v10 = Value.slice a b c := by obtain ⟨a,c,h⟩ := ho10.shape;exact ⟨a,_,c,h⟩
   have B10 : Below wr.heap.size wr w10 := (Bel.al (Below.refl _ _) _).grown hg10 (by simp) (fun g hg => by simp [Value.ownBlock] at hg;omega)
   have bw10 : Below w.heap.size w w10 := Bel.to bwr B10
   have rl10 := Row.keep hrl.out B10
   have hbs : Hid (bse ≤ w10.heap.size) := by show _ ≤ _;rw [hbse.out];exact B10.size
   have hq1 : Hid (w.heap.size ≠ bse ∧ w.heap.size < bse) := by have := hwb.out;exact ⟨by omega,this⟩
   clear hg10 hl10 B10 hvs1 hbse hrdr c22a c22 bwr hbr hrl hwb
   go_upto_region 14 with (fail)
   refine wp_region_held_drew (S := fun X => X.rangeAt yb 0 (gameCells g av tv) ∧ X.rangeAt w.heap.size 0 [.slice ma mn mc,.slice ba bn bc]) (by kernel_rfl) ⟨hga.out _ (Below.drew bw10),fun j u hu => by rw [Nat.zero_add];exact ((rl10.drew).cell? j).trans hu⟩ (fun hHeld => ?_)
   refine' wpAnyH_take (i := 0) (oi := _) (v := .slice e10 m10 f10) rfl (by kernel_rfl) (by kernel_rfl) (by kernel_rfl) (fun _ _ _ h => h) (Or.inl ⟨by first | (go_simp;done) | rfl,fun X hX => by go_simp⟩) hHeld ?_
   try simp only [Act.put,zsA,zsB,zsC]
   refine' wpAnyH_take (i := 1) (oi := _) (v := .int .i64 d.ticket) rfl (by kernel_rfl) (by kernel_rfl) (by kernel_rfl) (fun _ _ _ h => h) (Or.inl ⟨by first | (go_simp;done) | rfl,fun X hX => by go_simp⟩) hHeld ?_
   try simp only [Act.put,zsA,zsB,zsC]
   refine' wpAnyH_take (i := 2) (oi := _) (v := .int .i64 d.line) rfl (by kernel_rfl) (by kernel_rfl) (by kernel_rfl) (fun _ _ _ h => h) (Or.inl ⟨by first | (go_simp;done) | rfl,fun X hX => by go_simp⟩) hHeld ?_
   try simp only [Act.put,zsA,zsB,zsC]
   refine' wpAnyH_take (i := 3) (oi := _) (v := .pointer (some ⟨yb,0,none⟩)) rfl (by kernel_rfl) (by kernel_rfl) (by kernel_rfl) (fun _ _ _ h => h) (Or.inl ⟨by first | (go_simp;done) | rfl,fun X hX => by go_simp⟩) hHeld ?_
   try simp only [Act.put,zsA,zsB,zsC]
   refine' wpAnyH_take (i := 4) (oi := _) (v := .pointer (some ⟨yb,0,none⟩)) rfl (by kernel_rfl) (by kernel_rfl) (by kernel_rfl) (fun _ _ _ h => h) (Or.inl ⟨by first | (go_simp;done) | rfl,fun X hX => by go_simp⟩) hHeld ?_
   try simp only [Act.put,zsA,zsB,zsC]
   refine' wpAnyH_take (i := 5) (oi := _) (v := .pointer (some ⟨yb,0,none⟩)) rfl (by kernel_rfl) (by kernel_rfl) (by kernel_rfl) (fun _ _ _ h => h) (Or.inl ⟨by first | (go_simp;done) | rfl,fun X hX => by go_simp⟩) hHeld ?_
   try simp only [Act.put,zsA,zsB,zsC]
   refine' wpAnyH_take (i := 6) (oi := _) (v := .agg (gameCells g av tv).toArray) rfl (by kernel_rfl) (by kernel_rfl) (by kernel_rfl) (fun _ _ _ h => h) (by refine (yieldsIf_load_mid ?_ 25 (.tmp 94) rfl (yb) 0 ?_ (gameCells g av tv) _ (fun X h => h.1) Tryz.underlying25 rfl (by kernel_rfl)) <;> go_simp) hHeld ?_
   try simp only [Act.put,zsA,zsB,zsC]
   refine' wpAnyH_take (i := 7) (oi := _) (v := .agg #[.slice ma mn mc,.slice ba bn bc]) rfl (by kernel_rfl) (by kernel_rfl) (by kernel_rfl) (fun _ _ _ h => h) (by refine (yieldsIf_load_mid ?_ 41 (.tmp 7) rfl (w.heap.size) 0 ?_ [.slice ma mn mc,.slice ba bn bc] _ (fun X h => h.2) Tryz.underlying41 rfl (by kernel_rfl)) <;> go_simp) hHeld ?_
   try simp only [Act.put,zsA,zsB,zsC]
   refine wpAnyH_ready (rs := [8]) (by kernel_rfl) (by simp) ?_
   refine AllReadyH.cons (o := _) rfl (fun K hK => ?_) AllReadyH.nil
   go_simp
   refine (cF.out w10.drew (Below.drew bw10)).mono ?_
   rintro e w11 ⟨fu,fv,rfl,hlf,ff1,ff2,hb11⟩
   obtain ⟨u1,u2,u3,rfl⟩ := hlf.1.shape
   obtain ⟨v1,v2,v3,rfl⟩ := hlf.2.shape
   unfold lineVal
   go_wp2_with fail
   refine hK.out _ _ ⟨fun j u hu => Bel.cellOf hb11 (hHeld.1 j u hu),fun j u hu => Bel.cellOf hb11 (hHeld.2 j u hu)⟩ (fun hHeld => ?_)
   clear hK K
   try simp only [Act.put,zsA,zsB,zsC]
   refine' wpAnyH_take (i := 9) (oi := _) (v := .agg #[.int .i64 d.ticket,.int .i64 d.line,.slice u1 u2 u3,.slice v1 v2 v3]) rfl (by kernel_rfl) (by kernel_rfl) (by kernel_rfl) (fun _ _ _ h => h) (Or.inl ⟨by first | (go_simp;done) | rfl,fun X hX => by go_simp⟩) hHeld ?_
   try simp only [Act.put,zsA,zsB,zsC]
   refine wpAnyH_ready (rs := [10]) (by kernel_rfl) (by simp) ?_
   refine AllReadyH.cons (o := _) rfl (fun K hK => ?_) AllReadyH.nil
   go_simp
   refine hK.out _ _ ⟨fun j u hu => cell_alloc (hHeld.1 j u hu) _,fun j u hu => cell_alloc (hHeld.2 j u hu) _⟩ (fun hHeld => ?_)
   clear hK K
   try simp only [Act.put,zsA,zsB,zsC]
   obtain ⟨Y4,hY4⟩ : ∃ Y4,Y4 = w11.alloc (Obj.cells #[.int .i64 d.ticket,.int .i64 d.line,.slice u1 u2 u3,.slice v1 v2 v3] 109) := ⟨_,rfl⟩
   have bY4 : Below w11.heap.size w11 Y4 := by rw [hY4];exact Bel.al (Below.refl _ _) _
   have rn4 : Row Y4 w11.heap.size 109 [.int .i64 d.ticket,.int .i64 d.line,.slice u1 u2 u3,.slice v1 v2 v3] := by rw [hY4];exact Row.new w11 _ _
   rw [← hY4] at hHeld ⊢
   clear hY4
   have bw11 : Below w10.heap.size w10 w11 := Bel.to (Below.drew (Below.refl _ _)) hb11
   refine wpAnyH_ready (rs := [11]) (by kernel_rfl) (by simp) ?_
   refine AllReadyH.cons (o := _) rfl (fun K hK => ?_) AllReadyH.nil
   rw [if_pos (by first | rfl | (go_simp;done))]
   refine wp_appendS _ _ _ 96 rfl (sz := 4) (V := DoM.cells) (R := fun _ _ => True) do_len bse 109 (.agg #[.int .i64 0,.int .i64 0,.slice none 0 0,.slice none 0 0]) 64 Tryz.underlying96 infoEnt doZ4 four_pos4 (.slice e10 m10 f10) (es.take P) rfl (OwnS.keep (OwnS.keep ho10 bw11) bY4) (.slice (some ⟨w11.heap.size,0,none⟩) 1 1) [⟨⟨d.ticket,d.line,formG g d.l⟩,.slice u1 u2 u3,.slice v1 v2 v3⟩] rfl (rdS_one _ (V := DoM.cells) (x := (⟨⟨d.ticket,d.line,formG g d.l⟩,.slice u1 u2 u3,.slice v1 v2 v3⟩ : DoM)) rn4 (Nat.le_refl _) (by decide)) (fun _ _ _ _ => trivial) (fun x hx u hu => by rcases List.mem_singleton.1 hx with rfl;exact do_one4 _ ⟨rfl,rfl⟩ u hu) (by have := htl.out;simp;omega) (by have := htl.out;simp;omega) (by have := hbs.out;have := bw11.size;have := bY4.size;omega) ?_
   intro v12 w12 ho12 hg12 hl12
   obtain ⟨e12,m12,f12,rfl⟩ : ∃ a b c,v12 = Value.slice a b c := by obtain ⟨a,c,h⟩ := ho12.shape;exact ⟨a,_,c,h⟩
   have nB : ∀ j,j < bse → some j ≠ (Value.slice e10 m10 f10).ownBlock := fun j hj e => by have := (ho10.lt j e.symm).1;omega
   have sY4 : w10.heap.size ≤ Y4.heap.size := by have := bw11.size;have := bY4.size;omega
   have hq2 : yb < bse := by have := hybh.out;have := hq1.out;omega
   refine hK.out _ _ ⟨fun j u hu => (World.cell?_of_block (hg12.block yb (by have := hbs.out;omega) (nB _ hq2))).trans (hHeld.1 j u hu),fun j u hu => (World.cell?_of_block (hg12.block w.heap.size (by have := hbs.out;have := hq1.out.2;omega) (nB _ hq1.out.2))).trans (hHeld.2 j u hu)⟩ (fun hHeld => ?_)
   clear hK K
   try simp only [Act.put,zsA,zsB,zsC]
   refine' wpAnyH_take (i := 12) (oi := _) (v := .slice e12 m12 f12) rfl (by kernel_rfl) (by kernel_rfl) (by kernel_rfl) (fun _ _ _ h => h) (Or.inl ⟨by first | (go_simp;done) | rfl,fun X hX => by go_simp⟩) hHeld ?_
   try simp only [Act.put,zsA,zsB,zsC]
   refine wpAnyH_done (by kernel_rfl) ?_ _
   go_simp
   clear hq2
   have bw12 : Below w.heap.size w w12 := (((bw10.trans (bw11.mono bw10.size)).trans (bY4.mono (by have := bw10.size;have := bw11.size;omega))).grown hg12 (by have := bw10.size;have := bw11.size;have := bY4.size;omega) (fun j hj => by have := (ho10.lt j hj).1;have := hq1.out;omega))
   have hbs12 : Hid (bse ≤ w12.heap.size) := by show _ ≤ _;have := hbs.out;have := bw11.size;have := bY4.size;have := hg12.size;omega
   have hyb12 : Hid (yb < w12.heap.size) := by show _ < _;have := hybl.out;have := hbs12.out;have := hq1.out;omega
   have nyb12 : Hid (some yb ≠ (Value.slice e12 m12 f12).ownBlock) := fun e => by have := (ho12.lt yb e.symm).1;have := hq1.out;have := hybl.out;omega
   have c22 : w12.cell? ⟨yb,22,none⟩ = some (.slice ea n ec) := ((Row.keep hrow.out bw12).cell? 22).trans rfl
   have f22 : w12.frozen? ⟨yb,22,none⟩ = false := (Row.keep hrow.out bw12).frozen 22
   have hrd12 := hide (hrd.out w12 bw12)
   have hfin := hide (fun (v15 : Value) (w15 : World) (hv : ∃ a b c,v15 = Value.slice a b c) (ho15 : OwnS 4 DoM.cells (fun _ _ => True) w15 bse 109 v15 (es.take P ++ [⟨⟨d.ticket,d.line,formG g d.l⟩,.slice u1 u2 u3,.slice v1 v2 v3⟩] ++ es.drop P)) (hg15 : w12.grownBy w15 (Value.slice e12 m12 f12).ownBlock) => radd_fin (g := g) (av := av) (tv := tv) hrow.out hnCh.out hClh.out hCh.out bw10 bw11 hlf ff1 ff2 bY4 hg12 ho10.lt hl12 hg15 ho15 (Nat.le_of_lt hq1.out.2) hv)
   have ho12h := hide ho12
   clear hHeld rn4 hl12 bY4 bw11 hg12 ho10 hlf ff1 ff2 bw10 rl10 bw12 nB sY4 ho12 cF
   go_upto_region 16 with (first | (refine wpList_slice_fromS (sz := 4) (V := DoM.cells) rfl _ _ 96 rfl (by kernel_rfl) (fun w => by kernel_rfl) ea n ec es rfl hnl.out ?_ .i64 P rfl hPl.out ?_) | fail)
   case refine_1 => exact hrd12.out
   intro vs2 hvs2
   go_upto_region 16 with (first | (refine wpList_appendS _ rfl _ _ 96 rfl (sz := 4) (V := DoM.cells) (R := fun _ _ => True) do_len bse 109 (.agg #[.int .i64 0,.int .i64 0,.slice none 0 0,.slice none 0 0]) 64 Tryz.underlying96 infoEnt doZ4 four_pos4 (.slice e12 m12 f12) (es.take P ++ [⟨⟨d.ticket,d.line,formG g d.l⟩,.slice u1 u2 u3,.slice v1 v2 v3⟩]) rfl ho12h.out _ (es.drop P) rfl ?_ (fun _ _ _ _ => trivial) ?_ ?_ ?_ ?_ ?_) | fail)
   case refine_2.refine_1 => exact hvs2
   case refine_2.refine_2 => exact fun x hx => hone.out x (List.mem_of_mem_drop hx)
   case refine_2.refine_3 => have := htl.out;have := hdl.out;simp at *;omega
   case refine_2.refine_4 => have := htl.out;have := hdl.out;simp at *;omega
   case refine_2.refine_5 => have := (ho12h.out.lt);have := hbs12.out;exact this
   intro v15 w15 ho15 hg15 hl15
   have hfin2 := hide (hfin.out v15 w15 (by obtain ⟨a,c,h⟩ := ho15.shape;exact ⟨a,_,c,h⟩) (by rw [List.append_assoc];exact ho15) hg15)
   obtain ⟨e15,m15,f15,rfl⟩ : ∃ a b c,v15 = Value.slice a b c := by obtain ⟨a,c,h⟩ := ho15.shape;exact ⟨a,_,c,h⟩
   have c22 : w15.cell? ⟨yb,22,none⟩ = some (.slice ea n ec) := (World.cell?_of_block (hg15.block yb hyb12.out nyb12.out)).trans c22
   have f22 : w15.frozen? ⟨yb,22,none⟩ = false := (World.frozen?_of_block (hg15.block yb hyb12.out nyb12.out)).trans f22
   clear hg15 hl15 ho15 hvs2 hrd12 hfin
   go_wp2
   go_ret
   exact hpost.out _ hfin2.out
theorem radd_any (yb : Nat) (C : Nat → Prop) (g : GameD) (av tv : Value) (ms : List AddonM) (es : List DoM) (d : EntD) (mv bv : Value) (w : World) (hR : RefR w C yb g av tv es) (rg : GameR w av tv ms g) (hl : LineR w mv bv d.l.1 d.l.2) (hsort : (es.map (·.d)).Pairwise fun a b => ltK (keyD a) (keyD b)) (hsize : es.length ≤ 900) :
  Calls Tryz.prog 15 #[.pointer (some ⟨yb,0,none⟩),.int .i64 d.ticket,.int .i64 d.line,lineVal mv bv] w (RAddO g av tv C yb es d w) := by
 have bad : ∀ c : Int,c ≠ 0 → addX g (es.map (·.d)) d = c → Calls Tryz.prog 15 #[.pointer (some ⟨yb,0,none⟩),.int .i64 d.ticket,.int .i64 d.line,lineVal mv bv] w (fun e w' => e = .returned (.int .i64 c) ∧ Below w.heap.size w w') →
   Calls Tryz.prog 15 #[.pointer (some ⟨yb,0,none⟩),.int .i64 d.ticket,.int .i64 d.line,lineVal mv bv] w (RAddO g av tv C yb es d w) := fun c hc h0 h =>
  h.mono fun e w' ⟨h1,hb⟩ => by
   subst h1
   exact ⟨by rw [h0],C,es,hR.below hb,by rw [rputX,if_neg (by rw [h0];exact hc)],fun k hk => .inl hk,Chg.ofBelow hb⟩
 by_cases hr : d.ticket < 0 ∨ d.line < 0
 ·exact bad 2 (by decide) (by unfold addX;rw [if_pos hr]) (radd_range yb d.ticket d.line mv bv w hr)
 ·by_cases hc : lineE g d.l.1 d.l.2 = 0
  ·exact radd_ok yb C g av tv ms es d mv bv w hR rg hl (by omega) (by omega) hc hsort hsize
  ·exact bad (lineE g d.l.1 d.l.2) hc (by unfold addX;rw [if_neg hr,if_pos hc]) (radd_line yb C g av tv ms es d mv bv w hR rg hl (by omega) (by omega) hc)
theorem add_refX (g : GameD) (es : List EntD) (d : EntD) : addX g (refX g es) d = addX g es d := by
 unfold addX
 simp only [refX_key]
theorem put_refX (g : GameD) (es : List EntD) (d : EntD) : rputX g (refX g es) d = refX g (putX g es d) := by
 unfold rputX putX
 rw [add_refX]
 by_cases h : addX g es d = 0
 ·rw [if_pos h,if_pos h,refX_snoc]
 ·rw [if_neg h,if_neg h]
theorem refX_len (g : GameD) (es : List EntD) : (refX g es).length = es.length := by
 unfold refX
 rw [List.length_map]
 exact (sortE_perm es).length_eq
theorem refX_ok {g : GameD} {es : List EntD} (h : ∀ e ∈ es,lineE g e.l.1 e.l.2 = 0) : ∀ e ∈ refX g es,lineE g e.l.1 e.l.2 = 0 := by
 intro e he
 unfold refX at he
 obtain ⟨x,hx,rfl⟩ := List.mem_map.1 he
 have h0 := h x ((sortE_perm es).mem_iff.1 hx)
 unfold formE formG
 simp only []
 split
 ·exact h0
 ·exact (lineE_perm (sortI_perm x.l.1) (sortI_perm x.l.2)).trans h0
set_option maxHeartbeats 8000000 in
set_option maxRecDepth 100000 in
theorem rwins33_bad (yb : Nat) (C : Nat → Prop) (g : GameD) (av tv : Value) (ms : List AddonM) (es : List DoM) (mv bv xv : Value) (r : ResD) (w : World) (hR : RefR w C yb g av tv es) (rg : GameR w av tv ms g) (hg0 : gameE g = 0) (hr : ResR w mv bv xv r) (hs : r.serial.size ≤ 9223372036854775807) (hres : resE g r ≠ 0) :
  Calls Tryz.prog 19 #[.pointer (some ⟨yb,0,none⟩),resVal mv bv xv r] w (WinsO [] (resE g r) w) := by
 obtain ⟨ea,n,ec,hrow,hnC,hClt,hC⟩ := id hR
 have hgr := hide (fun X (hX : Below w.heap.size w X) => show X.rangeAt yb 0 (gameCells g av tv) from fun j u hu => by
  rw [Nat.zero_add,(Row.keep hrow hX).cell? j,List.getElem?_append_left (List.getElem?_eq_some_iff.1 hu).1]
  exact hu)
 obtain ⟨U,hU⟩ : ∃ U,U = unrankG g 0 := ⟨_,rfl⟩
 have hUl : lineE g U.1 U.2 = 0 := by rw [hU];exact unrank_line hg0 (count_pos hg0)
 have hUP : unrankP g 0 = (U,0) := by
  unfold unrankP
  have := count_pos hg0
  rw [if_neg (by simpa using hg0),if_neg (by omega),hU]
  rfl
 have cU := hide (fun X (hX : Below w.heap.size w X) => runrank13_any g av tv ms 0 X (rg.below hX))
 rw [hUP] at cU
 have cT := hide (fun (u v : Value) X (hX : Below w.heap.size w X) (hl : LineR X u v U.1 U.2) => tier32_any g av tv u v mv bv xv ms U r X (rg.below hX) hl (hr.below hX) hs)
 have cT0 := cT
 have hcm : checkM g U r = resE g r := by unfold checkM;rw [if_neg (by simpa using hUl)]
 have htp : tierP g U r = if resE g r ≠ 0 then (0,resE g r) else (tierM g U r,0) := by unfold tierP;rw [hcm]
 rw [htp] at cT
 obtain ⟨ma,mn,mc,rfl⟩ := hr.1.shape
 obtain ⟨ba,bn,bc,rfl⟩ := hr.2.1.shape
 obtain ⟨xa,xn,xc,rfl⟩ := hr.2.2.shape
 unfold LineC at cU
 unfold resVal lineVal at cT
 unfold gameVal at cU cT
 have hybl := hrow.lt
 rw [if_pos hres] at cT
 obtain ⟨c,hcc⟩ : ∃ c,c = resE g r := ⟨_,rfl⟩
 rw [← hcc] at cT hres ⊢
 have hcb : (c != 0) = true := by simpa using hres
 clear hcc hres hU hUl hUP hcm htp hrow hnC hClt hC hR rg hg0 hr hs cT0
 unfold resVal
 go_enter Tryz.func19,Tryz.ntmps19
 go_upto_region 3 with (fail)
 obtain ⟨W,hW⟩ : ∃ W,W = w.alloc (Obj.cells #[.slice ma mn mc,.slice ba bn bc,.slice xa xn xc,.int .i64 r.factor,.string r.serial] 29) := ⟨_,rfl⟩
 have bW : Below w.heap.size w W := by rw [hW];exact Bel.al (Below.refl _ _) _
 have rb : Row W w.heap.size 29 [.slice ma mn mc,.slice ba bn bc,.slice xa xn xc,.int .i64 r.factor,.string r.serial] := by rw [hW];exact Row.new _ _ _
 rw [← hW]
 clear hW
 have hga := hide (hgr.out _ bW)
 go_upto_region 4 with (first | (refine wpList_load_mid rfl 25 _ rfl yb 0 rfl (gameCells g av tv) _ hga.out Tryz.underlying25 rfl (by kernel_rfl) ?_) | (go_at_call 56;(refine (cU.out _ bW).mono ?_);rintro e w2 ⟨uu,vv,rfl,hlr,hb2⟩;obtain ⟨u1,u2,u3,rfl⟩ := hlr.1.shape;obtain ⟨v1,v2,v3,rfl⟩ := hlr.2.shape;unfold lineVal) | fail)
 have b2 : Below w.heap.size w w2 := Bel.to bW hb2
 obtain ⟨W2,hW2⟩ : ∃ W2,W2 = w2.alloc (Obj.cells #[.slice u1 u2 u3,.slice v1 v2 v3] 41) := ⟨_,rfl⟩
 have bW2 : Below w2.heap.size w2 W2 := by rw [hW2];exact Bel.al (Below.refl _ _) _
 have rl : Row W2 w2.heap.size 41 [.slice u1 u2 u3,.slice v1 v2 v3] := by rw [hW2];exact Row.new _ _ _
 have rb2 : Row W2 w.heap.size 29 [.slice ma mn mc,.slice ba bn bc,.slice xa xn xc,.int .i64 r.factor,.string r.serial] := Row.keep (Row.keep rb hb2) bW2
 have bD : Below w.heap.size w W2.drew := Below.drew (Bel.to b2 bW2)
 replace hlr := LineR.below hlr bW2
 rw [← hW2]
 clear hW2 bW2 hb2 rb bW
 go_upto_region 6 with (fail)
 refine wp_region_held_drew (S := fun X => X.rangeAt yb 0 (gameCells g av tv) ∧ X.rangeAt w2.heap.size 0 [.slice u1 u2 u3,.slice v1 v2 v3] ∧ X.rangeAt w.heap.size 0 [.slice ma mn mc,.slice ba bn bc,.slice xa xn xc,.int .i64 r.factor,.string r.serial]) (by kernel_rfl) ⟨hgr.out _ bD,Rng.at0 (Rng.cons rl.drew (Rng.nil _)),Rng.at0 (Rng.cons rb2.drew (Rng.nil _))⟩ (fun hHeld => ?_)
 refine' wpAnyH_take (i := 0) (oi := _) (v := .pointer (some ⟨yb,0,none⟩)) rfl (by kernel_rfl) (by kernel_rfl) (by kernel_rfl) (fun _ _ _ h => h) (Or.inl ⟨by first | (go_simp;done) | rfl,fun X hX => by go_simp⟩) hHeld ?_
 try simp only [Act.put,zsA,zsB,zsC]
 refine' wpAnyH_take (i := 1) (oi := _) (v := .pointer (some ⟨yb,0,none⟩)) rfl (by kernel_rfl) (by kernel_rfl) (by kernel_rfl) (fun _ _ _ h => h) (Or.inl ⟨by first | (go_simp;done) | rfl,fun X hX => by go_simp⟩) hHeld ?_
 try simp only [Act.put,zsA,zsB,zsC]
 refine' wpAnyH_take (i := 2) (oi := _) (v := .pointer (some ⟨yb,0,none⟩)) rfl (by kernel_rfl) (by kernel_rfl) (by kernel_rfl) (fun _ _ _ h => h) (Or.inl ⟨by first | (go_simp;done) | rfl,fun X hX => by go_simp⟩) hHeld ?_
 try simp only [Act.put,zsA,zsB,zsC]
 refine' wpAnyH_take (i := 3) (oi := _) (v := .agg (gameCells g av tv).toArray) rfl (by kernel_rfl) (by kernel_rfl) (by kernel_rfl) (fun _ _ _ h => h) (by refine (yieldsIf_load_mid ?_ 25 (.tmp 30) rfl (yb) 0 ?_ (gameCells g av tv) _ (fun X h => h.1) Tryz.underlying25 rfl (by kernel_rfl)) <;> go_simp) hHeld ?_
 try simp only [Act.put,zsA,zsB,zsC]
 refine' wpAnyH_take (i := 4) (oi := _) (v := .agg #[.slice u1 u2 u3,.slice v1 v2 v3]) rfl (by kernel_rfl) (by kernel_rfl) (by kernel_rfl) (fun _ _ _ h => h) (by refine (yieldsIf_load_mid ?_ 41 (.tmp 6) rfl (w2.heap.size) 0 ?_ [.slice u1 u2 u3,.slice v1 v2 v3] _ (fun X h => h.2.1) Tryz.underlying41 rfl (by kernel_rfl)) <;> go_simp) hHeld ?_
 try simp only [Act.put,zsA,zsB,zsC]
 refine' wpAnyH_take (i := 5) (oi := _) (v := .agg #[.slice ma mn mc,.slice ba bn bc,.slice xa xn xc,.int .i64 r.factor,.string r.serial]) rfl (by kernel_rfl) (by kernel_rfl) (by kernel_rfl) (fun _ _ _ h => h) (by refine (yieldsIf_load_mid ?_ 29 (.tmp 3) rfl (w.heap.size) 0 ?_ [.slice ma mn mc,.slice ba bn bc,.slice xa xn xc,.int .i64 r.factor,.string r.serial] _ (fun X h => h.2.2) Tryz.underlying29 rfl (by kernel_rfl)) <;> go_simp) hHeld ?_
 try simp only [Act.put,zsA,zsB,zsC]
 refine wpAnyH_ready (rs := [6]) (by kernel_rfl) (by simp) ?_
 refine AllReadyH.cons (o := _) rfl (fun K hK => ?_) AllReadyH.nil
 go_simp
 refine (cT.out _ _ _ bD (hlr.drew')).mono ?_
 rintro e w3 ⟨rfl,hb3⟩
 go_wp2_with fail
 refine hK.out _ _ ⟨fun j u hu => Bel.cellOf hb3 (hHeld.1 j u hu),fun j u hu => Bel.cellOf hb3 (hHeld.2.1 j u hu),fun j u hu => Bel.cellOf hb3 (hHeld.2.2 j u hu)⟩ (fun hHeld => ?_)
 clear hK K
 try simp only [Act.put,zsA,zsB,zsC]
 refine' wpAnyH_take (i := 7) (oi := _) (v := .tuple #[.int .i64 0,.int .i64 c]) rfl (by kernel_rfl) (by kernel_rfl) (by kernel_rfl) (fun _ _ _ h => h) (Or.inl ⟨by first | (go_simp;done) | rfl,fun X hX => by go_simp⟩) hHeld ?_
 try simp only [Act.put,zsA,zsB,zsC]
 refine' wpAnyH_take (i := 8) (oi := _) (v := .int .i64 0) rfl (by kernel_rfl) (by kernel_rfl) (by kernel_rfl) (fun _ _ _ h => h) (Or.inl ⟨by first | (go_simp;done) | rfl,fun X hX => by go_simp⟩) hHeld ?_
 try simp only [Act.put,zsA,zsB,zsC]
 refine' wpAnyH_take (i := 9) (oi := _) (v := .int .i64 c) rfl (by kernel_rfl) (by kernel_rfl) (by kernel_rfl) (fun _ _ _ h => h) (Or.inl ⟨by first | (go_simp;done) | rfl,fun X hX => by go_simp⟩) hHeld ?_
 try simp only [Act.put,zsA,zsB,zsC]
 refine' wpAnyH_take (i := 10) (oi := _) (v := .int .i64 0) rfl (by kernel_rfl) (by kernel_rfl) (by kernel_rfl) (fun _ _ _ h => h) (Or.inl ⟨by first | (go_simp;done) | rfl,fun X hX => by go_simp⟩) hHeld ?_
 try simp only [Act.put,zsA,zsB,zsC]
 refine' wpAnyH_take (i := 11) (oi := _) (v := .int .i64 c) rfl (by kernel_rfl) (by kernel_rfl) (by kernel_rfl) (fun _ _ _ h => h) (Or.inl ⟨by first | (go_simp;done) | rfl,fun X hX => by go_simp⟩) hHeld ?_
 try simp only [Act.put,zsA,zsB,zsC]
 refine wpAnyH_done (by kernel_rfl) ?_ _
 go_simp
 have b3 : Below w.heap.size w w3 := Bel.to bD hb3
 have rb3 := Row.keep rb2.drew hb3
 clear hb3 rl rb2 bD hHeld b2 hlr
 go_wp2
 go_ret2
 exact ⟨_,rfl,OwnS.nil _ _ _,b3⟩
set_option maxHeartbeats 16000000 in
set_option maxRecDepth 100000 in
theorem rwins33_ok (yb : Nat) (C : Nat → Prop) (g : GameD) (av tv : Value) (ms : List AddonM) (es : List DoM) (mv bv xv : Value) (r : ResD) (w : World) (hR : RefR w C yb g av tv es) (rg : GameR w av tv ms g) (hg0 : gameE g = 0) (hr : ResR w mv bv xv r) (hs : r.serial.size ≤ 9223372036854775807) (hok : ∀ m ∈ es,lineE g m.d.l.1 m.d.l.2 = 0) (hsize : es.length ≤ 100000) (hres : resE g r = 0) :
  Calls Tryz.prog 19 #[.pointer (some ⟨yb,0,none⟩),resVal mv bv xv r] w (WinsO (winsX g r (es.map (·.d))) 0 w) := by
 obtain ⟨ea,n,ec,hrow,hnC,hClt,hC⟩ := id hR
 have hgr := hide (fun X (hX : Below w.heap.size w X) => show X.rangeAt yb 0 (gameCells g av tv) from fun j u hu => by
  rw [Nat.zero_add,(Row.keep hrow hX).cell? j,List.getElem?_append_left (List.getElem?_eq_some_iff.1 hu).1]
  exact hu)
 obtain ⟨U,hU⟩ : ∃ U,U = unrankG g 0 := ⟨_,rfl⟩
 have hUl : lineE g U.1 U.2 = 0 := by rw [hU];exact unrank_line hg0 (count_pos hg0)
 have hUP : unrankP g 0 = (U,0) := by
  unfold unrankP
  have := count_pos hg0
  rw [if_neg (by simpa using hg0),if_neg (by omega),hU]
  rfl
 have cU := hide (fun X (hX : Below w.heap.size w X) => runrank13_any g av tv ms 0 X (rg.below hX))
 rw [hUP] at cU
 have cT := hide (fun (u v : Value) X (hX : Below w.heap.size w X) (hl : LineR X u v U.1 U.2) => tier32_any g av tv u v mv bv xv ms U r X (rg.below hX) hl (hr.below hX) hs)
 have cT0 := cT
 have hcm : checkM g U r = resE g r := by unfold checkM;rw [if_neg (by simpa using hUl)]
 have htp : tierP g U r = if resE g r ≠ 0 then (0,resE g r) else (tierM g U r,0) := by unfold tierP;rw [hcm]
 rw [htp] at cT
 obtain ⟨ma,mn,mc,rfl⟩ := hr.1.shape
 obtain ⟨ba,bn,bc,rfl⟩ := hr.2.1.shape
 obtain ⟨xa,xn,xc,rfl⟩ := hr.2.2.shape
 unfold LineC at cU
 unfold resVal lineVal at cT
 unfold gameVal at cU cT
 have hybl := hrow.lt
 rw [if_neg (by simpa using hres)] at cT
 obtain ⟨t0,htt0⟩ : ∃ t0,t0 = tierM g U r := ⟨_,rfl⟩
 rw [← htt0] at cT
 have hnl : Hid (n = es.length) := by
  obtain ⟨a,c,h,-⟩ := (hC w (Chg.refl _ _)).1.shape
  injection h
 have hsz : Hid (es.length ≤ 100000) := hsize
 have hybh : Hid (yb < w.heap.size) := hybl
 have hCh := hide (fun Y (hY : Below w.heap.size w Y) => hC Y (Chg.ofBelow hY))
 have hrowh := hide (fun Y (hY : Below w.heap.size w Y) => And.intro (show Y.cell? ⟨yb,22,none⟩ = some (.slice ea n ec) from ((Row.keep hrow hY).cell? 22).trans rfl) trivial)
 replace hok := hide hok
 replace hres := hide hres
 have rgh := hide rg
 have hrh := hide hr
 have hsh := hide hs
 clear htt0 hU hUl hUP hcm htp hrow hnC hClt hC hR rg hg0 hr hs cT0 hsize
 unfold resVal
 go_enter Tryz.func19,Tryz.ntmps19
 go_upto_region 3 with (fail)
 obtain ⟨W,hW⟩ : ∃ W,W = w.alloc (Obj.cells #[.slice ma mn mc,.slice ba bn bc,.slice xa xn xc,.int .i64 r.factor,.string r.serial] 29) := ⟨_,rfl⟩
 have bW : Below w.heap.size w W := by rw [hW];exact Bel.al (Below.refl _ _) _
 have rb : Row W w.heap.size 29 [.slice ma mn mc,.slice ba bn bc,.slice xa xn xc,.int .i64 r.factor,.string r.serial] := by rw [hW];exact Row.new _ _ _
 rw [← hW]
 clear hW
 have hga := hide (hgr.out _ bW)
 go_upto_region 4 with (first | (refine wpList_load_mid rfl 25 _ rfl yb 0 rfl (gameCells g av tv) _ hga.out Tryz.underlying25 rfl (by kernel_rfl) ?_) | (go_at_call 56;(refine (cU.out _ bW).mono ?_);rintro e w2 ⟨uu,vv,rfl,hlr,hb2⟩;obtain ⟨u1,u2,u3,rfl⟩ := hlr.1.shape;obtain ⟨v1,v2,v3,rfl⟩ := hlr.2.shape;unfold lineVal) | fail)
 have b2 : Below w.heap.size w w2 := Bel.to bW hb2
 obtain ⟨W2,hW2⟩ : ∃ W2,W2 = w2.alloc (Obj.cells #[.slice u1 u2 u3,.slice v1 v2 v3] 41) := ⟨_,rfl⟩
 have bW2 : Below w2.heap.size w2 W2 := by rw [hW2];exact Bel.al (Below.refl _ _) _
 have rl : Row W2 w2.heap.size 41 [.slice u1 u2 u3,.slice v1 v2 v3] := by rw [hW2];exact Row.new _ _ _
 have rb2 : Row W2 w.heap.size 29 [.slice ma mn mc,.slice ba bn bc,.slice xa xn xc,.int .i64 r.factor,.string r.serial] := Row.keep (Row.keep rb hb2) bW2
 have bD : Below w.heap.size w W2.drew := Below.drew (Bel.to b2 bW2)
 replace hlr := LineR.below hlr bW2
 rw [← hW2]
 clear hW2 bW2 hb2 rb bW
 go_upto_region 6 with (fail)
 refine wp_region_held_drew (S := fun X => X.rangeAt yb 0 (gameCells g av tv) ∧ X.rangeAt w2.heap.size 0 [.slice u1 u2 u3,.slice v1 v2 v3] ∧ X.rangeAt w.heap.size 0 [.slice ma mn mc,.slice ba bn bc,.slice xa xn xc,.int .i64 r.factor,.string r.serial]) (by kernel_rfl) ⟨hgr.out _ bD,Rng.at0 (Rng.cons rl.drew (Rng.nil _)),Rng.at0 (Rng.cons rb2.drew (Rng.nil _))⟩ (fun hHeld => ?_)
 refine' wpAnyH_take (i := 0) (oi := _) (v := .pointer (some ⟨yb,0,none⟩)) rfl (by kernel_rfl) (by kernel_rfl) (by kernel_rfl) (fun _ _ _ h => h) (Or.inl ⟨by first | (go_simp;done) | rfl,fun X hX => by go_simp⟩) hHeld ?_
 try simp only [Act.put,zsA,zsB,zsC]
 refine' wpAnyH_take (i := 1) (oi := _) (v := .pointer (some ⟨yb,0,none⟩)) rfl (by kernel_rfl) (by kernel_rfl) (by kernel_rfl) (fun _ _ _ h => h) (Or.inl ⟨by first | (go_simp;done) | rfl,fun X hX => by go_simp⟩) hHeld ?_
 try simp only [Act.put,zsA,zsB,zsC]
 refine' wpAnyH_take (i := 2) (oi := _) (v := .pointer (some ⟨yb,0,none⟩)) rfl (by kernel_rfl) (by kernel_rfl) (by kernel_rfl) (fun _ _ _ h => h) (Or.inl ⟨by first | (go_simp;done) | rfl,fun X hX => by go_simp⟩) hHeld ?_
 try simp only [Act.put,zsA,zsB,zsC]
 refine' wpAnyH_take (i := 3) (oi := _) (v := .agg (gameCells g av tv).toArray) rfl (by kernel_rfl) (by kernel_rfl) (by kernel_rfl) (fun _ _ _ h => h) (by refine (yieldsIf_load_mid ?_ 25 (.tmp 30) rfl (yb) 0 ?_ (gameCells g av tv) _ (fun X h => h.1) Tryz.underlying25 rfl (by kernel_rfl)) <;> go_simp) hHeld ?_
 try simp only [Act.put,zsA,zsB,zsC]
 refine' wpAnyH_take (i := 4) (oi := _) (v := .agg #[.slice u1 u2 u3,.slice v1 v2 v3]) rfl (by kernel_rfl) (by kernel_rfl) (by kernel_rfl) (fun _ _ _ h => h) (by refine (yieldsIf_load_mid ?_ 41 (.tmp 6) rfl (w2.heap.size) 0 ?_ [.slice u1 u2 u3,.slice v1 v2 v3] _ (fun X h => h.2.1) Tryz.underlying41 rfl (by kernel_rfl)) <;> go_simp) hHeld ?_
 try simp only [Act.put,zsA,zsB,zsC]
 refine' wpAnyH_take (i := 5) (oi := _) (v := .agg #[.slice ma mn mc,.slice ba bn bc,.slice xa xn xc,.int .i64 r.factor,.string r.serial]) rfl (by kernel_rfl) (by kernel_rfl) (by kernel_rfl) (fun _ _ _ h => h) (by refine (yieldsIf_load_mid ?_ 29 (.tmp 3) rfl (w.heap.size) 0 ?_ [.slice ma mn mc,.slice ba bn bc,.slice xa xn xc,.int .i64 r.factor,.string r.serial] _ (fun X h => h.2.2) Tryz.underlying29 rfl (by kernel_rfl)) <;> go_simp) hHeld ?_
 try simp only [Act.put,zsA,zsB,zsC]
 refine wpAnyH_ready (rs := [6]) (by kernel_rfl) (by simp) ?_
 refine AllReadyH.cons (o := _) rfl (fun K hK => ?_) AllReadyH.nil
 go_simp
 refine (cT.out _ _ _ bD (hlr.drew')).mono ?_
 rintro e w3 ⟨rfl,hb3⟩
 go_wp2_with fail
 refine hK.out _ _ ⟨fun j u hu => Bel.cellOf hb3 (hHeld.1 j u hu),fun j u hu => Bel.cellOf hb3 (hHeld.2.1 j u hu),fun j u hu => Bel.cellOf hb3 (hHeld.2.2 j u hu)⟩ (fun hHeld => ?_)
 clear hK K
 try simp only [Act.put,zsA,zsB,zsC]
 refine' wpAnyH_take (i := 7) (oi := _) (v := .tuple #[.int .i64 t0,.int .i64 0]) rfl (by kernel_rfl) (by kernel_rfl) (by kernel_rfl) (fun _ _ _ h => h) (Or.inl ⟨by first | (go_simp;done) | rfl,fun X hX => by go_simp⟩) hHeld ?_
 try simp only [Act.put,zsA,zsB,zsC]
 refine' wpAnyH_take (i := 8) (oi := _) (v := .int .i64 t0) rfl (by kernel_rfl) (by kernel_rfl) (by kernel_rfl) (fun _ _ _ h => h) (Or.inl ⟨by first | (go_simp;done) | rfl,fun X hX => by go_simp⟩) hHeld ?_
 try simp only [Act.put,zsA,zsB,zsC]
 refine' wpAnyH_take (i := 9) (oi := _) (v := .int .i64 0) rfl (by kernel_rfl) (by kernel_rfl) (by kernel_rfl) (fun _ _ _ h => h) (Or.inl ⟨by first | (go_simp;done) | rfl,fun X hX => by go_simp⟩) hHeld ?_
 try simp only [Act.put,zsA,zsB,zsC]
 refine' wpAnyH_take (i := 10) (oi := _) (v := .int .i64 t0) rfl (by kernel_rfl) (by kernel_rfl) (by kernel_rfl) (fun _ _ _ h => h) (Or.inl ⟨by first | (go_simp;done) | rfl,fun X hX => by go_simp⟩) hHeld ?_
 try simp only [Act.put,zsA,zsB,zsC]
 refine' wpAnyH_take (i := 11) (oi := _) (v := .int .i64 0) rfl (by kernel_rfl) (by kernel_rfl) (by kernel_rfl) (fun _ _ _ h => h) (Or.inl ⟨by first | (go_simp;done) | rfl,fun X hX => by go_simp⟩) hHeld ?_
 try simp only [Act.put,zsA,zsB,zsC]
 refine wpAnyH_done (by kernel_rfl) ?_ _
 go_simp
 have b3 : Below w.heap.size w w3 := Bel.to bD hb3
 have rb3 := Row.keep rb2.drew hb3
 clear hb3 rl rb2 bD hHeld b2 hlr
 have hb3 := hide b3
 have hs3 : Hid (w.heap.size ≤ w3.heap.size) := b3.size
 have hrb := hide rb3
 have hO0 : Hid (OwnWin w3 w3.heap.size (.slice none 0 0) (winsX g r ((es.map (·.d)).take 0))) := OwnS.nil _ _ _
 have hyb3 : Hid (yb < w3.heap.size) := by show _ < _;have := hybh.out;have := b3.size;omega
 clear rb3 b3
 go_wp2
 go_loopg [10,11,12,13] n (fun gh v t _ _ wr => ∃ (i om : Nat) (oa : Option Addr) (oc : Nat),gh = n - i ∧ i ≤ n ∧ t = .int .i64 (i : Int) ∧ v = .slice oa om oc ∧ Hid (OwnWin wr w3.heap.size (.slice oa om oc) (winsX g r ((es.map (·.d)).take i))) ∧ Hid (Below w3.heap.size w3 wr))
 case atStart => exact ⟨0,0,none,0,rfl,Nat.zero_le _,rfl,rfl,hO0,Below.refl _ _⟩
 case round =>
  clear hO0
  obtain ⟨i,om,oa,oc,hgh,hi,rfl,rfl,hO,hB⟩ := hrel
  replace hgh := hide hgh
  have bwr : Below w.heap.size w wr := hb3.out.trans (hB.out.mono hs3.out)
  have c22 : wr.cell? ⟨yb,22,none⟩ = some (.slice ea n ec) := (hrowh.out wr bwr).1
  by_cases hlt : i < n
  ·have hlt2 := hide hlt
   have hil : i < es.length := by rw [← hnl.out];exact hlt
   have hrd := (hCh.out wr bwr).1
   have hrd3 := (hCh.out w3 hb3.out).1
   obtain ⟨b,off,hea,hbb,hcell⟩ := hrd.at_ hil
   subst hea
   have hbb3 : Hid (b < w3.heap.size) := by
    obtain ⟨b2,off2,e2,hbb2,-⟩ := hrd3.at_ hil
    injection e2 with e2
    injection e2 with e2 _
    rw [e2]
    exact hbb2
   obtain ⟨m,hm⟩ : ∃ m,m = es[i] := ⟨_,rfl⟩
   have hmi : es[i]? = some m := by rw [hm];exact List.getElem?_eq_getElem hil
   have hml := (hCh.out wr bwr).2 m (by rw [hm];exact List.getElem_mem _)
   have hmo := hok.out m (by rw [hm];exact List.getElem_mem _)
   have hsn : Hid (winsX g r ((es.map (·.d)).take (i + 1)) = winsX g r ((es.map (·.d)).take i) ++ (winE g r m.d).toList) := by
    show _ = _
    rw [List.take_succ_eq_append_getElem (by rw [List.length_map];exact hil),List.getElem_map,← hm]
    unfold winsX
    rw [List.filterMap_append]
    have h1 : ([m.d].filterMap (winE g r)) = (winE g r m.d).toList := by
     rw [List.filterMap_cons]
     cases winE g r m.d <;> rfl
    rw [h1]
   obtain ⟨tt,htt⟩ : ∃ tt,tt = tierM g m.d.l r := ⟨_,rfl⟩
   have htp : tierP g m.d.l r = (tt,0) := by
    unfold tierP checkM
    rw [if_neg (by rw [if_neg (by simpa using hmo)];simpa using hres.out),htt]
   have hwl : Hid ((winE g r m.d).toList = if 0 ≤ tt then [⟨m.d.ticket,m.d.line,tt⟩] else []) := by
    show _ = _
    unfold winE
    rw [← htt]
    by_cases h : 0 ≤ tt
    ·rw [if_pos h,if_neg (by omega)];rfl
    ·have h1 : -1 ≤ tt := by rw [htt];exact tierGo_lo _ _ _
     rw [if_neg h,if_pos (by omega)];rfl
   have bDr : Below w.heap.size w wr.drew := Below.drew bwr
   have rbr := Row.keep hrb.out hB.out
   have cE := tier32_any g av tv m.mv m.bv (.slice ma mn mc) (.slice ba bn bc) (.slice xa xn xc) ms m.d.l r wr.drew (rgh.out.below bDr) hml (hrh.out.below bDr) hsh.out
   rw [htp] at cE
   obtain ⟨a1,a2,a3,hmv⟩ := hml.1.shape
   obtain ⟨q1,q2,q3,hbv⟩ := hml.2.shape
   unfold resVal lineVal gameVal IntC at cE
   rw [hmv,hbv] at cE
   replace cE := hide cE
   have x22 : wr.drew.cell? ⟨yb,22,none⟩ = some (.slice (some ⟨b,off,none⟩) n ec) := c22
   have hcell2 : ∀ (j : Nat) (u : Value),[Value.slice a1 a2 a3,Value.slice q1 q2 q3][j]? = some u → wr.drew.cell? ⟨b,off + i * 4 + 2 + j,none⟩ = some u := fun j u hu => by
    rw [Nat.add_assoc]
    exact hcell i m hmi (2 + j) u (by
     unfold DoM.cells
     rw [hmv,hbv]
     rcases j with _ | _ | j
     ·exact hu
     ·exact hu
     ·simp at hu)
   obtain ⟨mt,hmt⟩ : ∃ mt,mt = m.d.ticket := ⟨_,rfl⟩
   obtain ⟨mk,hmk⟩ : ∃ mk,mk = m.d.line := ⟨_,rfl⟩
   have e0 : wr.cell? ⟨b,off + i * 4,none⟩ = some (.int .i64 mt) := by rw [hmt];exact hcell i m hmi 0 _ rfl
   have e1 : wr.cell? ⟨b,off + i * 4 + 1,none⟩ = some (.int .i64 mk) := by rw [hmk];exact hcell i m hmi 1 _ rfl
   rw [← hmt,← hmk] at hwl
   have e0h := hide e0
   have e1h := hide e1
   have c22h := hide c22
   obtain ⟨Ws,hWs0⟩ : ∃ Ws,Ws = winsX g r ((es.map (·.d)).take i) := ⟨_,rfl⟩
   have hWl : Hid (Ws.length ≤ 100000) := by
    show _ ≤ _
    rw [hWs0]
    have h9 := wins_le g r ((es.map (·.d)).take i)
    have h8 : ((es.map (·.d)).take i).length ≤ es.length := by rw [List.length_take,List.length_map];omega
    have := hsz.out
    omega
   rw [← hWs0] at hO hsn
   have i1 : (0 : Int) ≤ (i : Int) := by omega
   have i2 : (i : Int) < (n : Int) := by omega
   have i3 : (n : Int) ≤ 100000 := by have := hnl.out;have := hsz.out;omega
   clear hcell hrd hrd3 hmi hm hml hmo htt htp hmv hbv hmt hmk hWs0 e0 e1
   go_upto_region 13 with (fail)
   clear c22
   refine wp_region_held_drew (S := fun X => X.rangeAt yb 0 (gameCells g av tv) ∧ X.cell? ⟨yb,22,none⟩ = some (.slice (some ⟨b,off,none⟩) n ec) ∧ X.rangeAt b (off + i * 4 + 2) [.slice a1 a2 a3,.slice q1 q2 q3] ∧ X.rangeAt w.heap.size 0 [.slice ma mn mc,.slice ba bn bc,.slice xa xn xc,.int .i64 r.factor,.string r.serial]) (by kernel_rfl) ⟨hgr.out _ bDr,x22,fun j u hu => hcell2 j u hu,Rng.at0 (Rng.cons rbr.drew (Rng.nil _))⟩ (fun hHeld => ?_)
   refine' wpAnyH_take (i := 0) (oi := _) (v := .pointer (some ⟨yb,0,none⟩)) rfl (by kernel_rfl) (by kernel_rfl) (by kernel_rfl) (fun _ _ _ h => h) (Or.inl ⟨by first | (go_simp;done) | rfl,fun X hX => by go_simp⟩) hHeld ?_
   try simp only [Act.put,zsA,zsB,zsC]
   refine' wpAnyH_take (i := 1) (oi := _) (v := .pointer (some ⟨yb,0,none⟩)) rfl (by kernel_rfl) (by kernel_rfl) (by kernel_rfl) (fun _ _ _ h => h) (Or.inl ⟨by first | (go_simp;done) | rfl,fun X hX => by go_simp⟩) hHeld ?_
   try simp only [Act.put,zsA,zsB,zsC]
   refine' wpAnyH_take (i := 2) (oi := _) (v := .pointer (some ⟨yb,0,none⟩)) rfl (by kernel_rfl) (by kernel_rfl) (by kernel_rfl) (fun _ _ _ h => h) (Or.inl ⟨by first | (go_simp;done) | rfl,fun X hX => by go_simp⟩) hHeld ?_
   try simp only [Act.put,zsA,zsB,zsC]
   refine' wpAnyH_take (i := 3) (oi := _) (v := .agg (gameCells g av tv).toArray) rfl (by kernel_rfl) (by kernel_rfl) (by kernel_rfl) (fun _ _ _ h => h) (by refine (yieldsIf_load_mid ?_ 25 (.tmp 52) rfl (yb) 0 ?_ (gameCells g av tv) _ (fun X h => h.1) Tryz.underlying25 rfl (by kernel_rfl)) <;> go_simp) hHeld ?_
   try simp only [Act.put,zsA,zsB,zsC]
   refine' wpAnyH_take (i := 4) (oi := _) (v := .pointer (some ⟨yb,0,none⟩)) rfl (by kernel_rfl) (by kernel_rfl) (by kernel_rfl) (fun _ _ _ h => h) (Or.inl ⟨by first | (go_simp;done) | rfl,fun X hX => by go_simp⟩) hHeld ?_
   try simp only [Act.put,zsA,zsB,zsC]
   refine' wpAnyH_take (i := 5) (oi := _) (v := .pointer (some ⟨yb,0,none⟩)) rfl (by kernel_rfl) (by kernel_rfl) (by kernel_rfl) (fun _ _ _ h => h) (Or.inl ⟨by first | (go_simp;done) | rfl,fun X hX => by go_simp⟩) hHeld ?_
   try simp only [Act.put,zsA,zsB,zsC]
   refine' wpAnyH_take (i := 6) (oi := _) (v := .pointer (some ⟨yb,22,none⟩)) rfl (by kernel_rfl) (by kernel_rfl) (by kernel_rfl) (fun _ _ _ h => h) (Or.inl ⟨by first | (go_simp;done) | rfl,fun X hX => by go_simp⟩) hHeld ?_
   try simp only [Act.put,zsA,zsB,zsC]
   refine' wpAnyH_take (i := 7) (oi := _) (v := .slice (some ⟨b,off,none⟩) n ec) rfl (by kernel_rfl) (by kernel_rfl) (by kernel_rfl) (fun _ _ _ h => h) (Or.inl ⟨by first | (go_simp;done) | rfl,fun X hX => by have h0 := hX.2.1;go_simp⟩) hHeld ?_
   try simp only [Act.put,zsA,zsB,zsC]
   refine' wpAnyH_take (i := 8) (oi := _) (v := .int .i64 (i : Int)) rfl (by kernel_rfl) (by kernel_rfl) (by kernel_rfl) (fun _ _ _ h => h) (Or.inl ⟨by first | (go_simp;done) | rfl,fun X hX => by go_simp⟩) hHeld ?_
   try simp only [Act.put,zsA,zsB,zsC]
   refine' wpAnyH_take (i := 9) (oi := _) (v := .pointer (some ⟨b,off + i * 4,none⟩)) rfl (by kernel_rfl) (by kernel_rfl) (by kernel_rfl) (fun _ _ _ h => h) (Or.inl ⟨by first | (go_simp;done) | rfl,fun X hX => by go_simp⟩) hHeld ?_
   try simp only [Act.put,zsA,zsB,zsC]
   refine' wpAnyH_take (i := 10) (oi := _) (v := .pointer (some ⟨b,off + i * 4 + 2,none⟩)) rfl (by kernel_rfl) (by kernel_rfl) (by kernel_rfl) (fun _ _ _ h => h) (Or.inl ⟨by first | (go_simp;done) | rfl,fun X hX => by go_simp⟩) hHeld ?_
   try simp only [Act.put,zsA,zsB,zsC]
   refine' wpAnyH_take (i := 11) (oi := _) (v := .agg #[.slice a1 a2 a3,.slice q1 q2 q3]) rfl (by kernel_rfl) (by kernel_rfl) (by kernel_rfl) (fun _ _ _ h => h) (by refine (yieldsIf_load_mid ?_ 41 (.tmp 60) rfl (b) (off + i * 4 + 2) ?_ [.slice a1 a2 a3,.slice q1 q2 q3] _ (fun X h => h.2.2.1) Tryz.underlying41 rfl (by kernel_rfl)) <;> go_simp) hHeld ?_
   try simp only [Act.put,zsA,zsB,zsC]
   refine' wpAnyH_take (i := 12) (oi := _) (v := .agg #[.slice ma mn mc,.slice ba bn bc,.slice xa xn xc,.int .i64 r.factor,.string r.serial]) rfl (by kernel_rfl) (by kernel_rfl) (by kernel_rfl) (fun _ _ _ h => h) (by refine (yieldsIf_load_mid ?_ 29 (.tmp 3) rfl (w.heap.size) 0 ?_ [.slice ma mn mc,.slice ba bn bc,.slice xa xn xc,.int .i64 r.factor,.string r.serial] _ (fun X h => h.2.2.2) Tryz.underlying29 rfl (by kernel_rfl)) <;> go_simp) hHeld ?_
   try simp only [Act.put,zsA,zsB,zsC]
   refine wpAnyH_ready (rs := [13]) (by kernel_rfl) (by simp) ?_
   refine AllReadyH.cons (o := _) rfl (fun K hK => ?_) AllReadyH.nil
   go_simp
   refine cE.out.mono ?_
   rintro e w4 ⟨rfl,hb4⟩
   go_wp2_with fail
   refine hK.out _ _ ⟨fun j u hu => Bel.cellOf hb4 (hHeld.1 j u hu),Bel.cellOf hb4 hHeld.2.1,fun j u hu => Bel.cellOf hb4 (hHeld.2.2.1 j u hu),fun j u hu => Bel.cellOf hb4 (hHeld.2.2.2 j u hu)⟩ (fun hHeld => ?_)
   clear hK K
   try simp only [Act.put,zsA,zsB,zsC]
   refine' wpAnyH_take (i := 14) (oi := _) (v := .tuple #[.int .i64 tt,.int .i64 0]) rfl (by kernel_rfl) (by kernel_rfl) (by kernel_rfl) (fun _ _ _ h => h) (Or.inl ⟨by first | (go_simp;done) | rfl,fun X hX => by go_simp⟩) hHeld ?_
   try simp only [Act.put,zsA,zsB,zsC]
   refine' wpAnyH_take (i := 15) (oi := _) (v := .int .i64 tt) rfl (by kernel_rfl) (by kernel_rfl) (by kernel_rfl) (fun _ _ _ h => h) (Or.inl ⟨by first | (go_simp;done) | rfl,fun X hX => by go_simp⟩) hHeld ?_
   try simp only [Act.put,zsA,zsB,zsC]
   refine' wpAnyH_take (i := 16) (oi := _) (v := .int .i64 0) rfl (by kernel_rfl) (by kernel_rfl) (by kernel_rfl) (fun _ _ _ h => h) (Or.inl ⟨by first | (go_simp;done) | rfl,fun X hX => by go_simp⟩) hHeld ?_
   try simp only [Act.put,zsA,zsB,zsC]
   refine' wpAnyH_take (i := 17) (oi := _) (v := .int .i64 tt) rfl (by kernel_rfl) (by kernel_rfl) (by kernel_rfl) (fun _ _ _ h => h) (Or.inl ⟨by first | (go_simp;done) | rfl,fun X hX => by go_simp⟩) hHeld ?_
   try simp only [Act.put,zsA,zsB,zsC]
   refine' wpAnyH_take (i := 18) (oi := _) (v := .int .i64 0) rfl (by kernel_rfl) (by kernel_rfl) (by kernel_rfl) (fun _ _ _ h => h) (Or.inl ⟨by first | (go_simp;done) | rfl,fun X hX => by go_simp⟩) hHeld ?_
   try simp only [Act.put,zsA,zsB,zsC]
   refine wpAnyH_done (by kernel_rfl) ?_ _
   go_simp
   clear hHeld cE x22 hcell2
   have hB4 : Hid (Below w3.heap.size w3 w4) := Bel.to (Below.drew hB.out) hb4
   have hO4 : OwnWin w4 w3.heap.size (.slice oa om oc) Ws := OwnS.keep (show OwnS 3 winCells (fun _ _ => True) wr.drew w3.heap.size 59 (.slice oa om oc) Ws from OwnS.keep hO.out (Below.drew (Below.refl _ _))) hb4
   have y22 := Bel.cellOf (w := wr.drew) hb4 c22h.out
   have y0 := Bel.cellOf (w := wr.drew) hb4 e0h.out
   have y1 := Bel.cellOf (w := wr.drew) hb4 e1h.out
   clear hb4 hO hB bDr bwr rbr
   by_cases hpos : 0 ≤ tt
   ·have hfin : Hid (winsX g r ((es.map (·.d)).take (i + 1)) = Ws ++ [⟨mt,mk,tt⟩]) := by show _ = _;rw [hsn.out,hwl.out,if_pos hpos]
    go_upto_region 15 with (fail)
    refine wp_region_held_drew (S := fun X => X.cell? ⟨yb,22,none⟩ = some (.slice (some ⟨b,off,none⟩) n ec) ∧ X.cell? ⟨b,off + i * 4,none⟩ = some (.int .i64 mt) ∧ X.cell? ⟨b,off + i * 4 + 1,none⟩ = some (.int .i64 mk)) (by kernel_rfl) ⟨y22,y0,y1⟩ (fun hHeld => ?_)
    refine' wpAnyH_take (i := 0) (oi := _) (v := .slice oa om oc) rfl (by kernel_rfl) (by kernel_rfl) (by kernel_rfl) (fun _ _ _ h => h) (Or.inl ⟨by first | (go_simp;done) | rfl,fun X hX => by go_simp⟩) hHeld ?_
    try simp only [Act.put,zsA,zsB,zsC]
    refine' wpAnyH_take (i := 1) (oi := _) (v := .pointer (some ⟨yb,0,none⟩)) rfl (by kernel_rfl) (by kernel_rfl) (by kernel_rfl) (fun _ _ _ h => h) (Or.inl ⟨by first | (go_simp;done) | rfl,fun X hX => by go_simp⟩) hHeld ?_
    try simp only [Act.put,zsA,zsB,zsC]
    refine' wpAnyH_take (i := 2) (oi := _) (v := .pointer (some ⟨yb,0,none⟩)) rfl (by kernel_rfl) (by kernel_rfl) (by kernel_rfl) (fun _ _ _ h => h) (Or.inl ⟨by first | (go_simp;done) | rfl,fun X hX => by go_simp⟩) hHeld ?_
    try simp only [Act.put,zsA,zsB,zsC]
    refine' wpAnyH_take (i := 3) (oi := _) (v := .pointer (some ⟨yb,22,none⟩)) rfl (by kernel_rfl) (by kernel_rfl) (by kernel_rfl) (fun _ _ _ h => h) (Or.inl ⟨by first | (go_simp;done) | rfl,fun X hX => by go_simp⟩) hHeld ?_
    try simp only [Act.put,zsA,zsB,zsC]
    refine' wpAnyH_take (i := 4) (oi := _) (v := .slice (some ⟨b,off,none⟩) n ec) rfl (by kernel_rfl) (by kernel_rfl) (by kernel_rfl) (fun _ _ _ h => h) (Or.inl ⟨by first | (go_simp;done) | rfl,fun X hX => by have h0 := hX.1;go_simp⟩) hHeld ?_
    try simp only [Act.put,zsA,zsB,zsC]
    refine' wpAnyH_take (i := 5) (oi := _) (v := .int .i64 (i : Int)) rfl (by kernel_rfl) (by kernel_rfl) (by kernel_rfl) (fun _ _ _ h => h) (Or.inl ⟨by first | (go_simp;done) | rfl,fun X hX => by go_simp⟩) hHeld ?_
    try simp only [Act.put,zsA,zsB,zsC]
    refine' wpAnyH_take (i := 6) (oi := _) (v := .pointer (some ⟨b,off + i * 4,none⟩)) rfl (by kernel_rfl) (by kernel_rfl) (by kernel_rfl) (fun _ _ _ h => h) (Or.inl ⟨by first | (go_simp;done) | rfl,fun X hX => by go_simp⟩) hHeld ?_
    try simp only [Act.put,zsA,zsB,zsC]
    refine' wpAnyH_take (i := 7) (oi := _) (v := .pointer (some ⟨b,off + i * 4,none⟩)) rfl (by kernel_rfl) (by kernel_rfl) (by kernel_rfl) (fun _ _ _ h => h) (Or.inl ⟨by first | (go_simp;done) | rfl,fun X hX => by go_simp⟩) hHeld ?_
    try simp only [Act.put,zsA,zsB,zsC]
    refine' wpAnyH_take (i := 8) (oi := _) (v := .int .i64 mt) rfl (by kernel_rfl) (by kernel_rfl) (by kernel_rfl) (fun _ _ _ h => h) (Or.inl ⟨by first | (go_simp;done) | rfl,fun X hX => by have h0 := hX.2.1;go_simp⟩) hHeld ?_
    try simp only [Act.put,zsA,zsB,zsC]
    refine' wpAnyH_take (i := 9) (oi := _) (v := .pointer (some ⟨yb,0,none⟩)) rfl (by kernel_rfl) (by kernel_rfl) (by kernel_rfl) (fun _ _ _ h => h) (Or.inl ⟨by first | (go_simp;done) | rfl,fun X hX => by go_simp⟩) hHeld ?_
    try simp only [Act.put,zsA,zsB,zsC]
    refine' wpAnyH_take (i := 10) (oi := _) (v := .pointer (some ⟨yb,0,none⟩)) rfl (by kernel_rfl) (by kernel_rfl) (by kernel_rfl) (fun _ _ _ h => h) (Or.inl ⟨by first | (go_simp;done) | rfl,fun X hX => by go_simp⟩) hHeld ?_
    try simp only [Act.put,zsA,zsB,zsC]
    refine' wpAnyH_take (i := 11) (oi := _) (v := .pointer (some ⟨yb,22,none⟩)) rfl (by kernel_rfl) (by kernel_rfl) (by kernel_rfl) (fun _ _ _ h => h) (Or.inl ⟨by first | (go_simp;done) | rfl,fun X hX => by go_simp⟩) hHeld ?_
    try simp only [Act.put,zsA,zsB,zsC]
    refine' wpAnyH_take (i := 12) (oi := _) (v := .slice (some ⟨b,off,none⟩) n ec) rfl (by kernel_rfl) (by kernel_rfl) (by kernel_rfl) (fun _ _ _ h => h) (Or.inl ⟨by first | (go_simp;done) | rfl,fun X hX => by have h0 := hX.1;go_simp⟩) hHeld ?_
    try simp only [Act.put,zsA,zsB,zsC]
    refine' wpAnyH_take (i := 13) (oi := _) (v := .int .i64 (i : Int)) rfl (by kernel_rfl) (by kernel_rfl) (by kernel_rfl) (fun _ _ _ h => h) (Or.inl ⟨by first | (go_simp;done) | rfl,fun X hX => by go_simp⟩) hHeld ?_
    try simp only [Act.put,zsA,zsB,zsC]
    refine' wpAnyH_take (i := 14) (oi := _) (v := .pointer (some ⟨b,off + i * 4,none⟩)) rfl (by kernel_rfl) (by kernel_rfl) (by kernel_rfl) (fun _ _ _ h => h) (Or.inl ⟨by first | (go_simp;done) | rfl,fun X hX => by go_simp⟩) hHeld ?_
    try simp only [Act.put,zsA,zsB,zsC]
    refine' wpAnyH_take (i := 15) (oi := _) (v := .pointer (some ⟨b,off + i * 4 + 1,none⟩)) rfl (by kernel_rfl) (by kernel_rfl) (by kernel_rfl) (fun _ _ _ h => h) (Or.inl ⟨by first | (go_simp;done) | rfl,fun X hX => by go_simp⟩) hHeld ?_
    try simp only [Act.put,zsA,zsB,zsC]
    refine' wpAnyH_take (i := 16) (oi := _) (v := .int .i64 mk) rfl (by kernel_rfl) (by kernel_rfl) (by kernel_rfl) (fun _ _ _ h => h) (Or.inl ⟨by first | (go_simp;done) | rfl,fun X hX => by have h0 := hX.2.2;go_simp⟩) hHeld ?_
    try simp only [Act.put,zsA,zsB,zsC]
    refine' wpAnyH_take (i := 17) (oi := _) (v := .int .i64 tt) rfl (by kernel_rfl) (by kernel_rfl) (by kernel_rfl) (fun _ _ _ h => h) (Or.inl ⟨by first | (go_simp;done) | rfl,fun X hX => by go_simp⟩) hHeld ?_
    try simp only [Act.put,zsA,zsB,zsC]
    refine' wpAnyH_take (i := 18) (oi := _) (v := .agg #[.int .i64 mt,.int .i64 mk,.int .i64 tt]) rfl (by kernel_rfl) (by kernel_rfl) (by kernel_rfl) (fun _ _ _ h => h) (Or.inl ⟨by first | (go_simp;done) | rfl,fun X hX => by go_simp⟩) hHeld ?_
    try simp only [Act.put,zsA,zsB,zsC]
    refine wpAnyH_ready (rs := [19]) (by kernel_rfl) (by simp) ?_
    refine AllReadyH.cons (o := _) rfl (fun K hK => ?_) AllReadyH.nil
    go_simp
    refine hK.out _ _ ⟨cell_alloc hHeld.1 _,cell_alloc hHeld.2.1 _,cell_alloc hHeld.2.2 _⟩ (fun hHeld => ?_)
    clear hK K
    try simp only [Act.put,zsA,zsB,zsC]
    obtain ⟨Y5,hY5⟩ : ∃ Y5,Y5 = (w4.alloc (Obj.cells #[.int .i64 mt,.int .i64 mk,.int .i64 tt] 59)).drew := ⟨_,rfl⟩
    have bY5 : Below w4.heap.size w4 Y5 := by rw [hY5];exact Below.drew (Bel.al (Below.refl _ _) _)
    have rn5 : Row Y5 w4.heap.size 59 [.int .i64 mt,.int .i64 mk,.int .i64 tt] := by rw [hY5];exact (Row.new w4 _ _).drew
    first | rw [← hY5] at hHeld ⊢ | skip
    clear hY5
    refine wpAnyH_ready (rs := [20]) (by kernel_rfl) (by simp) ?_
    refine AllReadyH.cons (o := _) rfl (fun K hK => ?_) AllReadyH.nil
    rw [if_pos (by first | rfl | (go_simp;done))]
    refine wp_appendS _ _ _ 45 rfl (sz := 3) (V := winCells) (R := fun _ _ => True) win_len w3.heap.size 59 (.agg #[.int .i64 0,.int .i64 0,.int .i64 0]) 24 Tryz.underlying45 (by kernel_rfl) rfl (by decide) (.slice oa om oc) Ws rfl (OwnS.keep hO4 bY5) (.slice (some ⟨w4.heap.size,0,none⟩) 1 1) [⟨mt,mk,tt⟩] rfl (rdS_one _ (V := winCells) (x := (⟨mt,mk,tt⟩ : WinD)) rn5 (Nat.le_refl _) (by decide)) (fun _ _ _ _ => trivial) (fun x hx u hu => by rcases List.mem_singleton.1 hx with rfl;simp [winCells] at hu;rcases hu with rfl | rfl | rfl <;> rfl) (by have := hWl.out;simp;omega) (by have := hWl.out;simp;omega) (by have := hB4.out.size;have := bY5.size;omega) ?_
    intro v5 X5 ho5 hg5 hl5
    obtain ⟨o5,om5,oc5,rfl⟩ : ∃ a b c,v5 = Value.slice a b c := by obtain ⟨a,c,h⟩ := OwnS.shape ho5;exact ⟨a,_,c,h⟩
    have n5 : ∀ j,j < w3.heap.size → some j ≠ (Value.slice oa om oc).ownBlock := fun j hj e => by have := (hO4.lt j e.symm).1;omega
    have s5 : w3.heap.size ≤ Y5.heap.size := by have := bY5.size;have := hB4.out.size;omega
    refine hK.out _ _ ⟨(World.cell?_of_block (hg5.block yb (by have := hyb3.out;omega) (n5 _ hyb3.out))).trans hHeld.1,(World.cell?_of_block (hg5.block b (by have := hbb3.out;omega) (n5 _ hbb3.out))).trans hHeld.2.1,(World.cell?_of_block (hg5.block b (by have := hbb3.out;omega) (n5 _ hbb3.out))).trans hHeld.2.2⟩ (fun hHeld => ?_)
    clear hK K
    try simp only [Act.put,zsA,zsB,zsC]
    refine' wpAnyH_take (i := 21) (oi := _) (v := .slice o5 om5 oc5) rfl (by kernel_rfl) (by kernel_rfl) (by kernel_rfl) (fun _ _ _ h => h) (Or.inl ⟨by first | (go_simp;done) | rfl,fun X hX => by go_simp⟩) hHeld ?_
    try simp only [Act.put,zsA,zsB,zsC]
    refine wpAnyH_done (by kernel_rfl) ?_ _
    go_simp
    have hB5 : Hid (Below w3.heap.size w3 X5) := (Bel.to hB4.out bY5).grown hg5 s5 (fun j hj => (hO4.lt j hj).1)
    clear bY5 rn5 hg5 hl5 n5 s5 hHeld hO4 hB4 y22 y0 y1
    go_wp2
    go_roundg (n - (i + 1))
    case measure => have := hgh.out;have := hlt2.out;omega
    case rel => exact ⟨i + 1,om5,o5,oc5,rfl,by have := hlt2.out;omega,by (have := hlt2.out;go_num),rfl,by rw [hfin.out];exact hide ho5,hB5⟩
   ·have hfin : Hid (winsX g r ((es.map (·.d)).take (i + 1)) = Ws) := by show _ = _;rw [hsn.out,hwl.out,if_neg hpos,List.append_nil]
    clear y22 y0 y1
    go_wp2
    go_roundg (n - (i + 1))
    case measure => have := hgh.out;have := hlt2.out;omega
    case rel => exact ⟨i + 1,om,oa,oc,rfl,by have := hlt2.out;omega,by (have := hlt2.out;go_num),rfl,by rw [hfin.out];exact hide hO4,hB4⟩
  ·obtain rfl : n = i := by omega
   have hO2 := OwnS.lower (base' := w.heap.size) hO.out hs3.out
   rw [List.take_of_length_le (by rw [List.length_map,← hnl.out];exact Nat.le_refl _)] at hO2
   go_wp2
   go_ret2
   exact ⟨_,rfl,hO2,bwr⟩
theorem rwins33_any (yb : Nat) (C : Nat → Prop) (g : GameD) (av tv : Value) (ms : List AddonM) (es : List DoM) (mv bv xv : Value) (r : ResD) (w : World) (hR : RefR w C yb g av tv es) (rg : GameR w av tv ms g) (hg0 : gameE g = 0) (hr : ResR w mv bv xv r) (hs : r.serial.size ≤ 9223372036854775807) (hok : ∀ m ∈ es,lineE g m.d.l.1 m.d.l.2 = 0) (hsize : es.length ≤ 100000) :
  Calls Tryz.prog 19 #[.pointer (some ⟨yb,0,none⟩),resVal mv bv xv r] w (WinsO (if resE g r ≠ 0 then [] else winsX g r (es.map (·.d))) (resE g r) w) := by
 by_cases h : resE g r = 0
 ·rw [if_neg (by simpa using h),h]
  exact rwins33_ok yb C g av tv ms es mv bv xv r w hR rg hg0 hr hs hok hsize h
 ·rw [if_pos h]
  exact rwins33_bad yb C g av tv ms es mv bv xv r w hR rg hg0 hr hs h
set_option maxHeartbeats 8000000 in
set_option maxRecDepth 100000 in
theorem rcounts33_bad (yb : Nat) (C : Nat → Prop) (g : GameD) (av tv : Value) (ms : List AddonM) (es : List DoM) (mv bv xv : Value) (r : ResD) (w : World) (hR : RefR w C yb g av tv es) (rg : GameR w av tv ms g) (hg0 : gameE g = 0) (hr : ResR w mv bv xv r) (hs : r.serial.size ≤ 9223372036854775807) (hok : ∀ m ∈ es,lineE g m.d.l.1 m.d.l.2 = 0) (hsize : es.length ≤ 100000) (hres : resE g r ≠ 0) :
  Calls Tryz.prog 21 #[.pointer (some ⟨yb,0,none⟩),resVal mv bv xv r] w (IntsO [] (resE g r) w) := by
 have cW := hide (fun X (hX : Below w.heap.size w X) => rwins33_any yb C g av tv ms es mv bv xv r X (hR.below hX) (rg.below hX) hg0 (hr.below hX) hs hok hsize)
 rw [if_pos hres] at cW
 obtain ⟨ma,mn,mc,rfl⟩ := hr.1.shape
 obtain ⟨ba,bn,bc,rfl⟩ := hr.2.1.shape
 obtain ⟨xa,xn,xc,rfl⟩ := hr.2.2.shape
 obtain ⟨c,hcc⟩ : ∃ c,c = resE g r := ⟨_,rfl⟩
 rw [← hcc] at cW hres ⊢
 have hcb : (c != 0) = true := by simpa using hres
 unfold resVal WinsO at cW
 clear hcc hres hR rg hg0 hr hs hok hsize
 unfold resVal
 go_enter Tryz.func21,Tryz.ntmps21
 go_upto_region 1 with (fail)
 obtain ⟨W,hW⟩ : ∃ W,W = w.alloc (Obj.cells #[.slice ma mn mc,.slice ba bn bc,.slice xa xn xc,.int .i64 r.factor,.string r.serial] 29) := ⟨_,rfl⟩
 have bW : Below w.heap.size w W := by rw [hW];exact Bel.al (Below.refl _ _) _
 have rb : Row W w.heap.size 29 [.slice ma mn mc,.slice ba bn bc,.slice xa xn xc,.int .i64 r.factor,.string r.serial] := by rw [hW];exact Row.new _ _ _
 rw [← hW]
 clear hW
 go_upto_region 2 with (first | (refine wpList_load_row rfl 29 _ rfl _ rfl _ _ _ _ rb Tryz.underlying29 rfl (by kernel_rfl) ?_) | (go_at_call 19;(refine (cW.out _ bW).mono ?_);rintro e w2 ⟨v2,rfl,hO2,hb2⟩;obtain ⟨oa,oc,rfl⟩ := OwnS.shape hO2) | fail)
 have b2 : Below w.heap.size w w2 := Bel.to bW hb2
 clear hb2 rb bW
 go_wp2
 go_ret2
 exact ⟨_,rfl,Rd.nil,b2⟩
set_option maxHeartbeats 8000000 in
set_option maxRecDepth 100000 in
theorem rcounts33_ok (yb : Nat) (C : Nat → Prop) (g : GameD) (av tv : Value) (ms : List AddonM) (es : List DoM) (mv bv xv : Value) (r : ResD) (w : World) (hR : RefR w C yb g av tv es) (rg : GameR w av tv ms g) (hg0 : gameE g = 0) (hr : ResR w mv bv xv r) (hs : r.serial.size ≤ 9223372036854775807) (hok : ∀ m ∈ es,lineE g m.d.l.1 m.d.l.2 = 0) (hsize : es.length ≤ 100000) (hres : resE g r = 0) :
  Calls Tryz.prog 21 #[.pointer (some ⟨yb,0,none⟩),resVal mv bv xv r] w (IntsO (cntGo g.tiers.length (winsX g r (es.map (·.d)))) 0 w) := by
 have cW := hide (fun X (hX : Below w.heap.size w X) => rwins33_any yb C g av tv ms es mv bv xv r X (hR.below hX) (rg.below hX) hg0 (hr.below hX) hs hok hsize)
 rw [if_neg (by simpa using hres),hres] at cW
 have htier := hide (fun x (hx : x ∈ winsX g r (es.map (·.d))) => winsX_tier x hx)
 have hll : (winsX g r (es.map (·.d))).length ≤ 100000 := by
  have h1 := wins_le g r (es.map (·.d))
  rw [List.length_map] at h1
  omega
 obtain ⟨l,hl⟩ : ∃ l,l = winsX g r (es.map (·.d)) := ⟨_,rfl⟩
 rw [← hl] at cW htier hll ⊢
 have htn := tiers_pos hg0
 obtain ⟨ta,tc,hte,-,-⟩ := rg.2.2.shape
 subst hte
 obtain ⟨ea,n0,ec,hrow,-,-,-⟩ := id hR
 have h21 := hide (fun X (hX : Below w.heap.size w X) => show X.cell? ⟨yb,21,none⟩ = some (.slice ta g.tiers.length tc) from ((Row.keep hrow hX).cell? 21).trans rfl)
 have hybl := hrow.lt
 obtain ⟨tn,htne⟩ : ∃ tn,tn = g.tiers.length := ⟨_,rfl⟩
 rw [← htne] at h21 htier htn ⊢
 have hn1 : (tn : Int) ≤ 1000 := by omega
 obtain ⟨ma,mn,mc,rfl⟩ := hr.1.shape
 obtain ⟨ba,bn,bc,rfl⟩ := hr.2.1.shape
 obtain ⟨xa,xn,xc,rfl⟩ := hr.2.2.shape
 unfold resVal WinsO at cW
 obtain ⟨n,hnn⟩ : ∃ n,n = l.length := ⟨_,rfl⟩
 have hn63 : (n : Int) ≤ 100000 := by omega
 obtain ⟨R,hRR⟩ : ∃ R,R = cntGo tn l := ⟨_,rfl⟩
 rw [← hRR]
 replace hRR := hide hRR
 clear hres hR rg hg0 hr hs hok hsize hl hll hrow htne htn
 unfold resVal
 go_enter Tryz.func21,Tryz.ntmps21
 go_upto_region 1 with (fail)
 obtain ⟨W,hW⟩ : ∃ W,W = w.alloc (Obj.cells #[.slice ma mn mc,.slice ba bn bc,.slice xa xn xc,.int .i64 r.factor,.string r.serial] 29) := ⟨_,rfl⟩
 have bW : Below w.heap.size w W := by rw [hW];exact Bel.al (Below.refl _ _) _
 have rb : Row W w.heap.size 29 [.slice ma mn mc,.slice ba bn bc,.slice xa xn xc,.int .i64 r.factor,.string r.serial] := by rw [hW];exact Row.new _ _ _
 rw [← hW]
 clear hW
 go_upto_region 2 with (first | (refine wpList_load_row rfl 29 _ rfl _ rfl _ _ _ _ rb Tryz.underlying29 rfl (by kernel_rfl) ?_) | (go_at_call 19;(refine (cW.out _ bW).mono ?_);rintro e w2 ⟨v2,rfl,hO2,hb2⟩;obtain ⟨oa,oc,rfl⟩ := OwnS.shape hO2) | fail)
 have b2 : Below w.heap.size w w2 := Bel.to bW hb2
 clear hb2 rb bW
 rw [← hnn] at hO2 ⊢
 have hll := hide (fun X (hX : Below w2.heap.size w2 X) => RdS.below (OwnWin.rd hO2) hX)
 replace hnn := hide hnn
 have x21 : w2.cell? ⟨yb,21,none⟩ = some (.slice ta tn tc) := h21.out w2 b2
 clear hO2
 go_wp2_with (first | (with_reducible refine wpList_make_row _ rfl _ _ 27 rfl 3 (.int .i64 0) 8 Tryz.underlying27 (by kernel_rfl) rfl .i64 .i64 _ _ tn tn rfl rfl rfl rfl (Nat.le_refl _) (by omega) (by omega) ?_) | fail)
 intro X rX bX sX
 have hz : List.replicate tn (Value.int .i64 0) = (cntGo tn []).map I64 := by simp [cntGo]
 rw [hz] at rX
 obtain ⟨cb,hcb⟩ : ∃ cb,cb = w2.heap.size := ⟨_,rfl⟩
 rw [← hcb] at rX ⊢
 have hcw : Hid (w2.heap.size ≤ cb) := by show _ ≤ _;omega
 have hws : Hid (w.heap.size ≤ w2.heap.size) := b2.size
 have hBX := bX
 have b2h := hide b2
 clear x21 hz hcb sX bX b2
 go_wp2
 go_loopg [9] n (fun gh t wr => ∃ (i : Nat),gh = n - i ∧ i ≤ n ∧ t = .int .i64 (i : Int) ∧ Hid (Row wr cb 3 ((cntGo tn (l.take i)).map I64)) ∧ Hid (Below w2.heap.size w2 wr))
 case atStart => exact ⟨0,rfl,Nat.zero_le _,rfl,rX,hBX⟩
 case round =>
  clear rX hBX
  obtain ⟨i,hgh,hi,rfl,hrow,hB⟩ := hrel
  replace hgh := hide hgh
  by_cases hlt : i < n
  ·have hlt2 := hide hlt
   have hil : i < l.length := by rw [← hnn.out];exact hlt
   obtain ⟨b,off,rfl,hbb,hcell⟩ := (hll.out wr hB.out).at_ hil
   obtain ⟨x,hx⟩ : ∃ x,x = l[i] := ⟨_,rfl⟩
   have hxi : l[i]? = some x := by rw [hx];exact List.getElem?_eq_getElem hil
   have htx := htier.out x (by rw [hx];exact List.getElem_mem _)
   have hsn : l.take (i + 1) = l.take i ++ [x] := by rw [List.take_succ_eq_append_getElem hil,hx]
   have hle : ∀ t,cntT t (l.take i) ≤ i := fun t => Nat.le_trans (cntT_le _ _) (by rw [List.length_take];omega)
   obtain ⟨L,hL⟩ : ∃ L,L = l.take i := ⟨_,rfl⟩
   rw [← hL] at hrow hsn hle
   have e2' : wr.cell? ⟨b,off + i * 3 + 2,none⟩ = some (.int .i64 x.tier) := hcell i x hxi 2 _ rfl
   clear hcell hx hxi hL
   obtain ⟨x1,x2,x3⟩ := x
   obtain ⟨t,rfl⟩ := Int.eq_ofNat_of_zero_le (show 0 ≤ x3 from htx.1)
   have ht : t < tn := by have h := htx.2;simp only at h;omega
   have i1 : (0 : Int) ≤ (i : Int) := by omega
   have i2 : (i : Int) < (n : Int) := by omega
   have hrow1 := hrow.out
   have hat := cntGo_at tn t L ht
   have c5' : wr.cell? ⟨cb,t,none⟩ = some (.int .i64 (cntT t L : Int)) := by rw [hrow1.cell?,List.getElem?_map,hat];rfl
   have f5 := hrow1.frozen t
   have f5d : wr.drew.frozen? ⟨cb,t,none⟩ = false := f5
   have hwr : IntKind.i64.wrap ((cntT t L : Int) + 1) = ((cntT t L + 1 : Nat) : Int) := by
    have := hle t
    rw [IntWalk.i64_in _ (by omega)]
    omega
   have hrow2 : Hid (Row (wr.drew.setCell ⟨cb,t,none⟩ (.int .i64 ((cntT t L + 1 : Nat) : Int))) cb 3 ((cntGo tn (l.take (i + 1))).map I64)) := by
    show Row _ _ _ _
    have h9 := Row.setV (hrow1.drew) t ((cntT t L + 1 : Nat) : Int)
    rw [hsn,cntGo_snoc,cntStep,if_pos ⟨by show (0 : Int) ≤ (t : Int);omega,by show (t : Int) < _;omega⟩]
    have e9 : (cntGo tn L).getD ((⟨x1,x2,(t : Int)⟩ : WinD).tier.toNat) 0 + 1 = ((cntT t L + 1 : Nat) : Int) := by
     show (cntGo tn L).getD ((t : Int).toNat) 0 + 1 = _
     rw [Int.toNat_natCast,List.getD_eq_getElem?_getD,hat]
     simp
    rw [e9]
    exact h9
   have hB2 : Hid (Below w2.heap.size w2 (wr.drew.setCell ⟨cb,t,none⟩ (.int .i64 ((cntT t L + 1 : Nat) : Int)))) := Bel.st (Below.drew hB.out) (by exact hcw.out) _
   obtain ⟨q,hq⟩ : ∃ q,q = cntT t L := ⟨_,rfl⟩
   rw [← hq] at c5' hwr hrow2 hB2
   have e2 : wr.drew.cell? ⟨b,off + i * 3 + 2,none⟩ = some (.int .i64 (t : Int)) := e2'
   have c5 : wr.drew.cell? ⟨cb,t,none⟩ = some (.int .i64 (q : Int)) := c5'
   have t1 : (0 : Int) ≤ (t : Int) := by omega
   have t2 : (t : Int) < (tn : Int) := by omega
   clear hq hat hsn hle hrow1 hrow hB htx e2' c5' f5
   go_upto_region 8 with (fail)
   refine till_begin 16 (fun X => X.cell? ⟨b,off + i * 3 + 2,none⟩ = some (.int .i64 (t : Int)) ∧ X.cell? ⟨cb,t,none⟩ = some (.int .i64 (q : Int))) (by kernel_rfl) (⟨e2,c5⟩) (fun hHeld => ?_)
   refine' till_pure (i := 0) (oi := _) (v := .slice (some ⟨cb,0,none⟩) tn tn) rfl (by kernel_rfl) (by kernel_rfl) (by kernel_rfl) (by kernel_rfl) (fun _ _ _ h => h) (Or.inl ⟨by first | (go_simp;done) | rfl,fun X _ => by go_simp⟩) hHeld ?_
   try simp only [Act.put,zsA,zsB,zsC]
   refine' till_pure (i := 1) (oi := _) (v := .slice (some ⟨b,off,none⟩) n oc) rfl (by kernel_rfl) (by kernel_rfl) (by kernel_rfl) (by kernel_rfl) (fun _ _ _ h => h) (Or.inl ⟨by first | (go_simp;done) | rfl,fun X _ => by go_simp⟩) hHeld ?_
   try simp only [Act.put,zsA,zsB,zsC]
   refine' till_pure (i := 2) (oi := _) (v := .int .i64 (i : Int)) rfl (by kernel_rfl) (by kernel_rfl) (by kernel_rfl) (by kernel_rfl) (fun _ _ _ h => h) (Or.inl ⟨by first | (go_simp;done) | rfl,fun X _ => by go_simp⟩) hHeld ?_
   try simp only [Act.put,zsA,zsB,zsC]
   refine' till_pure (i := 3) (oi := _) (v := .pointer (some ⟨b,off + i * 3,none⟩)) rfl (by kernel_rfl) (by kernel_rfl) (by kernel_rfl) (by kernel_rfl) (fun _ _ _ h => h) (Or.inl ⟨by first | (go_simp;done) | rfl,fun X _ => by go_simp⟩) hHeld ?_
   try simp only [Act.put,zsA,zsB,zsC]
   refine' till_pure (i := 4) (oi := _) (v := .pointer (some ⟨b,off + i * 3 + 2,none⟩)) rfl (by kernel_rfl) (by kernel_rfl) (by kernel_rfl) (by kernel_rfl) (fun _ _ _ h => h) (Or.inl ⟨by first | (go_simp;done) | rfl,fun X _ => by go_simp⟩) hHeld ?_
   try simp only [Act.put,zsA,zsB,zsC]
   refine' till_take (i := 5) (oi := _) (v := .int .i64 (t : Int)) rfl (by kernel_rfl) (by kernel_rfl) (by kernel_rfl) (by kernel_rfl) (fun _ _ _ h => h) (Or.inl ⟨by first | (go_simp;done) | rfl,fun X hX => by have h0 := hX.1;go_simp⟩) hHeld ?_
   try simp only [Act.put,zsA,zsB,zsC]
   refine' till_pure (i := 6) (oi := _) (v := .slice (some ⟨cb,0,none⟩) tn tn) rfl (by kernel_rfl) (by kernel_rfl) (by kernel_rfl) (by kernel_rfl) (fun _ _ _ h => h) (Or.inl ⟨by first | (go_simp;done) | rfl,fun X _ => by go_simp⟩) hHeld ?_
   try simp only [Act.put,zsA,zsB,zsC]
   refine' till_pure (i := 7) (oi := _) (v := .slice (some ⟨b,off,none⟩) n oc) rfl (by kernel_rfl) (by kernel_rfl) (by kernel_rfl) (by kernel_rfl) (fun _ _ _ h => h) (Or.inl ⟨by first | (go_simp;done) | rfl,fun X _ => by go_simp⟩) hHeld ?_
   try simp only [Act.put,zsA,zsB,zsC]
   refine' till_pure (i := 8) (oi := _) (v := .int .i64 (i : Int)) rfl (by kernel_rfl) (by kernel_rfl) (by kernel_rfl) (by kernel_rfl) (fun _ _ _ h => h) (Or.inl ⟨by first | (go_simp;done) | rfl,fun X _ => by go_simp⟩) hHeld ?_
   try simp only [Act.put,zsA,zsB,zsC]
   refine' till_pure (i := 9) (oi := _) (v := .pointer (some ⟨b,off + i * 3,none⟩)) rfl (by kernel_rfl) (by kernel_rfl) (by kernel_rfl) (by kernel_rfl) (fun _ _ _ h => h) (Or.inl ⟨by first | (go_simp;done) | rfl,fun X _ => by go_simp⟩) hHeld ?_
   try simp only [Act.put,zsA,zsB,zsC]
   refine' till_pure (i := 10) (oi := _) (v := .pointer (some ⟨b,off + i * 3 + 2,none⟩)) rfl (by kernel_rfl) (by kernel_rfl) (by kernel_rfl) (by kernel_rfl) (fun _ _ _ h => h) (Or.inl ⟨by first | (go_simp;done) | rfl,fun X _ => by go_simp⟩) hHeld ?_
   try simp only [Act.put,zsA,zsB,zsC]
   refine' till_take (i := 11) (oi := _) (v := .int .i64 (t : Int)) rfl (by kernel_rfl) (by kernel_rfl) (by kernel_rfl) (by kernel_rfl) (fun _ _ _ h => h) (Or.inl ⟨by first | (go_simp;done) | rfl,fun X hX => by have h0 := hX.1;go_simp⟩) hHeld ?_
   try simp only [Act.put,zsA,zsB,zsC]
   refine' till_pure (i := 12) (oi := _) (v := .pointer (some ⟨cb,t,none⟩)) rfl (by kernel_rfl) (by kernel_rfl) (by kernel_rfl) (by kernel_rfl) (fun _ _ _ h => h) (Or.inl ⟨by first | (go_simp;done) | rfl,fun X _ => by go_simp⟩) hHeld ?_
   try simp only [Act.put,zsA,zsB,zsC]
   refine' till_take (i := 13) (oi := _) (v := .int .i64 (q : Int)) rfl (by kernel_rfl) (by kernel_rfl) (by kernel_rfl) (by kernel_rfl) (fun _ _ _ h => h) (Or.inl ⟨by first | (go_simp;done) | rfl,fun X hX => by have h0 := hX.2;go_simp⟩) hHeld ?_
   try simp only [Act.put,zsA,zsB,zsC]
   refine' till_pure (i := 14) (oi := _) (v := .int .i64 ((q + 1 : Nat) : Int)) rfl (by kernel_rfl) (by kernel_rfl) (by kernel_rfl) (by kernel_rfl) (fun _ _ _ h => h) (Or.inl ⟨by first | (go_simp;done) | rfl,fun X _ => by go_simp⟩) hHeld ?_
   try simp only [Act.put,zsA,zsB,zsC]
   refine' till_pure (i := 15) (oi := _) (v := .pointer (some ⟨cb,t,none⟩)) rfl (by kernel_rfl) (by kernel_rfl) (by kernel_rfl) (by kernel_rfl) (fun _ _ _ h => h) (Or.inl ⟨by first | (go_simp;done) | rfl,fun X _ => by go_simp⟩) hHeld ?_
   try simp only [Act.put,zsA,zsB,zsC]
   refine till_ready (rs := [16]) (by kernel_rfl) (by simp) ?_
   refine TillReady.last (o := _) rfl (by kernel_rfl) (fun K hK => ?_) TillReady.nil
   go_simp
   refine hK.out _ _ ?_
   clear hK K
   try simp only [Act.put,zsA,zsB,zsC]
   refine till_done (by kernel_rfl) ?_ _
   go_simp
   clear e2 c5 hwr
   go_wp2
   go_roundg (n - (i + 1))
   case measure => have := hgh.out;have := hlt2.out;omega
   case rel => exact ⟨i + 1,rfl,by have := hlt2.out;omega,by (have := hlt2.out;go_num),hrow2,hB2⟩
  ·obtain rfl : n = i := by omega
   have hrd : Rd I64 wr (.slice (some ⟨cb,0,none⟩) tn tn) R := by
    have h9 := hrow.out
    rw [List.take_of_length_le (by rw [← hnn.out];exact Nat.le_refl _),← hRR.out] at h9
    exact Row.rdAll h9 (by rw [hRR.out,cntGo_len]) (Nat.le_refl _) (by omega)
   go_wp2
   go_ret2
   exact ⟨_,rfl,hrd,Bel.to b2h.out hB.out⟩
theorem rcounts33_any (yb : Nat) (C : Nat → Prop) (g : GameD) (av tv : Value) (ms : List AddonM) (es : List DoM) (mv bv xv : Value) (r : ResD) (w : World) (hR : RefR w C yb g av tv es) (rg : GameR w av tv ms g) (hg0 : gameE g = 0) (hr : ResR w mv bv xv r) (hs : r.serial.size ≤ 9223372036854775807) (hok : ∀ m ∈ es,lineE g m.d.l.1 m.d.l.2 = 0) (hsize : es.length ≤ 100000) :
  Calls Tryz.prog 21 #[.pointer (some ⟨yb,0,none⟩),resVal mv bv xv r] w (IntsO (if resE g r ≠ 0 then [] else cntGo g.tiers.length (winsX g r (es.map (·.d)))) (resE g r) w) := by
 by_cases h : resE g r = 0
 ·rw [if_neg (by simpa using h),h]
  exact rcounts33_ok yb C g av tv ms es mv bv xv r w hR rg hg0 hr hs hok hsize h
 ·rw [if_pos h]
  exact rcounts33_bad yb C g av tv ms es mv bv xv r w hR rg hg0 hr hs hok hsize h
end Go.Proofs.YtmocomkobbiflaaGreat
end

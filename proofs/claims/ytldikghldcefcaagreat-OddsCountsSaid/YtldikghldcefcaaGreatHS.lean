/- Lemmas, merged out of smaller texts (wip/tools/mergedce.py). No condition. -/
import Derived.Test.YtldikghldcefcaaGreatHR
import Derived.Test.YtldikghldcefcaaGreatHC
import Derived.Test.YtldikghldcefcaaGreatHB
import Derived.Test.YtldikghldcefcaaGreatHJ
import Derived.Test.YtldikghldcefcaaGreatHI
section
set_option linter.unusedVariables false
set_option linter.unusedSimpArgs false
namespace Go.Proofs.YtldikghldcefcaaGreat
open Go.RowKit
theorem hits35_b (u v : Value) (a b : List Int) (w : World) (ha : Rd I64 w u a) (hb : Rd I64 w v b) (la : a.length ≤ 1000) (lb : b.length ≤ 1000) :
  Calls Tryz.prog 58 #[u,v] w (IntB (hitsL a b : Nat) w) :=
 (hits35_any u v a b w ha hb la lb).mono fun e w' ⟨h1,h2⟩ => ⟨h1,by rw [h2];exact Below.refl _ _⟩
theorem firstGo_range (p : TierD → Bool) (l : List TierD) : ∀ k : Nat,firstGo p l k = -1 ∨ ∃ t,t < l.length ∧ firstGo p l k = ((k + t : Nat) : Int) := by
 induction l with
 | nil => intro k;exact .inl rfl
 | cons a l ih =>
  intro k
  unfold firstGo
  split
  ·exact .inr ⟨0,by simp,rfl⟩
  ·rcases ih (k + 1) with h | ⟨t,h1,h2⟩
   ·exact .inl h
   ·exact .inr ⟨t + 1,by simp;omega,by rw [h2,show k + 1 + t = k + (t + 1) by omega]⟩
theorem AllR.atS {w : World} {b off m cap n k c i : Nat} (h : AllR w (.slice (some ⟨b,off,none⟩) m cap) n k c) (hi : i < c) : ∃ xo xc,w.cell? ⟨b,off + i,none⟩ = some (.slice xo (unrankL n 1 i k).length xc) ∧ Rd I64 w (.slice xo (unrankL n 1 i k).length xc) (unrankL n 1 i k) := by
 obtain ⟨b',off',xo,xc,e,h1,h2⟩ := h.at_ hi
 injection e with e
 injection e with e1 e2
 subst e1 e2
 exact ⟨xo,xc,h1,h2⟩
theorem AllR.shapeS {w : World} {u : Value} {n k c : Nat} (h : AllR w u n k c) (hc : 0 < c) : ∃ b off cap,u = .slice (some ⟨b,off,none⟩) c cap := by
 obtain ⟨ao,cap,rfl⟩ := h.shape
 obtain ⟨b,off,xo,xc,rfl,-⟩ := h.at_ hc
 exact ⟨b,off,cap,rfl⟩
structure ChoS (w wr : World) (g : GameD) (av tv mv bv : Value) (cb tn : Nat) (se sb sm : Value) (d e bo bn of m cE cB cM : Nat) (F : Nat → Nat) : Prop where
 cnt : CntS w wr g av tv cb tn F
 line : LineAt wr (w.heap.size + 1) mv bv
 lt : w.heap.size + 1 < cb
 ext : AllR wr se d e cE
 bon : AllR wr sb bo bn cB
 man : AllR wr sm of m cM
section
variable {w wr wr' : World} {g : GameD} {av tv mv bv : Value} {cb tn : Nat} {se sb sm : Value} {d e bo bn of m cE cB cM : Nat} {F H : Nat → Nat}
theorem ChoS.keep (h : ChoS w wr g av tv mv bv cb tn se sb sm d e bo bn of m cE cB cM F) (hb : Below wr.heap.size wr wr') : ChoS w wr' g av tv mv bv cb tn se sb sm d e bo bn of m cE cB cM F :=
 ⟨h.cnt.keep hb,h.line.keep hb,h.lt,h.ext.below hb,h.bon.below hb,h.man.below hb⟩
theorem ChoS.congr (h : ChoS w wr g av tv mv bv cb tn se sb sm d e bo bn of m cE cB cM F) (eq : ∀ t,t < tn → F t = H t) : ChoS w wr g av tv mv bv cb tn se sb sm d e bo bn of m cE cB cM H := ⟨h.cnt.congr eq,h.line,h.lt,h.ext,h.bon,h.man⟩
theorem ChoS.bump (h : ChoS w wr g av tv mv bv cb tn se sb sm d e bo bn of m cE cB cM F) {t : Nat} (ht : t < tn) :
  ChoS w (wr.setCell ⟨cb,t,none⟩ (.int .u64 ((F t + 1 : Nat) : Int))) g av tv mv bv cb tn se sb sm d e bo bn of m cE cB cM (fun s => F s + if t = s then 1 else 0) := by
 have hl := h.lt
 have hc := h.cnt.cell ht
 exact ⟨h.cnt.bump ht,Row.far h.line (p := ⟨cb,t,none⟩) (by simp only [];omega) _,hl,h.ext.setNe hc _,h.bon.setNe hc _,h.man.setNe hc _⟩
end
theorem sB_le (g : GameD) (t : Int) (LB : List Int) (m x n : Nat) : sB g t LB m x n ≤ n := sumTo_le_one fun k _ => by split <;> omega
theorem sX_le (g : GameD) (t : Int) (L LB : List Int) (m : Nat) (R : List Int) (n : Nat) : sX g t L LB m R n ≤ n * choose g.bonusOf.toNat g.bonus.toNat := by
 unfold sX
 have h1 := sumTo_le (f := fun j => sB g t LB m (placesX R L (unrankL (g.of - g.main).toNat 1 j g.extra.toNat)) (choose g.bonusOf.toNat g.bonus.toNat)) (g := fun _ => choose g.bonusOf.toNat g.bonus.toNat) (n := n) fun k _ => sB_le _ _ _ _ _ _
 rw [sumTo_const] at h1
 exact h1
theorem sM_le (g : GameD) (t : Int) (L LB : List Int) (n : Nat) : sM g t L LB n ≤ n * (choose (g.of - g.main).toNat g.extra.toNat * choose g.bonusOf.toNat g.bonus.toNat) := by
 unfold sM
 have h1 := sumTo_le (f := fun i => sX g t L LB (hitsL L (unrankL g.of.toNat 1 i g.main.toNat)) (restL (unrankL g.of.toNat 1 i g.main.toNat) g.of.toNat) (choose (g.of - g.main).toNat g.extra.toNat)) (g := fun _ => choose (g.of - g.main).toNat g.extra.toNat * choose g.bonusOf.toNat g.bonus.toNat) (n := n) fun k _ => sX_le _ _ _ _ _ _ _
 rw [sumTo_const] at h1
 exact h1
theorem placesX_take {R L : List Int} {p : List Int} {i : Nat} (h : i < p.length) : placesX R L (p.take (i + 1)) = placesX R L (p.take i) + L.count (R.getD (p[i] - 1).toNat 0) := by
 unfold placesX
 rw [List.take_succ_eq_append_getElem h,List.map_append,List.sum_append]
 simp
set_option maxHeartbeats 32000000 in
set_option maxRecDepth 100000 in
theorem chosen35_any (g : GameD) (av tv : Value) (ms : List AddonM) (mv bv : Value) (L LB : List Int) (w : World) (rg : GameR w av tv ms g) (rl : LineR w mv bv L LB) (hF : ChoF g) (hme : g.main + g.extra ≤ g.of) (htn12 : g.tiers.length ≤ 12)
  (lL : L.length ≤ 1000) (lB : LB.length ≤ 1000)
  (hcM : choose g.of.toNat g.main.toNat ≤ 1500) (hcE : choose (g.of - g.main).toNat g.extra.toNat ≤ 1500) (hcB : choose g.bonusOf.toNat g.bonus.toNat ≤ 1500) :
  Calls Tryz.prog 24 #[gameVal g av tv,lineVal mv bv] w (TabC g.tiers.length (fun t => sM g (t : Nat) L LB (choose g.of.toNat g.main.toNat)) w) := by
 have a1 := hF.m1
 have a2 := hF.m2
 have a3 := hF.o1
 have a4 := hF.o2
 have a5 := hF.b1
 have a6 := hF.b2
 have a7 := hF.p1
 have a8 := hF.p2
 have a9 := hF.e1
 have a0 := hF.e2
 obtain ⟨of,hof⟩ : ∃ q : Nat,g.of = (q : Int) := ⟨g.of.toNat,by omega⟩
 obtain ⟨m,hm⟩ : ∃ q : Nat,g.main = (q : Int) := ⟨g.main.toNat,by omega⟩
 obtain ⟨e,he⟩ : ∃ q : Nat,g.extra = (q : Int) := ⟨g.extra.toNat,by omega⟩
 obtain ⟨bo,hbo⟩ : ∃ q : Nat,g.bonusOf = (q : Int) := ⟨g.bonusOf.toNat,by omega⟩
 obtain ⟨bn,hbn⟩ : ∃ q : Nat,g.bonus = (q : Int) := ⟨g.bonus.toNat,by omega⟩
 obtain ⟨d,hd⟩ : ∃ d : Nat,d = of - m := ⟨_,rfl⟩
 have n1 : g.of.toNat = of := by omega
 have n2 : g.main.toNat = m := by omega
 have n3 : g.extra.toNat = e := by omega
 have n4 : g.bonusOf.toNat = bo := by omega
 have n5 : g.bonus.toNat = bn := by omega
 have n6 : (g.of - g.main).toNat = d := by omega
 have hwd : IntKind.i64.wrap ((of : Int) - (m : Int)) = (d : Int) := by rw [IntKind.wrap_i64];omega
 have bB := hide (fun (t : Int) (mi xi n : Nat) => sB_le g t LB mi xi n)
 have bX := hide (fun (t : Int) (mi : Nat) (R : List Int) (n : Nat) => sX_le g t L LB mi R n)
 have bM := hide (fun (t : Int) (n : Nat) => sM_le g t L LB n)
 have uB : Hid (∀ t mi xi k,sB g t LB mi xi (k + 1) = sB g t LB mi xi k + if wonC g (mi : Nat) (xi : Nat) (hitsL LB (unrankL bo 1 k bn) : Nat) = t then 1 else 0) := by show ∀ _ _ _ _,_ = _;intro t mi xi k;rw [← n4,← n5];rfl
 obtain ⟨cM,hcM0⟩ : ∃ c,c = choose g.of.toNat g.main.toNat := ⟨_,rfl⟩
 obtain ⟨cE,hcE0⟩ : ∃ c,c = choose (g.of - g.main).toNat g.extra.toNat := ⟨_,rfl⟩
 obtain ⟨cB,hcB0⟩ : ∃ c,c = choose g.bonusOf.toNat g.bonus.toNat := ⟨_,rfl⟩
 have uX : Hid (∀ t mi R j,sX g t L LB mi R (j + 1) = sX g t L LB mi R j + sB g t LB mi (placesX R L (unrankL d 1 j e)) cB) := by show ∀ _ _ _ _,_ = _;intro t mi R j;rw [hcB0,← n6,← n3];rfl
 have uM : Hid (∀ t i,sM g t L LB (i + 1) = sM g t L LB i + sX g t L LB (hitsL L (unrankL of 1 i m)) (restL (unrankL of 1 i m) of) cE) := by show ∀ _ _,_ = _;intro t i;rw [hcE0,← n1,← n2];rfl
 rw [← hcB0,← hcE0] at bM
 rw [← hcB0] at bX
 rw [← hcM0] at hcM
 rw [← hcE0] at hcE
 rw [← hcB0] at hcB
 rw [← hcM0]
 rw [n1,n2] at hcM0
 rw [n6,n3] at hcE0
 rw [n4,n5] at hcB0
 have kE := hide (fun X => all35_any d e cE X (by omega) (by omega) hcE0.symm (by omega))
 have kB := hide (fun X => all35_any bo bn cB X (by omega) (by omega) hcB0.symm (by omega))
 have kM := hide (fun X => all35_any of m cM X (by omega) (by omega) hcM0.symm (by omega))
 have of80 : of ≤ 80 := by omega
 have d80 : d ≤ 80 := by omega
 have m10 : m ≤ 10 := by omega
 have e4 : e ≤ 4 := by omega
 have bn4 : bn ≤ 4 := by omega
 have mo : m ≤ of := by omega
 have cW' := hide (fun (m x b' : Int) X (hX : Below w.heap.size w X) => wins35_any g av tv ms m x b' X (rg.below hX))
 have cHm' := hide (fun (b : List Int) (u : Value) X (hX : Below w.heap.size w X) (h : Rd I64 X u b) (lb : b.length ≤ 1000) => hits35_b mv u L b X (rl.1.below hX) h lL lb)
 have cHx' := hide (fun (y : Int) (u : Value) X (hX : Below w.heap.size w X) (h : Rd I64 X u [y]) => hits35_b u mv [y] L X h (rl.1.below hX) (by simp) lL)
 have cHb' := hide (fun (b : List Int) (u : Value) X (hX : Below w.heap.size w X) (h : Rd I64 X u b) (lb : b.length ≤ 1000) => hits35_b bv u LB b X (rl.2.below hX) h lB lb)
 obtain ⟨aa,ac,rfl,hal,ham⟩ := rg.1.1.shape
 obtain ⟨ta,tc,rfl,htl,htm⟩ := rg.2.2.shape
 obtain ⟨an,han⟩ : ∃ an,an = ms.length := ⟨_,rfl⟩
 obtain ⟨tn,htn⟩ : ∃ tn,tn = g.tiers.length := ⟨_,rfl⟩
 obtain ⟨ma,ml,mc,rfl⟩ := rl.1.shape
 obtain ⟨na,nl,nc,rfl⟩ := rl.2.shape
 rw [← htn] at htn12 cW'
 rw [← han] at cW'
 rw [← han,← htn]
 have ht12 : (tn : Int) ≤ 12 := by omega
 have hM15 : (cM : Int) ≤ 1500 := by omega
 have hE15 : (cE : Int) ≤ 1500 := by omega
 have hB15 : (cB : Int) ≤ 1500 := by omega
 have hM9 := hide hcM
 have hE9 := hide hcE
 have hB9 := hide hcB
 have hM0 := hide (And.intro hcM0 (show 0 < cM by rw [hcM0];exact choose_pos (by omega)))
 have hE0 := hide (And.intro hcE0 (show 0 < cE by rw [hcE0];exact choose_pos (by omega)))
 have hB0 := hide (And.intro hcB0 (show 0 < cB by rw [hcB0];exact choose_pos (by omega)))
 have lL9 := hide lL
 have hd0 : Hid (m + d = of) := by show _ = _;omega
 replace hof := hide hof
 replace hm := hide hm
 replace he := hide he
 replace hbo := hide hbo
 replace hbn := hide hbn
 replace htn := hide htn
 clear rg rl hal ham htl htm han hF hme a1 a2 a3 a4 a5 a6 a7 a8 a9 a0 n1 n2 n3 n4 n5 n6 hcM hcE hcB hcM0 hcE0 hcB0 hd lL lB
 unfold gameVal at cW' ⊢
 unfold lineVal
 go_enter Tryz.func24,Tryz.ntmps24
 go_upto_region 1 with (fail)
 obtain ⟨W,hW⟩ : ∃ W,W = (w.alloc (Obj.cells #[.string g.name,.int .i64 g.kind,.int .i64 g.price,.int .i64 g.main,.int .i64 g.of,.int .i64 g.bonus,.int .i64 g.bonusOf,.int .i64 g.extra,.int .i64 g.draws,.int .i64 g.system,.int .i64 g.days,.int .i64 g.at_,.int .i64 g.close,.int .i64 g.cancel,.int .i64 g.expiry,.int .i64 g.pool,.int .i64 g.reserve,.int .i64 g.round,.int .i64 g.cap,.int .i64 g.rolls,(.slice aa an ac),(.slice ta tn tc)] 25)).alloc (Obj.cells #[.slice ma ml mc,.slice na nl nc] 58) := ⟨_,rfl⟩
 have bW : Below w.heap.size w W := by rw [hW];exact Bel.al (Bel.al (Below.refl _ _) _) _
 have r0 : GameAt W w.heap.size g (.slice aa an ac) (.slice ta tn tc) := by rw [hW];exact Row.alloc (Row.new _ _ _) _
 have r1 : LineAt W (w.heap.size + 1) (.slice ma ml mc) (.slice na nl nc) := by rw [hW];exact Row.at2 _ _ _ _
 have sW : w.heap.size + 1 < W.heap.size := by rw [hW];simp
 rw [← hW]
 clear hW
 have x21 := r0.tiers
 go_wp2_with (first | (with_reducible refine wpList_make_row _ rfl _ _ 45 rfl 47 (.int .u64 0) 8 Tryz.underlying45 (by kernel_rfl) rfl .i64 .i64 _ _ tn tn rfl rfl rfl rfl (Nat.le_refl _) (by omega) (by omega) ?_) | fail)
 intro X rX bX' sX'
 obtain ⟨cb,hcb⟩ : ∃ cb,cb = W.heap.size := ⟨_,rfl⟩
 rw [← hcb] at rX ⊢
 have hlt0 : Hid (w.heap.size + 1 < cb) := by show _ < _;omega
 have hS : CntS w X g (.slice aa an ac) (.slice ta tn tc) cb tn fun t => sM g (t : Nat) L LB 0 := by
  refine ⟨Bel.to bW bX',r0.keep bX',?_,by omega⟩
  have : (tabL tn fun t => sM g (t : Nat) L LB 0).map U6 = List.replicate tn (.int .u64 0) := by
   unfold tabL
   rw [List.map_map]
   apply List.ext_getElem?
   intro j
   by_cases hj : j < tn
   ·rw [List.getElem?_map,List.getElem?_range hj,List.getElem?_replicate,if_pos hj];rfl
   ·rw [List.getElem?_eq_none (by simp;omega),List.getElem?_eq_none (by simp;omega)]
  rw [this]
  exact rX
 have hL1 := r1.keep bX'
 clear x21 r0 r1 bW sW hcb bX' sX' rX
 have d3 := hS.game.main
 have d4 := hS.game.of
 have d5 := hS.game.bonus
 have d6 := hS.game.bonusOf
 have d7 := hS.game.extra
 rw [hm.out] at d3
 rw [hof.out] at d4
 rw [hbn.out] at d5
 rw [hbo.out] at d6
 rw [he.out] at d7
 go_upto_region 2 with (fail)
 refine till_begin 14 (fun X => X.cell? ⟨w.heap.size,4,none⟩ = some (.int .i64 (of : Int)) ∧ X.cell? ⟨w.heap.size,3,none⟩ = some (.int .i64 (m : Int)) ∧ X.cell? ⟨w.heap.size,7,none⟩ = some (.int .i64 (e : Int)) ∧ X.cell? ⟨w.heap.size,6,none⟩ = some (.int .i64 (bo : Int)) ∧ X.cell? ⟨w.heap.size,5,none⟩ = some (.int .i64 (bn : Int))) (by kernel_rfl) (⟨d4,d3,d7,d6,d5⟩) (fun hHeld => ?_)
 refine' till_pure (i := 0) (oi := _) (v := .pointer (some ⟨w.heap.size,4,none⟩)) rfl (by kernel_rfl) (by kernel_rfl) (by kernel_rfl) (by kernel_rfl) (fun _ _ _ h => h) (Or.inl ⟨by first | (go_simp;done) | rfl,fun X _ => by go_simp⟩) hHeld ?_
 try simp only [List.getElem_toArray,List.getElem_cons_zero,List.getElem_cons_succ,Act.put,zsA,zsB,zsC]
 refine' till_take (i := 1) (oi := _) (v := .int .i64 (of : Int)) rfl (by kernel_rfl) (by kernel_rfl) (by kernel_rfl) (by kernel_rfl) (fun _ _ _ h => h) (Or.inl ⟨by first | (go_simp;done) | rfl,fun X hX => by have h0 := hX.1;go_simp⟩) hHeld ?_
 try simp only [List.getElem_toArray,List.getElem_cons_zero,List.getElem_cons_succ,Act.put,zsA,zsB,zsC]
 refine' till_pure (i := 2) (oi := _) (v := .pointer (some ⟨w.heap.size,3,none⟩)) rfl (by kernel_rfl) (by kernel_rfl) (by kernel_rfl) (by kernel_rfl) (fun _ _ _ h => h) (Or.inl ⟨by first | (go_simp;done) | rfl,fun X _ => by go_simp⟩) hHeld ?_
 try simp only [List.getElem_toArray,List.getElem_cons_zero,List.getElem_cons_succ,Act.put,zsA,zsB,zsC]
 refine' till_take (i := 3) (oi := _) (v := .int .i64 (m : Int)) rfl (by kernel_rfl) (by kernel_rfl) (by kernel_rfl) (by kernel_rfl) (fun _ _ _ h => h) (Or.inl ⟨by first | (go_simp;done) | rfl,fun X hX => by have h0 := hX.2.1;go_simp⟩) hHeld ?_
 try simp only [List.getElem_toArray,List.getElem_cons_zero,List.getElem_cons_succ,Act.put,zsA,zsB,zsC]
 refine' till_pure (i := 4) (oi := _) (v := .int .i64 (d : Int)) rfl (by kernel_rfl) (by kernel_rfl) (by kernel_rfl) (by kernel_rfl) (fun _ _ _ h => h) (Or.inl ⟨by first | (go_simp;done) | rfl,fun X _ => by go_simp⟩) hHeld ?_
 try simp only [List.getElem_toArray,List.getElem_cons_zero,List.getElem_cons_succ,Act.put,zsA,zsB,zsC]
 refine' till_pure (i := 5) (oi := _) (v := .pointer (some ⟨w.heap.size,7,none⟩)) rfl (by kernel_rfl) (by kernel_rfl) (by kernel_rfl) (by kernel_rfl) (fun _ _ _ h => h) (Or.inl ⟨by first | (go_simp;done) | rfl,fun X _ => by go_simp⟩) hHeld ?_
 try simp only [List.getElem_toArray,List.getElem_cons_zero,List.getElem_cons_succ,Act.put,zsA,zsB,zsC]
 refine' till_take (i := 6) (oi := _) (v := .int .i64 (e : Int)) rfl (by kernel_rfl) (by kernel_rfl) (by kernel_rfl) (by kernel_rfl) (fun _ _ _ h => h) (Or.inl ⟨by first | (go_simp;done) | rfl,fun X hX => by have h0 := hX.2.2.1;go_simp⟩) hHeld ?_
 try simp only [List.getElem_toArray,List.getElem_cons_zero,List.getElem_cons_succ,Act.put,zsA,zsB,zsC]
 refine' till_pure (i := 8) (oi := _) (v := .pointer (some ⟨w.heap.size,6,none⟩)) rfl (by kernel_rfl) (by kernel_rfl) (by kernel_rfl) (by kernel_rfl) (fun _ _ _ h => h) (Or.inl ⟨by first | (go_simp;done) | rfl,fun X _ => by go_simp⟩) hHeld ?_
 try simp only [List.getElem_toArray,List.getElem_cons_zero,List.getElem_cons_succ,Act.put,zsA,zsB,zsC]
 refine' till_take (i := 9) (oi := _) (v := .int .i64 (bo : Int)) rfl (by kernel_rfl) (by kernel_rfl) (by kernel_rfl) (by kernel_rfl) (fun _ _ _ h => h) (Or.inl ⟨by first | (go_simp;done) | rfl,fun X hX => by have h0 := hX.2.2.2.1;go_simp⟩) hHeld ?_
 try simp only [List.getElem_toArray,List.getElem_cons_zero,List.getElem_cons_succ,Act.put,zsA,zsB,zsC]
 refine' till_pure (i := 10) (oi := _) (v := .pointer (some ⟨w.heap.size,5,none⟩)) rfl (by kernel_rfl) (by kernel_rfl) (by kernel_rfl) (by kernel_rfl) (fun _ _ _ h => h) (Or.inl ⟨by first | (go_simp;done) | rfl,fun X _ => by go_simp⟩) hHeld ?_
 try simp only [List.getElem_toArray,List.getElem_cons_zero,List.getElem_cons_succ,Act.put,zsA,zsB,zsC]
 refine' till_take (i := 11) (oi := _) (v := .int .i64 (bn : Int)) rfl (by kernel_rfl) (by kernel_rfl) (by kernel_rfl) (by kernel_rfl) (fun _ _ _ h => h) (Or.inl ⟨by first | (go_simp;done) | rfl,fun X hX => by have h0 := hX.2.2.2.2;go_simp⟩) hHeld ?_
 try simp only [List.getElem_toArray,List.getElem_cons_zero,List.getElem_cons_succ,Act.put,zsA,zsB,zsC]
 obtain ⟨Y0,hY0⟩ : ∃ Y,Y = X.drew := ⟨_,rfl⟩
 have hY1 : Below X.heap.size X Y0 := by rw [hY0];exact Below.drew (Below.refl _ _)
 replace hS := hS.keep hY1
 replace hL1 := hL1.keep hY1
 rw [← hY0] at hHeld ⊢
 clear hY0 hY1 d4 d3 d7 d6 d5
 refine till_ready (rs := [7]) (by kernel_rfl) (by simp) ?_
 refine TillReady.cons (o := _) rfl (fun K hK => ?_) TillReady.nil
 go_simp
 refine (kE.out Y0).mono ?_
 rintro e x1_7 ⟨ue,rfl,hE,bx1_7⟩
 obtain ⟨eb,eo,ec,rfl⟩ := hE.shapeS hE0.out.2
 replace hS := hS.keep bx1_7
 replace hL1 := hL1.keep bx1_7
 go_wp2_with fail
 refine hK.out _ _ ⟨Bel.cellOf bx1_7 hHeld.1,Bel.cellOf bx1_7 hHeld.2.1,Bel.cellOf bx1_7 hHeld.2.2.1,Bel.cellOf bx1_7 hHeld.2.2.2.1,Bel.cellOf bx1_7 hHeld.2.2.2.2⟩ (fun hHeld => ?_)
 clear hK K bx1_7
 try simp only [List.getElem_toArray,List.getElem_cons_zero,List.getElem_cons_succ,Act.put,zsA,zsB,zsC]
 refine till_ready (rs := [12]) (by kernel_rfl) (by simp) ?_
 refine TillReady.cons (o := _) rfl (fun K hK => ?_) TillReady.nil
 go_simp
 refine (kB.out x1_7).mono ?_
 rintro e x2_12 ⟨ub,rfl,hB,bx2_12⟩
 obtain ⟨bb,bof,bc,rfl⟩ := hB.shapeS hB0.out.2
 replace hS := hS.keep bx2_12
 replace hL1 := hL1.keep bx2_12
 replace hE := hE.below bx2_12
 go_wp2_with fail
 refine hK.out _ _ ⟨Bel.cellOf bx2_12 hHeld.1,Bel.cellOf bx2_12 hHeld.2.1,Bel.cellOf bx2_12 hHeld.2.2.1,Bel.cellOf bx2_12 hHeld.2.2.2.1,Bel.cellOf bx2_12 hHeld.2.2.2.2⟩ (fun hHeld => ?_)
 clear hK K bx2_12
 try simp only [List.getElem_toArray,List.getElem_cons_zero,List.getElem_cons_succ,Act.put,zsA,zsB,zsC]
 refine' till_pure (i := 13) (oi := _) (v := .slice (some ⟨eb,eo,none⟩) cE ec) rfl (by kernel_rfl) (by kernel_rfl) (by kernel_rfl) (by kernel_rfl) (fun _ _ _ h => h) (Or.inl ⟨by first | (go_simp;done) | rfl,fun X _ => by go_simp⟩) hHeld ?_
 try simp only [List.getElem_toArray,List.getElem_cons_zero,List.getElem_cons_succ,Act.put,zsA,zsB,zsC]
 refine till_ready (rs := [14]) (by kernel_rfl) (by simp) ?_
 refine TillReady.last (o := _) rfl (by kernel_rfl) (fun K hK => ?_) TillReady.nil
 go_simp
 refine hK.out _ _ ?_
 clear hK K
 try simp only [List.getElem_toArray,List.getElem_cons_zero,List.getElem_cons_succ,Act.put,zsA,zsB,zsC]
 refine till_done (by kernel_rfl) ?_ _
 go_simp
 obtain ⟨w2,hw2⟩ : ∃ X,X = x2_12 := ⟨_,rfl⟩
 rw [← hw2] at hS hL1 hE hB hHeld ⊢
 clear hw2
 clear hHeld
 have d3 := hS.game.main
 have d4 := hS.game.of
 rw [hm.out] at d3
 rw [hof.out] at d4
 go_wp2_with fail
 refine (kM.out _).mono ?_
 rintro e w3 ⟨um,rfl,hM,hb3⟩
 obtain ⟨sb,so,sc,rfl⟩ := hM.shapeS hM0.out.2
 have hC : (ChoS w w3 g (.slice aa an ac) (.slice ta tn tc) (.slice ma ml mc) (.slice na nl nc) cb tn (.slice (some ⟨eb,eo,none⟩) cE ec) (.slice (some ⟨bb,bof,none⟩) cB bc) (.slice (some ⟨sb,so,none⟩) cM sc) d e bo bn of m cE cB cM fun t => sM g (t : Nat) L LB 0) := ⟨hS.keep hb3,hL1.keep hb3,hlt0.out,hE.below hb3,hB.below hb3,hM⟩
 clear hS hL1 hE hB hM hb3 d3 d4 kE kB kM hlt0 hwd
 go_wp2
 go_loopg [43] cM (fun gh t wr => ∃ (i : Nat),gh = cM - i ∧ i ≤ cM ∧ t = .int .i64 (i : Int) ∧ (ChoS w wr g (.slice aa an ac) (.slice ta tn tc) (.slice ma ml mc) (.slice na nl nc) cb tn (.slice (some ⟨eb,eo,none⟩) cE ec) (.slice (some ⟨bb,bof,none⟩) cB bc) (.slice (some ⟨sb,so,none⟩) cM sc) d e bo bn of m cE cB cM fun t => sM g (t : Nat) L LB i))
 case atStart => exact ⟨0,rfl,Nat.zero_le _,rfl,hC⟩
 case round =>
  clear hC
  obtain ⟨i,hgi,hi,rfl,hC⟩ := hrel
  replace hgi := hide hgi
  by_cases hil : i < cM
  ·have hil2 := hide hil
   have i1 : (0 : Int) ≤ (i : Int) := by omega
   have i2 : (i : Int) < (cM : Int) := by omega
   obtain ⟨xo,xc,c0,hU⟩ := hC.man.atS hil
   have hUl : (unrankL of 1 i m).length = m := unrankL_len (by have := hM0.out.1;omega)
   have hUn := hide (unrankL_nodup (m := of) (w := 1) (r := i) (j := m) (by have := hM0.out.1;omega))
   have uM1 : Hid (∀ t,sM g t L LB (i + 1) = sM g t L LB i + sX g t L LB (hitsL L (unrankL of 1 i m)) (restL (unrankL of 1 i m) of) cE) := fun t => uM.out t i
   rw [hUl] at c0 hU
   obtain ⟨Ui,hUi⟩ : ∃ U,U = unrankL of 1 i m := ⟨_,rfl⟩
   rw [← hUi] at hU hUn hUl uM1
   clear hUi hil
   have hRl : Hid ((restL Ui of).length = d) := by
    have h := rest_count (n := of) (l := Ui) hUn.out.1 (fun x hx => by have := hUn.out.2 x hx;omega)
    have := hd0.out
    show _ = _
    omega
   replace hUl := hide hUl
   replace hUn := hide hUn
   have d4 := hC.cnt.game.of
   rw [hof.out] at d4
   have cWi := hide (fun X (hX : Rd I64 X (.slice xo m xc) Ui) => without35_any _ Ui of X hX (by have := hUl.out;omega) (by omega))
   go_wp2_with fail
   refine (cWi.out _ hU).mono ?_
   rintro e w4 ⟨ur,rfl,hR,hb4⟩
   replace hC := hC.keep hb4
   replace hU := Rd.below hU hb4
   obtain ⟨ra,rl,rc,rfl⟩ := hR.shape
   have cm := hC.line.main
   have cHm := hide (cHm'.out Ui (.slice xo m xc) w4 hC.cnt.bel hU (by have := hUl.out;omega))
   clear hb4 cWi c0 d4
   go_wp2_with fail
   refine cHm.out.mono ?_
   rintro e w5 ⟨rfl,hb5⟩
   replace hC := hC.keep hb5
   replace hU := Rd.below hU hb5
   replace hR := Rd.below hR hb5
   clear hb5 cHm cm
   obtain ⟨mi,hmi⟩ : ∃ q,q = hitsL L Ui := ⟨_,rfl⟩
   obtain ⟨Ri,hRi⟩ : ∃ q,q = restL Ui of := ⟨_,rfl⟩
   rw [← hRi] at hR hRl
   rw [← hmi,← hRi] at uM1
   rw [← hmi]
   have hC0 : (ChoS w w5 g (.slice aa an ac) (.slice ta tn tc) (.slice ma ml mc) (.slice na nl nc) cb tn (.slice (some ⟨eb,eo,none⟩) cE ec) (.slice (some ⟨bb,bof,none⟩) cB bc) (.slice (some ⟨sb,so,none⟩) cM sc) d e bo bn of m cE cB cM fun t => sM g (t : Nat) L LB i + sX g (t : Nat) L LB mi Ri 0) := hC
   clear hC hmi hRi hUn
   go_wp2
   go_loopg [57] cE (fun gh t wr => ∃ (j : Nat),gh = cE - j ∧ j ≤ cE ∧ t = .int .i64 (j : Int) ∧ (ChoS w wr g (.slice aa an ac) (.slice ta tn tc) (.slice ma ml mc) (.slice na nl nc) cb tn (.slice (some ⟨eb,eo,none⟩) cE ec) (.slice (some ⟨bb,bof,none⟩) cB bc) (.slice (some ⟨sb,so,none⟩) cM sc) d e bo bn of m cE cB cM fun t => sM g (t : Nat) L LB i + sX g (t : Nat) L LB mi Ri j) ∧ Rd I64 wr (.slice xo m xc) Ui ∧ Rd I64 wr (.slice ra rl rc) Ri)
   case atStart => exact ⟨0,rfl,Nat.zero_le _,rfl,hC0,hU,hR⟩
   case round =>
    clear hC0 hU hR
    obtain ⟨j,hgj,hj,rfl,hC,hU,hR⟩ := hrel
    replace hgj := hide hgj
    by_cases hjl : j < cE
    ·have hjl2 := hide hjl
     have j1 : (0 : Int) ≤ (j : Int) := by omega
     have j2 : (j : Int) < (cE : Int) := by omega
     obtain ⟨yo,yc,c1,hQ⟩ := hC.ext.atS hjl
     have hQl : (unrankL d 1 j e).length = e := unrankL_len (by have := hE0.out.1;omega)
     have hQn := hide (unrankL_nodup (m := d) (w := 1) (r := j) (j := e) (by have := hE0.out.1;omega)).2
     have uX1 : Hid (∀ t,sX g t L LB mi Ri (j + 1) = sX g t L LB mi Ri j + sB g t LB mi (placesX Ri L (unrankL d 1 j e)) cB) := fun t => uX.out t mi Ri j
     rw [hQl] at c1 hQ
     obtain ⟨Q,hQe⟩ : ∃ q,q = unrankL d 1 j e := ⟨_,rfl⟩
     rw [← hQe] at hQ hQn hQl uX1
     obtain ⟨xi,hxi⟩ : ∃ q,q = placesX Ri L Q := ⟨_,rfl⟩
     rw [← hxi] at uX1
     replace hQl := hide hQl
     replace hxi := hide hxi
     clear hQe hjl
     obtain ⟨wo,hwo⟩ : ∃ wo,wo = wr := ⟨_,rfl⟩
     subst hwo
     go_wp2
     clear c1
     go_loopg [14,63] e (fun gh x t wr => ∃ (k c : Nat),gh = e - k ∧ k ≤ e ∧ t = .int .i64 (k : Int) ∧ x = .int .i64 (c : Int) ∧ c ≤ k * 1000 ∧ Hid (c = placesX Ri L (Q.take k)) ∧ (ChoS w wr g (.slice aa an ac) (.slice ta tn tc) (.slice ma ml mc) (.slice na nl nc) cb tn (.slice (some ⟨eb,eo,none⟩) cE ec) (.slice (some ⟨bb,bof,none⟩) cB bc) (.slice (some ⟨sb,so,none⟩) cM sc) d e bo bn of m cE cB cM fun t => sM g (t : Nat) L LB i + sX g (t : Nat) L LB mi Ri j) ∧ Rd I64 wr (.slice xo m xc) Ui ∧ Rd I64 wr (.slice ra rl rc) Ri ∧ Rd I64 wr (.slice yo e yc) Q)
     case atStart => exact ⟨0,0,rfl,Nat.zero_le _,rfl,rfl,Nat.zero_le _,rfl,hC,hU,hR,hQ⟩
     case round =>
      clear hC hU hR hQ
      obtain ⟨k,c,hgk,hk,rfl,rfl,hck,hc,hC,hU,hR,hQ⟩ := hrel
      replace hgk := hide hgk
      by_cases hkl : k < e
      ·have hkl2 := hide hkl
       have k1 : (0 : Int) ≤ (k : Int) := by omega
       have k2 : (k : Int) < (e : Int) := by omega
       have hkQ : k < Q.length := by rw [hQl.out];exact hkl
       obtain ⟨b2,off2,rfl,-,hcell⟩ := hQ.at_ hkQ
       obtain ⟨v,hv,c2⟩ : ∃ v,v = Q[k] ∧ wr.cell? ⟨b2,off2 + k,none⟩ = some (.int .i64 v) := ⟨_,rfl,hcell _ hkQ⟩
       have hvr := hQn.out v (by rw [hv];exact List.getElem_mem _)
       obtain ⟨s,hs⟩ : ∃ s : Nat,v - 1 = (s : Int) := ⟨(v - 1).toNat,by omega⟩
       have hsR : s < Ri.length := by rw [hRl.out];omega
       have hvs : IntKind.i64.wrap (v - 1) = (s : Int) := by rw [IntKind.wrap_i64];omega
       have hrl := Rd.len_eq hR
       obtain ⟨rb,roff,rfl,-,hcell2⟩ := hR.at_ hsR
       obtain ⟨y,hy,cy⟩ : ∃ y,y = Ri[s] ∧ wr.cell? ⟨rb,roff + s,none⟩ = some (.int .i64 y) := ⟨_,rfl,hcell2 _ hsR⟩
       have hstep := placesX_take (R := Ri) (L := L) hkQ
       rw [← hv,← hc.out,show (v - 1).toNat = s by omega,List.getD_eq_getElem?_getD,List.getElem?_eq_getElem hsR,Option.getD_some,← hy] at hstep
       obtain ⟨h,hh⟩ : ∃ h,h = L.count y := ⟨_,rfl⟩
       have hy1 : hitsL [y] L = h := by rw [hh];simp [hitsL]
       rw [← hh] at hstep
       have hh9 : h ≤ 1000 := by rw [hh];exact Nat.le_trans List.count_le_length lL9.out
       have s1 : (0 : Int) ≤ (s : Int) := by omega
       have s2 : (s : Int) < (rl : Int) := by omega
       have hadd : IntKind.i64.wrap ((c : Int) + (h : Int)) = ((c + h : Nat) : Int) := by rw [IntKind.wrap_i64];omega
       have cm := hC.line.main
       replace hstep := hide hstep.symm
       have hck2 : c + h ≤ (k + 1) * 1000 := by omega
       replace hck2 := hide hck2
       clear hcell hcell2 hv hy hvr hs hh hkl hrl hsR hkQ
       have cHx : Hid (∀ (y' : Int) (u : Value) X,Below w.heap.size w X → Rd I64 X u [y] → Calls Tryz.prog 58 #[u,.slice ma ml mc] X (IntB (h : Nat) X)) := fun y' u X hX h1 => by have h9 := cHx'.out y u X hX h1;rw [hy1] at h9;exact h9
       clear hy1
       go_upto_region 15 with (fail)
       clear c2
       refine till_begin 11 (fun X => X.cell? ⟨rb,roff + s,none⟩ = some (.int .i64 y) ∧ X.cell? ⟨w.heap.size + 1,0,none⟩ = some ((.slice ma ml mc))) (by kernel_rfl) (⟨cy,cm⟩) (fun hHeld => ?_)
       refine' till_pure (i := 0) (oi := _) (v := .int .i64 ((c : Nat) : Int)) rfl (by kernel_rfl) (by kernel_rfl) (by kernel_rfl) (by kernel_rfl) (fun _ _ _ h => h) (Or.inl ⟨by first | (go_simp;done) | rfl,fun X _ => by go_simp⟩) hHeld ?_
       try simp only [List.getElem_toArray,List.getElem_cons_zero,List.getElem_cons_succ,Act.put,zsA,zsB,zsC]
       refine' till_pure (i := 1) (oi := _) (v := .slice (some ⟨rb,roff,none⟩) rl rc) rfl (by kernel_rfl) (by kernel_rfl) (by kernel_rfl) (by kernel_rfl) (fun _ _ _ h => h) (Or.inl ⟨by first | (go_simp;done) | rfl,fun X _ => by go_simp⟩) hHeld ?_
       try simp only [List.getElem_toArray,List.getElem_cons_zero,List.getElem_cons_succ,Act.put,zsA,zsB,zsC]
       refine' till_pure (i := 2) (oi := _) (v := .int .i64 v) rfl (by kernel_rfl) (by kernel_rfl) (by kernel_rfl) (by kernel_rfl) (fun _ _ _ h => h) (Or.inl ⟨by first | (go_simp;done) | rfl,fun X _ => by go_simp⟩) hHeld ?_
       try simp only [List.getElem_toArray,List.getElem_cons_zero,List.getElem_cons_succ,Act.put,zsA,zsB,zsC]
       refine' till_pure (i := 3) (oi := _) (v := .int .i64 ((s : Nat) : Int)) rfl (by kernel_rfl) (by kernel_rfl) (by kernel_rfl) (by kernel_rfl) (fun _ _ _ h => h) (Or.inl ⟨by first | (go_simp;done) | rfl,fun X _ => by go_simp⟩) hHeld ?_
       try simp only [List.getElem_toArray,List.getElem_cons_zero,List.getElem_cons_succ,Act.put,zsA,zsB,zsC]
       refine' till_pure (i := 4) (oi := _) (v := .pointer (some ⟨rb,roff + s,none⟩)) rfl (by kernel_rfl) (by kernel_rfl) (by kernel_rfl) (by kernel_rfl) (fun _ _ _ h => h) (Or.inl ⟨by first | (go_simp;done) | rfl,fun X _ => by go_simp⟩) hHeld ?_
       try simp only [List.getElem_toArray,List.getElem_cons_zero,List.getElem_cons_succ,Act.put,zsA,zsB,zsC]
       refine' till_take (i := 5) (oi := _) (v := .int .i64 y) rfl (by kernel_rfl) (by kernel_rfl) (by kernel_rfl) (by kernel_rfl) (fun _ _ _ h => h) (Or.inl ⟨by first | (go_simp;done) | rfl,fun X hX => by have h0 := hX.1;go_simp⟩) hHeld ?_
       try simp only [List.getElem_toArray,List.getElem_cons_zero,List.getElem_cons_succ,Act.put,zsA,zsB,zsC]
       refine' till_pure (i := 7) (oi := _) (v := .pointer (some ⟨w.heap.size + 1,0,none⟩)) rfl (by kernel_rfl) (by kernel_rfl) (by kernel_rfl) (by kernel_rfl) (fun _ _ _ h => h) (Or.inl ⟨by first | (go_simp;done) | rfl,fun X _ => by go_simp⟩) hHeld ?_
       try simp only [List.getElem_toArray,List.getElem_cons_zero,List.getElem_cons_succ,Act.put,zsA,zsB,zsC]
       refine' till_take (i := 8) (oi := _) (v := (.slice ma ml mc)) rfl (by kernel_rfl) (by kernel_rfl) (by kernel_rfl) (by kernel_rfl) (fun _ _ _ h => h) (Or.inl ⟨by first | (go_simp;done) | rfl,fun X hX => by have h0 := hX.2;go_simp⟩) hHeld ?_
       try simp only [List.getElem_toArray,List.getElem_cons_zero,List.getElem_cons_succ,Act.put,zsA,zsB,zsC]
       obtain ⟨Y0,hY0⟩ : ∃ Y,Y = wr.drew := ⟨_,rfl⟩
       have hY1 : Below wr.heap.size wr Y0 := by rw [hY0];exact Below.drew (Below.refl _ _)
       replace hC := hC.keep hY1
       replace hU := Rd.below hU hY1
       replace hR := Rd.below hR hY1
       replace hQ := Rd.below hQ hY1
       rw [← hY0] at hHeld ⊢
       clear hY0 hY1 cy cm
       refine till_ready (rs := [6]) (by kernel_rfl) (by simp) ?_
       refine TillReady.cons (o := _) rfl (fun K hK => ?_) TillReady.nil
       go_simp
       obtain ⟨x1_6,hx1_6⟩ : ∃ X,X = Y0.alloc (.cells #[.int .i64 y] 3) := ⟨_,rfl⟩
       have bx1_6 : Below Y0.heap.size Y0 x1_6 := by rw [hx1_6];exact Bel.al (Below.refl _ _) _
       have ky : Rd I64 x1_6 (.slice (some ⟨Y0.heap.size,0,none⟩) 1 1) [y] := by rw [hx1_6];exact Rd.new [y] rfl rfl (by omega) (by omega) rfl
       rw [← hx1_6]
       clear hx1_6
       replace hC := hC.keep bx1_6
       replace hU := Rd.below hU bx1_6
       replace hR := Rd.below hR bx1_6
       replace hQ := Rd.below hQ bx1_6
       refine hK.out _ _ ⟨Bel.cellOf bx1_6 hHeld.1,Bel.cellOf bx1_6 hHeld.2⟩ (fun hHeld => ?_)
       clear hK K bx1_6
       try simp only [List.getElem_toArray,List.getElem_cons_zero,List.getElem_cons_succ,Act.put,zsA,zsB,zsC]
       refine till_ready (rs := [9]) (by kernel_rfl) (by simp) ?_
       refine TillReady.cons (o := _) rfl (fun K hK => ?_) TillReady.nil
       go_simp
       refine (cHx.out y _ x1_6 hC.cnt.bel ky).mono ?_
       rintro e x2_9 ⟨rfl,bx2_9⟩
       replace hC := hC.keep bx2_9
       replace hU := Rd.below hU bx2_9
       replace hR := Rd.below hR bx2_9
       replace hQ := Rd.below hQ bx2_9
       clear ky
       go_wp2_with fail
       refine hK.out _ _ ⟨Bel.cellOf bx2_9 hHeld.1,Bel.cellOf bx2_9 hHeld.2⟩ (fun hHeld => ?_)
       clear hK K bx2_9
       try simp only [List.getElem_toArray,List.getElem_cons_zero,List.getElem_cons_succ,Act.put,zsA,zsB,zsC]
       refine' till_pure (i := 10) (oi := _) (v := .int .i64 ((c + h : Nat) : Int)) rfl (by kernel_rfl) (by kernel_rfl) (by kernel_rfl) (by kernel_rfl) (fun _ _ _ h => h) (Or.inl ⟨by first | (go_simp;done) | rfl,fun X _ => by go_simp⟩) hHeld ?_
       try simp only [List.getElem_toArray,List.getElem_cons_zero,List.getElem_cons_succ,Act.put,zsA,zsB,zsC]
       refine till_ready (rs := [11]) (by kernel_rfl) (by simp) ?_
       refine TillReady.last (o := _) rfl (by kernel_rfl) (fun K hK => ?_) TillReady.nil
       go_simp
       refine hK.out _ _ ?_
       clear hK K
       try simp only [List.getElem_toArray,List.getElem_cons_zero,List.getElem_cons_succ,Act.put,zsA,zsB,zsC]
       refine till_done (by kernel_rfl) ?_ _
       go_simp
       obtain ⟨w7,hw7⟩ : ∃ X,X = x2_9 := ⟨_,rfl⟩
       rw [← hw7] at hC hU hR hQ hHeld ⊢
       clear hw7
       clear hHeld
       go_wp2
       go_roundg (e - (k + 1))
       case measure => have := hgk.out;have := hkl2.out;omega
       case rel => exact ⟨k + 1,c + h,rfl,by have := hkl2.out;omega,by go_num,rfl,hck2.out,hstep.out,hC,hU,hR,hQ⟩
      ·have hke : k = e := by omega
       have hcx : c = xi := by rw [hc.out,hxi.out,hke,← hQl.out,List.take_length]
       have hc4 : Hid (c ≤ 4000) := by show _ ≤ _;omega
       subst hke
       subst hcx
       have hC0 : (ChoS w wr g (.slice aa an ac) (.slice ta tn tc) (.slice ma ml mc) (.slice na nl nc) cb tn (.slice (some ⟨eb,eo,none⟩) cE ec) (.slice (some ⟨bb,bof,none⟩) cB bc) (.slice (some ⟨sb,so,none⟩) cM sc) d k bo bn of m cE cB cM fun t => sM g (t : Nat) L LB i + sX g (t : Nat) L LB mi Ri j + sB g (t : Nat) LB mi c 0) := hC
       obtain ⟨wo,hwo⟩ : ∃ wo,wo = wr := ⟨_,rfl⟩
       subst hwo
       clear hC hc hck
       replace hgk := hide hgk
       clear hgk hk hkl
       go_wp2
       go_loopg [81] cB (fun gh t wr => ∃ (l : Nat),gh = cB - l ∧ l ≤ cB ∧ t = .int .i64 (l : Int) ∧ (ChoS w wr g (.slice aa an ac) (.slice ta tn tc) (.slice ma ml mc) (.slice na nl nc) cb tn (.slice (some ⟨eb,eo,none⟩) cE ec) (.slice (some ⟨bb,bof,none⟩) cB bc) (.slice (some ⟨sb,so,none⟩) cM sc) d k bo bn of m cE cB cM fun t => sM g (t : Nat) L LB i + sX g (t : Nat) L LB mi Ri j + sB g (t : Nat) LB mi c l) ∧ Rd I64 wr (.slice xo m xc) Ui ∧ Rd I64 wr (.slice ra rl rc) Ri ∧ Rd I64 wr (.slice yo k yc) Q)
       case atStart => exact ⟨0,rfl,Nat.zero_le _,rfl,hC0,hU,hR,hQ⟩
       case round =>
        clear hC0 hU hR hQ
        obtain ⟨l,hgl,hl,rfl,hC,hU,hR,hQ⟩ := hrel
        replace hgl := hide hgl
        by_cases hll : l < cB
        ·have hll2 := hide hll
         have l1 : (0 : Int) ≤ (l : Int) := by omega
         have l2 : (l : Int) < (cB : Int) := by omega
         obtain ⟨qa,qc,c3,hQb⟩ := hC.bon.atS hll
         have hQbl : (unrankL bo 1 l bn).length = bn := unrankL_len (by have := hB0.out.1;omega)
         have uB1 : Hid (∀ t,sB g t LB mi c (l + 1) = sB g t LB mi c l + if wonC g (mi : Nat) (c : Nat) (hitsL LB (unrankL bo 1 l bn) : Nat) = t then 1 else 0) := fun t => uB.out t mi c l
         rw [hQbl] at c3 hQb
         have cHb := hide (fun X hX h1 => cHb'.out (unrankL bo 1 l bn) (.slice qa bn qc) X hX h1 (by omega))
         obtain ⟨hb,hhb⟩ : ∃ q,q = hitsL LB (unrankL bo 1 l bn) := ⟨_,rfl⟩
         rw [← hhb] at uB1 cHb
         have cW := hide (fun X hX => cW'.out (mi : Nat) (c : Nat) (hb : Nat) X hX)
         obtain ⟨tw,htw⟩ : ∃ q,q = firstGo (hitT (mi : Nat) (c : Nat) (hb : Nat)) g.tiers 0 := ⟨_,rfl⟩
         have uB2 : Hid (∀ t,sB g t LB mi c (l + 1) = sB g t LB mi c l + if tw = t then 1 else 0) := by show ∀ _,_ = _;intro t;rw [htw];exact uB1.out t
         rw [← htw] at cW
         have hrng := firstGo_range (hitT (mi : Nat) (c : Nat) (hb : Nat)) g.tiers 0
         rw [← htw,← htn.out] at hrng
         obtain ⟨Qb,hQe⟩ : ∃ q,q = unrankL bo 1 l bn := ⟨_,rfl⟩
         rw [← hQe] at cHb hQb
         clear htw uB1 hhb hQe hQbl hll
         have hr0 : wr.rangeAt w.heap.size 0 [.string g.name,.int .i64 g.kind,.int .i64 g.price,.int .i64 g.main,.int .i64 g.of,.int .i64 g.bonus,.int .i64 g.bonusOf,.int .i64 g.extra,.int .i64 g.draws,.int .i64 g.system,.int .i64 g.days,.int .i64 g.at_,.int .i64 g.close,.int .i64 g.cancel,.int .i64 g.expiry,.int .i64 g.pool,.int .i64 g.reserve,.int .i64 g.round,.int .i64 g.cap,.int .i64 g.rolls,(.slice aa an ac),(.slice ta tn tc)] := fun j u hu => by rw [Nat.zero_add];exact (hC.cnt.game.cell? j).trans hu
         have cb9 := hC.line.bonus
         replace hrng := hide hrng
         go_upto_region 20 with (fail)
         clear c3
         refine till_begin 8 (fun X => X.rangeAt w.heap.size 0 [.string g.name,.int .i64 g.kind,.int .i64 g.price,.int .i64 g.main,.int .i64 g.of,.int .i64 g.bonus,.int .i64 g.bonusOf,.int .i64 g.extra,.int .i64 g.draws,.int .i64 g.system,.int .i64 g.days,.int .i64 g.at_,.int .i64 g.close,.int .i64 g.cancel,.int .i64 g.expiry,.int .i64 g.pool,.int .i64 g.reserve,.int .i64 g.round,.int .i64 g.cap,.int .i64 g.rolls,(.slice aa an ac),(.slice ta tn tc)] ∧ X.cell? ⟨w.heap.size + 1,1,none⟩ = some ((.slice na nl nc))) (by kernel_rfl) (⟨hr0,cb9⟩) (fun hHeld => ?_)
         refine' till_take (i := 0) (oi := _) (v := .agg #[.string g.name,.int .i64 g.kind,.int .i64 g.price,.int .i64 g.main,.int .i64 g.of,.int .i64 g.bonus,.int .i64 g.bonusOf,.int .i64 g.extra,.int .i64 g.draws,.int .i64 g.system,.int .i64 g.days,.int .i64 g.at_,.int .i64 g.close,.int .i64 g.cancel,.int .i64 g.expiry,.int .i64 g.pool,.int .i64 g.reserve,.int .i64 g.round,.int .i64 g.cap,.int .i64 g.rolls,(.slice aa an ac),(.slice ta tn tc)]) rfl (by kernel_rfl) (by kernel_rfl) (by kernel_rfl) (by kernel_rfl) (fun _ _ _ h => h) (by refine (yieldsIf_load_mid ?_ 25 (.tmp 2) rfl w.heap.size 0 ?_ [.string g.name,.int .i64 g.kind,.int .i64 g.price,.int .i64 g.main,.int .i64 g.of,.int .i64 g.bonus,.int .i64 g.bonusOf,.int .i64 g.extra,.int .i64 g.draws,.int .i64 g.system,.int .i64 g.days,.int .i64 g.at_,.int .i64 g.close,.int .i64 g.cancel,.int .i64 g.expiry,.int .i64 g.pool,.int .i64 g.reserve,.int .i64 g.round,.int .i64 g.cap,.int .i64 g.rolls,(.slice aa an ac),(.slice ta tn tc)] _ (fun X h => h.1) Tryz.underlying25 rfl (by kernel_rfl)) <;> go_simp) hHeld ?_
         try simp only [List.getElem_toArray,List.getElem_cons_zero,List.getElem_cons_succ,Act.put,zsA,zsB,zsC]
         refine' till_pure (i := 1) (oi := _) (v := .int .i64 ((mi : Nat) : Int)) rfl (by kernel_rfl) (by kernel_rfl) (by kernel_rfl) (by kernel_rfl) (fun _ _ _ h => h) (Or.inl ⟨by first | (go_simp;done) | rfl,fun X _ => by go_simp⟩) hHeld ?_
         try simp only [List.getElem_toArray,List.getElem_cons_zero,List.getElem_cons_succ,Act.put,zsA,zsB,zsC]
         refine' till_pure (i := 2) (oi := _) (v := .pointer (some ⟨w.heap.size + 1,1,none⟩)) rfl (by kernel_rfl) (by kernel_rfl) (by kernel_rfl) (by kernel_rfl) (fun _ _ _ h => h) (Or.inl ⟨by first | (go_simp;done) | rfl,fun X _ => by go_simp⟩) hHeld ?_
         try simp only [List.getElem_toArray,List.getElem_cons_zero,List.getElem_cons_succ,Act.put,zsA,zsB,zsC]
         refine' till_take (i := 3) (oi := _) (v := (.slice na nl nc)) rfl (by kernel_rfl) (by kernel_rfl) (by kernel_rfl) (by kernel_rfl) (fun _ _ _ h => h) (Or.inl ⟨by first | (go_simp;done) | rfl,fun X hX => by have h0 := hX.2;go_simp⟩) hHeld ?_
         try simp only [List.getElem_toArray,List.getElem_cons_zero,List.getElem_cons_succ,Act.put,zsA,zsB,zsC]
         refine' till_pure (i := 4) (oi := _) (v := .slice qa bn qc) rfl (by kernel_rfl) (by kernel_rfl) (by kernel_rfl) (by kernel_rfl) (fun _ _ _ h => h) (Or.inl ⟨by first | (go_simp;done) | rfl,fun X _ => by go_simp⟩) hHeld ?_
         try simp only [List.getElem_toArray,List.getElem_cons_zero,List.getElem_cons_succ,Act.put,zsA,zsB,zsC]
         refine' till_pure (i := 6) (oi := _) (v := .int .i64 ((c : Nat) : Int)) rfl (by kernel_rfl) (by kernel_rfl) (by kernel_rfl) (by kernel_rfl) (fun _ _ _ h => h) (Or.inl ⟨by first | (go_simp;done) | rfl,fun X _ => by go_simp⟩) hHeld ?_
         try simp only [List.getElem_toArray,List.getElem_cons_zero,List.getElem_cons_succ,Act.put,zsA,zsB,zsC]
         obtain ⟨Y0,hY0⟩ : ∃ Y,Y = wr.drew := ⟨_,rfl⟩
         have hY1 : Below wr.heap.size wr Y0 := by rw [hY0];exact Below.drew (Below.refl _ _)
         replace hC := hC.keep hY1
         replace hU := Rd.below hU hY1
         replace hR := Rd.below hR hY1
         replace hQ := Rd.below hQ hY1
         replace hQb := Rd.below hQb hY1
         rw [← hY0] at hHeld ⊢
         clear hY0 hY1 hr0 cb9
         refine till_ready (rs := [5]) (by kernel_rfl) (by simp) ?_
         refine TillReady.cons (o := _) rfl (fun K hK => ?_) TillReady.nil
         go_simp
         refine (cHb.out Y0 hC.cnt.bel hQb).mono ?_
         rintro e x1_5 ⟨rfl,bx1_5⟩
         replace hC := hC.keep bx1_5
         replace hU := Rd.below hU bx1_5
         replace hR := Rd.below hR bx1_5
         replace hQ := Rd.below hQ bx1_5
         replace hQb := Rd.below hQb bx1_5
         go_wp2_with fail
         refine hK.out _ _ ⟨range_keep bx1_5 hHeld.1,Bel.cellOf bx1_5 hHeld.2⟩ (fun hHeld => ?_)
         clear hK K bx1_5
         try simp only [List.getElem_toArray,List.getElem_cons_zero,List.getElem_cons_succ,Act.put,zsA,zsB,zsC]
         refine till_ready (rs := [7]) (by kernel_rfl) (by simp) ?_
         refine TillReady.cons (o := _) rfl (fun K hK => ?_) TillReady.nil
         go_simp
         refine (cW.out x1_5 hC.cnt.bel).mono ?_
         rintro e x2_7 ⟨rfl,bx2_7⟩
         replace hC := hC.keep bx2_7
         replace hU := Rd.below hU bx2_7
         replace hR := Rd.below hR bx2_7
         replace hQ := Rd.below hQ bx2_7
         replace hQb := Rd.below hQb bx2_7
         go_wp2_with fail
         refine hK.out _ _ ⟨range_keep bx2_7 hHeld.1,Bel.cellOf bx2_7 hHeld.2⟩ (fun hHeld => ?_)
         clear hK K bx2_7
         try simp only [List.getElem_toArray,List.getElem_cons_zero,List.getElem_cons_succ,Act.put,zsA,zsB,zsC]
         refine till_ready (rs := [8]) (by kernel_rfl) (by simp) ?_
         refine TillReady.last (o := _) rfl (by kernel_rfl) (fun K hK => ?_) TillReady.nil
         go_simp
         refine hK.out _ _ ?_
         clear hK K
         try simp only [List.getElem_toArray,List.getElem_cons_zero,List.getElem_cons_succ,Act.put,zsA,zsB,zsC]
         refine till_done (by kernel_rfl) ?_ _
         go_simp
         obtain ⟨w8,hw8⟩ : ∃ X,X = x2_7 := ⟨_,rfl⟩
         rw [← hw8] at hC hU hR hQ hQb hHeld ⊢
         clear hw8
         clear hHeld cW cHb hQb
         rcases hrng.out with hneg | ⟨tt,htt,hte⟩
         ·have hC2 : (ChoS w w8 g (.slice aa an ac) (.slice ta tn tc) (.slice ma ml mc) (.slice na nl nc) cb tn (.slice (some ⟨eb,eo,none⟩) cE ec) (.slice (some ⟨bb,bof,none⟩) cB bc) (.slice (some ⟨sb,so,none⟩) cM sc) d k bo bn of m cE cB cM fun t => sM g (t : Nat) L LB i + sX g (t : Nat) L LB mi Ri j + sB g (t : Nat) LB mi c (l + 1)) := hC.congr fun t ht => by rw [uB2.out (t : Nat),if_neg (by omega),Nat.add_zero]
          have g1 : decide (0 ≤ tw) = false := decide_eq_false (by omega)
          have g2 : ¬ 0 ≤ tw := by omega
          replace hneg := hide hneg
          clear hC uB2 hrng
          go_wp2
          go_roundg (cB - (l + 1))
          case measure => have := hgl.out;have := hll2.out;omega
          case rel => exact ⟨l + 1,rfl,by have := hll2.out;omega,by go_num,hC2,hU,hR,hQ⟩
         ·rw [Nat.zero_add] at hte
          have c5 := hC.cnt.cell htt
          have f5 := hC.cnt.row.frozen tt
          have hC1 := (hC.bump htt).congr (H := fun t => sM g (t : Nat) L LB i + sX g (t : Nat) L LB mi Ri j + sB g (t : Nat) LB mi c (l + 1)) (fun t ht => by
           show sM g (t : Nat) L LB i + sX g (t : Nat) L LB mi Ri j + sB g (t : Nat) LB mi c l + (if tt = t then 1 else 0) = _
           rw [uB2.out (t : Nat),hte]
           by_cases e : tt = t
           ·subst e;rw [if_pos rfl,if_pos rfl];omega
           ·rw [if_neg e,if_neg (by omega)];omega)
          have hbd : sM g (tt : Nat) L LB i + sX g (tt : Nat) L LB mi Ri j + sB g (tt : Nat) LB mi c l ≤ 10000000000 := by
           have h1 := bM.out (tt : Nat) i
           have h2 := bX.out (tt : Nat) mi Ri j
           have h3 := bB.out (tt : Nat) mi c l
           have h4 : cE * cB ≤ 1500 * 1500 := Nat.mul_le_mul hE9.out hB9.out
           have h5 : i * (cE * cB) ≤ 1500 * (1500 * 1500) := Nat.mul_le_mul (by have := hil2.out;have := hM9.out;omega) h4
           have h6 : j * cB ≤ 1500 * 1500 := Nat.mul_le_mul (by have := hjl2.out;have := hE9.out;omega) hB9.out
           have := hll2.out
           have := hB9.out
           omega
          have hUn := Rd.setNe hU c5 (fun _ h => by cases h) (.int .u64 ((sM g (tt : Nat) L LB i + sX g (tt : Nat) L LB mi Ri j + sB g (tt : Nat) LB mi c l + 1 : Nat) : Int))
          have hRn := Rd.setNe hR c5 (fun _ h => by cases h) (.int .u64 ((sM g (tt : Nat) L LB i + sX g (tt : Nat) L LB mi Ri j + sB g (tt : Nat) LB mi c l + 1 : Nat) : Int))
          have hQn2 := Rd.setNe hQ c5 (fun _ h => by cases h) (.int .u64 ((sM g (tt : Nat) L LB i + sX g (tt : Nat) L LB mi Ri j + sB g (tt : Nat) LB mi c l + 1 : Nat) : Int))
          obtain ⟨F0,hF0⟩ : ∃ F0,F0 = sM g (tt : Nat) L LB i + sX g (tt : Nat) L LB mi Ri j + sB g (tt : Nat) LB mi c l := ⟨_,rfl⟩
          rw [← hF0] at c5 hbd hC1 hUn hRn hQn2
          have hwr : IntKind.u64.wrap ((F0 : Int) + 1) = ((F0 + 1 : Nat) : Int) := by
           rw [IntKind.wrap_u64]
           omega
          subst hte
          have t1 : (0 : Int) ≤ (tt : Int) := by omega
          have t2 : (tt : Int) < (tn : Int) := by omega
          clear hF0 hC hU hR hQ uB2 hrng
          go_wp2
          go_roundg (cB - (l + 1))
          case measure => have := hgl.out;have := hll2.out;omega
          case rel => exact ⟨l + 1,rfl,by have := hll2.out;omega,by go_num,hC1,hUn,hRn,hQn2⟩
        ·obtain rfl : l = cB := by omega
         have hC2 : (ChoS w wr g (.slice aa an ac) (.slice ta tn tc) (.slice ma ml mc) (.slice na nl nc) cb tn (.slice (some ⟨eb,eo,none⟩) cE ec) (.slice (some ⟨bb,bof,none⟩) l bc) (.slice (some ⟨sb,so,none⟩) cM sc) d k bo bn of m cE l cM fun t => sM g (t : Nat) L LB i + sX g (t : Nat) L LB mi Ri (j + 1)) := hC.congr fun t ht => by rw [uX1.out (t : Nat)];omega
         clear hC
         go_wp2
         go_roundg (cE - (j + 1))
         case measure => have := hgj.out;have := hjl2.out;omega
         case rel => exact ⟨j + 1,rfl,by have := hjl2.out;omega,by go_num,hC2,hU,hR⟩
    ·obtain rfl : j = cE := by omega
     have hC2 : (ChoS w wr g (.slice aa an ac) (.slice ta tn tc) (.slice ma ml mc) (.slice na nl nc) cb tn (.slice (some ⟨eb,eo,none⟩) j ec) (.slice (some ⟨bb,bof,none⟩) cB bc) (.slice (some ⟨sb,so,none⟩) cM sc) d e bo bn of m j cB cM fun t => sM g (t : Nat) L LB (i + 1)) := hC.congr fun t ht => by rw [uM1.out (t : Nat)]
     clear hC
     go_wp2
     go_roundg (cM - (i + 1))
     case measure => have := hgi.out;have := hil2.out;omega
     case rel => exact ⟨i + 1,rfl,by have := hil2.out;omega,by go_num,hC2⟩
  ·obtain rfl : i = cM := by omega
   have hrd := hC.cnt.row
   have hbel := hC.cnt.bel
   clear hC
   go_wp2
   go_ret
   exact ⟨_,rfl,hrd,hbel⟩
theorem ruint_no (v : Value) (n : Nat) (w : World) (h : NV w v n) (hn : (limbs n).length ≤ 64) (h2 : 2 < (limbs n).length) :
  Calls Tryz.prog 20 #[.agg #[v]] w (UintR 0 false w) := by
 obtain ⟨ao,cap,rfl,hlc,hcm,hr⟩ := Rd.form h
 go_enter Tryz.func20,Tryz.ntmps20
 go_wp2_with fail
 refine (rvalid _ n _ (by exact h.alloc _) hn).mono ?_
 rintro e w1 ⟨rfl,hb1⟩
 have c1 : w1.cell? ⟨w.heap.size,0,none⟩ = some (.slice ao (limbs n).length cap) := Bel.cellOf hb1 (by go_simp)
 have hbw := Bel.one _ hb1
 have hi : (2 : Int) < ((limbs n).length : Int) := by omega
 clear hb1 h
 go_wp2
 go_ret2
 exact ⟨rfl,hbw⟩
set_option maxHeartbeats 4000000 in
theorem ruint_yes (v : Value) (n : Nat) (w : World) (h : NV w v n) (h2 : (limbs n).length ≤ 2) :
  Calls Tryz.prog 20 #[.agg #[v]] w (UintR n true w) := by
 have hv := hide (val_limbs n)
 obtain ⟨ao,cap,rfl,hlc,hcm,hr⟩ := Rd.form h
 have hs := small_limbs n
 go_enter Tryz.func20,Tryz.ntmps20
 go_wp2_with fail
 refine (rvalid _ n _ (by exact h.alloc _) (by omega)).mono ?_
 rintro e w1 ⟨rfl,hb1⟩
 have c1 : w1.cell? ⟨w.heap.size,0,none⟩ = some (.slice ao (limbs n).length cap) := Bel.cellOf hb1 (by go_simp)
 have hbw := Bel.one _ hb1
 clear hb1 h
 obtain ⟨l,hl⟩ : ∃ l,l = limbs n := ⟨_,rfl⟩
 rw [← hl] at hr hs h2 hlc c1 hv ⊢
 clear hl
 obtain ⟨m,hm⟩ : ∃ m,m = l.length := ⟨_,rfl⟩
 rw [← hm] at h2 c1 hr ⊢
 have hm2 : (m : Int) ≤ 2 := by omega
 have hm3 : ¬ (2 : Int) < (m : Int) := by omega
 have hd3 : decide ((2 : Int) < (m : Int)) = false := decide_eq_false hm3
 have hd4 : decide (2 < m) = false := decide_eq_false (by omega)
 replace hm := hide hm
 go_wp2
 go_loopg [4,5] (m + 1) (fun gh t x wr => ∃ (k V : Nat) (y : Int),gh = k + 1 ∧ k ≤ m ∧ x = .int .i64 y ∧ Hid (y = (k : Int) - 1) ∧ t = .int .u64 (V : Int) ∧ Hid (V = val (l.drop k)) ∧ wr = w1)
 case atStart => exact ⟨m,0,(m : Int) - 1,rfl,Nat.le_refl _,by first | rfl | go_num,rfl,rfl,by show _ = _;rw [hm.out,List.drop_length];rfl,rfl⟩
 case round =>
  obtain ⟨k,V,y,hg,hk,rfl,hy,rfl,hV,rfl⟩ := hrel
  replace hg := hide hg
  cases k with
  | zero =>
   have hy0 : y = -1 := by have := hy.out;omega
   subst hy0
   have hVn : V = n := by rw [hV.out,← hv.out];rfl
   subst hVn
   clear hV
   go_wp2
   go_ret2
   exact ⟨rfl,hbw⟩
  | succ j =>
   have hyj : y = (j : Int) := by have := hy.out;omega
   subst hyj
   have hjl : j < l.length := by rw [← hm.out];omega
   obtain ⟨b,off,rfl,hb,hc⟩ := hr.at_ hjl
   have d1 := Bel.cellOf hbw (hc j hjl)
   have hx := small_get hs hjl
   have hdr := val_drop l j hjl
   rw [← hV.out] at hdr
   have hVs : V < 4294967296 := by
    have h9 := val_lt (l := l.drop (j + 1)) (fun x hx => hs x (List.mem_of_mem_drop hx))
    rw [← hV.out,List.length_drop] at h9
    have e : l.length - (j + 1) = 0 ∨ l.length - (j + 1) = 1 := by have := hm.out;omega
    rcases e with e | e
    ·rw [e] at h9;simp at h9;omega
    ·rw [e] at h9;simpa using h9
   obtain ⟨X,hX⟩ : ∃ X,X = l[j] := ⟨_,rfl⟩
   rw [← hX] at hx hdr d1
   obtain ⟨B,hB⟩ : ∃ B,B = V * 4294967296 := ⟨_,rfl⟩
   have q1 : IntKind.u64.wrap ((V : Int) * 4294967296) = (B : Int) := by rw [IntKind.wrap_u64];omega
   have q2 : IntKind.u64.wrap ((B : Int) + (X : Int)) = ((B + X : Nat) : Int) := by rw [IntKind.wrap_u64];omega
   have hV2 : Hid (B + X = val (l.drop j)) := by show _ = _;rw [hdr];omega
   have j1 : (0 : Int) ≤ (j : Int) := by omega
   have j2 : (j : Int) < (m : Int) := by omega
   clear hB hdr hX hc hV hVs
   replace hjl := hide hjl
   go_wp2
   go_roundg (j + 1)
   case measure => have := hg.out;omega
   case rel => exact ⟨j,B + X,(j : Int) - 1,rfl,by omega,by first | rfl | go_num,rfl,rfl,hV2,rfl⟩
set_option maxHeartbeats 4000000 in
set_option maxRecDepth 100000 in
theorem must35_any (g : GameD) (av tv : Value) (ms : List AddonM) (w : World) (rg : GameR w av tv ms g) (he : gameE g = 0) :
  Calls Tryz.prog 21 #[gameVal g av tv] w (SomeNat (outN g) w) := by
 have cO := hide (fun X (hX : Below w.heap.size w X) => rOut_any g av tv ms X (rg.below hX))
 have ho : outV g = (outN g,0) := by unfold outV;rw [if_pos he]
 rw [ho] at cO
 obtain ⟨N,hN⟩ : ∃ N,N = outN g := ⟨_,rfl⟩
 rw [← hN] at cO ⊢
 obtain ⟨aa,ac,rfl,hal,ham⟩ := rg.1.1.shape
 obtain ⟨ta,tc,rfl,htl,htm⟩ := rg.2.2.shape
 obtain ⟨an,han⟩ : ∃ an,an = ms.length := ⟨_,rfl⟩
 obtain ⟨tn,htn⟩ : ∃ tn,tn = g.tiers.length := ⟨_,rfl⟩
 rw [← han,← htn] at cO ⊢
 clear rg hal ham htl htm han htn ho he hN
 unfold gameVal at cO ⊢
 go_enter Tryz.func21,Tryz.ntmps21
 go_upto_region 1 with (fail)
 obtain ⟨W,hW⟩ : ∃ W,W = (w.alloc (Obj.cells #[.string g.name,.int .i64 g.kind,.int .i64 g.price,.int .i64 g.main,.int .i64 g.of,.int .i64 g.bonus,.int .i64 g.bonusOf,.int .i64 g.extra,.int .i64 g.draws,.int .i64 g.system,.int .i64 g.days,.int .i64 g.at_,.int .i64 g.close,.int .i64 g.cancel,.int .i64 g.expiry,.int .i64 g.pool,.int .i64 g.reserve,.int .i64 g.round,.int .i64 g.cap,.int .i64 g.rolls,(.slice aa an ac),(.slice ta tn tc)] 25)).alloc (Obj.cells #[.slice none 0 0] 30) := ⟨_,rfl⟩
 have bel : Below w.heap.size w W := by rw [hW];exact Bel.al (Bel.al (Below.refl _ _) _) _
 have r0 : GameAt W w.heap.size g (.slice aa an ac) (.slice ta tn tc) := by rw [hW];exact Row.alloc (Row.new _ _ _) _
 have rR : Row W (w.heap.size + 1) 30 [.slice none 0 0] := by rw [hW];exact Row.at2 _ _ _ _
 rw [← hW]
 clear hW
 have c1 := hide (cO.out W bel)
 clear cO
 go_wp2_with (first | (refine wpList_load_row rfl 25 _ rfl _ rfl _ _ _ _ r0 Tryz.underlying25 rfl (by kernel_rfl) ?_) | fail)
 refine c1.out.mono ?_
 rintro e w1 ⟨u,rfl,hu,hb⟩
 obtain ⟨ua,ul,uc,rfl⟩ := Rd.shape hu
 replace bel := Bel.to bel hb
 replace rR := Row.keep rR hb
 clear hb c1 r0
 go_upto_region 2 with (fail)
 obtain ⟨q,hq⟩ : ∃ b,b = w1.heap.size := ⟨_,rfl⟩
 obtain ⟨w2,hw2⟩ : ∃ X,X = w1.alloc (.cells #[.slice ua ul uc] 30) := ⟨_,rfl⟩
 have b2 : Below w1.heap.size w1 w2 := by rw [hw2];exact Bel.al (Below.refl _ _) _
 have r2 : Row w2 q 30 [.slice ua ul uc] := by rw [hw2,hq];exact Row.newOf _ rfl
 rw [← hw2,← hq]
 clear hw2 hq
 replace bel := Bel.to bel b2
 replace rR := Row.keep rR b2
 replace hu := Rd.below hu b2
 clear b2
 have c2 := r2.cell? 0
 have cR := rR.cell? 0
 have fR := rR.frozen 0
 simp only [List.getElem?_cons_zero] at c2 cR
 have hf := Rd.setNe hu cR (fun _ h => by cases h) (.slice ua ul uc)
 have belf := Bel.st bel (p := ⟨w.heap.size + 1,0,none⟩) (by simp only [];omega) (.slice ua ul uc)
 go_wp2
 exact bodyPost_ret (v := .agg #[(.slice ua ul uc)]) (by simp [results,Tryz.results21,go_sem,cR]) rfl ⟨_,rfl,hf,belf⟩
end Go.Proofs.YtldikghldcefcaaGreat
end
section
open Go.RowKit
set_option linter.unusedVariables false
set_option linter.unusedSimpArgs false
namespace Go.Proofs.YtldikghldcefcaaGreat
theorem paired_win {g : GameD} (he : gameE g = 0) (hk : g.kind = 2) (t : Nat) : sP g t (g.of.toNat ^ g.main.toNat) (g.of.toNat ^ g.main.toNat) = winV g (t : Int) := by
 rw [winV_dig hk,paired_law he hk,Int.toNat_natCast]
theorem chosen_win {g : GameD} (he : gameE g = 0) (hk : g.kind ≠ 2) {r s : Nat} (hr : r < choose g.of.toNat g.main.toNat) (hs : s < choose g.bonusOf.toNat g.bonus.toNat) (t : Int) :
  sM g t (unrankL g.of.toNat 1 r g.main.toNat) (unrankL g.bonusOf.toNat 1 s g.bonus.toNat) (choose g.of.toNat g.main.toNat) = winV g t := by
 obtain ⟨a1,a2⟩ := unrankL_nodup (w := 1) hr
 obtain ⟨b1,b2⟩ := unrankL_nodup (w := 1) hs
 rw [winV_cho hk]
 exact chosen_law t (choF he hk) a1 (fun v hv => by have := a2 v hv;omega) (unrankL_len hr) b1 (fun v hv => by have := b2 v hv;omega) (unrankL_len hs)
theorem cho_small {g : GameD} (he : gameE g = 0) (hk : g.kind ≠ 2) (hN : outN g ≤ 1500) :
  choose g.of.toNat g.main.toNat ≤ 1500 ∧ choose (g.of - g.main).toNat g.extra.toNat ≤ 1500 ∧ choose g.bonusOf.toNat g.bonus.toNat ≤ 1500 ∧ 0 < choose g.of.toNat g.main.toNat ∧ 0 < choose (g.of - g.main).toNat g.extra.toNat ∧ 0 < choose g.bonusOf.toNat g.bonus.toNat := by
 have hF := choF he hk
 have a1 := hF.m1
 have a3 := hF.o1
 have a5 := hF.b1
 have a7 := hF.p1
 have a9 := hF.e1
 have h0 := outN_pos he
 rw [outN_cho hk] at hN h0
 have e1 : chP (g.of,g.main) = choose g.of.toNat g.main.toNat := by
  have := chP_nat g.of.toNat g.main.toNat
  rwa [show (g.of.toNat : Int) = g.of by omega,show (g.main.toNat : Int) = g.main by omega] at this
 have e2 : chP (g.of - g.main,g.extra) = choose (g.of - g.main).toNat g.extra.toNat := by
  have := chP_nat (g.of - g.main).toNat g.extra.toNat
  rwa [show ((g.of - g.main).toNat : Int) = g.of - g.main by omega,show (g.extra.toNat : Int) = g.extra by omega] at this
 have e3 : chP (g.bonusOf,g.bonus) = choose g.bonusOf.toNat g.bonus.toNat := by
  have := chP_nat g.bonusOf.toNat g.bonus.toNat
  rwa [show (g.bonusOf.toNat : Int) = g.bonusOf by omega,show (g.bonus.toNat : Int) = g.bonus by omega] at this
 rw [e1,e2,e3] at hN h0
 generalize choose g.of.toNat g.main.toNat = a at *
 generalize choose (g.of - g.main).toNat g.extra.toNat = b at *
 generalize choose g.bonusOf.toNat g.bonus.toNat = c at *
 have p1 : 0 < a := Nat.pos_of_mul_pos_right h0
 have p23 : 0 < b * c := Nat.pos_of_mul_pos_left h0
 have p2 : 0 < b := Nat.pos_of_mul_pos_right p23
 have p3 : 0 < c := Nat.pos_of_mul_pos_left p23
 have q1 : a ≤ a * (b * c) := Nat.le_mul_of_pos_right a p23
 have q23 : b * c ≤ a * (b * c) := Nat.le_mul_of_pos_left (b * c) p1
 have q2 : b ≤ b * c := Nat.le_mul_of_pos_right b p3
 have q3 : c ≤ b * c := Nat.le_mul_of_pos_left c p2
 exact ⟨by omega,by omega,by omega,p1,p2,p3⟩
set_option maxHeartbeats 16000000 in
set_option maxRecDepth 100000 in
theorem counts35_any (g : GameD) (av tv : Value) (ms : List AddonM) (a : Int) (w : World) (rg : GameR w av tv ms g) (ha0 : 0 ≤ a) (ha1 : a ≤ 65535) :
  Calls Tryz.prog 5 #[gameVal g av tv,.int .u16 a] w (BoolB true w) := by
 obtain ⟨ai,rfl⟩ := Int.eq_ofNat_of_zero_le ha0
 have cA := hide (fun X => awake35_any X)
 have cF := hide (fun X (hX : Below w.heap.size w X) => few35_any g av tv ms X (rg.below hX))
 have cK := hide (fun X (hX : Below w.heap.size w X) => rcheck_any g av tv ms X (rg.below hX))
 have dP := hide (fun (many : Nat) X (hX : Below w.heap.size w X) (he : gameE g = 0) (hk : g.kind = 2) (hm : many ≤ 40) => paired35_any g av tv ms many X (rg.below hX) he hk hm)
 have dM := hide (fun X (hX : Below w.heap.size w X) (he : gameE g = 0) => must35_any g av tv ms X (rg.below hX) he)
 have dC0 := hide (fun (he : gameE g = 0) (mv bv : Value) (L LB : List Int) X (hX : Below w.heap.size w X) (rl : LineR X mv bv L LB) (hF : ChoF g) (hme : g.main + g.extra ≤ g.of) (lL : L.length ≤ 1000) (lB : LB.length ≤ 1000)
  (h1 : choose g.of.toNat g.main.toNat ≤ 1500) (h2 : choose (g.of - g.main).toNat g.extra.toNat ≤ 1500) (h3 : choose g.bonusOf.toNat g.bonus.toNat ≤ 1500) =>
  chosen35_any g av tv ms mv bv L LB X (rg.below hX) rl hF hme (game_tiers he).1 lL lB h1 h2 h3)
 have dWo := hide (fun (t : Int) X (hX : Below w.heap.size w X) => oWin_val g av tv ms t X (rg.below hX))
 have hVle : Hid (gameE g = 0 → ∀ t,t < g.tiers.length → winV g (t : Int) ≤ outN g) := fun he t ht => winV_le he ht
 have htl12 : Hid (gameE g = 0 → g.tiers.length ≤ 12) := fun he => (game_tiers he).1
 have dWn : Hid (gameE g = 0 → ∀ (i : Nat) X,i < g.tiers.length → Below w.heap.size w X → Calls Tryz.prog 8 #[gameVal g av tv,.int .i64 (i : Int)] X (NatC (winV g (i : Int)) 0 X)) := fun he i X hi hX => by
  have hw := dWo.out (i : Int) X hX
  unfold WinO at hw
  rw [if_neg (by simpa using he),if_neg (by omega)] at hw
  exact hw
 clear dWo
 obtain ⟨aa,ac,rfl,hal,ham⟩ := rg.1.1.shape
 obtain ⟨ta,tc,rfl,htl,htm⟩ := rg.2.2.shape
 obtain ⟨an,han⟩ : ∃ an,an = ms.length := ⟨_,rfl⟩
 obtain ⟨tn,htn⟩ : ∃ tn,tn = g.tiers.length := ⟨_,rfl⟩
 rw [← han,← htn] at cF cK dP dM dC0 dWn ⊢
 rw [← htn] at hVle htl12
 clear rg hal ham htl htm han htn ha0
 unfold gameVal at cF cK dP dM dC0 dWn ⊢
 obtain ⟨C,hC⟩ : ∃ C,C = gameE g := ⟨_,rfl⟩
 rw [← hC] at cK
 replace hC := hide hC
 go_enter Tryz.func5,Tryz.ntmps5
 go_upto_region 1 with (fail)
 obtain ⟨W,hW⟩ : ∃ W,W = (w.alloc (Obj.cells #[.string g.name,.int .i64 g.kind,.int .i64 g.price,.int .i64 g.main,.int .i64 g.of,.int .i64 g.bonus,.int .i64 g.bonusOf,.int .i64 g.extra,.int .i64 g.draws,.int .i64 g.system,.int .i64 g.days,.int .i64 g.at_,.int .i64 g.close,.int .i64 g.cancel,.int .i64 g.expiry,.int .i64 g.pool,.int .i64 g.reserve,.int .i64 g.round,.int .i64 g.cap,.int .i64 g.rolls,(.slice aa an ac),(.slice ta tn tc)] 25)) := ⟨_,rfl⟩
 have bel : Below w.heap.size w W := by rw [hW];exact Bel.al (Below.refl _ _) _
 have r0 : GameAt W w.heap.size g (.slice aa an ac) (.slice ta tn tc) := by rw [hW];exact Row.new _ _ _
 rw [← hW]
 clear hW
 have cF2 := hide (cF.out W bel)
 clear cF
 go_wp2_with (first | (refine wpList_load_row rfl 25 _ rfl _ rfl _ _ _ _ r0 Tryz.underlying25 rfl (by kernel_rfl) ?_) | fail)
 refine cF2.out.mono ?_
 rintro e w1 ⟨bb,rfl,-,hb⟩
 replace bel := Bel.to bel hb
 replace r0 := r0.keep hb
 clear cF2 hb
 cases bb
 ·clear r0
  go_wp2_with fail
  refine (cA.out _).mono ?_
  rintro e wz ⟨rfl,hz⟩
  go_wp2
  go_ret
  exact ⟨rfl,Bel.to bel hz⟩
 ·have cK2 := hide (cK.out w1 bel)
  clear cK
  go_wp2_with (first | (refine wpList_load_row rfl 25 _ rfl _ rfl _ _ _ _ r0 Tryz.underlying25 rfl (by kernel_rfl) ?_) | fail)
  refine cK2.out.mono ?_
  rintro e w2 ⟨es,rfl,hb⟩
  replace bel := Bel.to bel hb
  replace r0 := r0.keep hb
  clear cK2 hb
  by_cases h0 : C = 0
  rotate_left
  ·have e1 : (C != 0) = true := by simpa using h0
   clear r0
   go_wp2_with fail
   refine (cA.out _).mono ?_
   rintro e wz ⟨rfl,hz⟩
   go_wp2
   go_ret
   exact ⟨rfl,Bel.to bel hz⟩
  have he : gameE g = 0 := by rw [← hC.out];exact h0
  subst h0
  clear hC
  have dC := hide (dC0.out he)
  have tn12 := htl12.out he
  have dWn2 := hide (dWn.out he)
  clear dC0 dWn htl12
  have dWn := dWn2
  clear dWn2
  have tn12i : (tn : Int) ≤ 12 := by omega
  by_cases hk : g.kind = 2
  ·skip
   have hkk : g.kind = 2 := hk
   have hmf := mat_facts (game_mat he)
   obtain ⟨q,hq⟩ : ∃ q : Nat,g.of = (q : Int) := ⟨g.of.toNat,by omega⟩
   obtain ⟨n,hn⟩ : ∃ n : Nat,g.main = (n : Int) := ⟨g.main.toNat,by omega⟩
   have hq10 : q ≤ 10 := by have := hmf.2.2.2.2.2.2.1 hk;omega
   have hq1 : 1 ≤ q := by have := hmf.2.2.2.2.2.2.1 hk;omega
   have hn10 : n ≤ 10 := by omega
   have e1 : g.of.toNat = q := by omega
   have e2 : g.main.toNat = n := by omega
   have ck := r0.kind
   have cm := r0.main
   have co := r0.of
   rw [hk] at ck
   rw [hn] at cm
   rw [hq] at co
   have hpl : Hid (∀ k,k ≤ n → q ^ k ≤ 10000000000) := fun k hk => by
    have h1 : q ^ k ≤ 10 ^ k := Nat.pow_le_pow_left hq10 k
    have h2 : 10 ^ k ≤ 10 ^ 10 := Nat.pow_le_pow_right (by omega) (by omega)
    omega
   have hvp := hide (fun (t : Nat) => paired_win he hk t)
   rw [e1,e2] at hvp
   have cP := hide (fun (many : Nat) X (hX : Below w.heap.size w X) (hm : many ≤ 40) => dP.out many X hX he hk hm)
   have ho : Hid (outN g = q ^ n * q ^ n) := by show _ = _;unfold outN;rw [if_pos hkk,e1,e2,show 2 * n = n + n by omega,Nat.pow_add]
   have hVo := hide (fun (t : Nat) (ht : t < tn) => hVle.out he t ht)
   clear hmf hk hkk dP e1 e2 dC dM hVle he
   replace hq := hide hq
   replace hn := hide hn
   have hn10i : (n : Int) ≤ 10 := by omega
   have hq10i : (q : Int) ≤ 10 := by omega
   go_wp2
   clear ck
   go_loopg [8,39] n (fun gh m t wr => ∃ (k M : Nat),gh = n - k ∧ k ≤ n ∧ t = .int .i64 (k : Int) ∧ m = .int .i64 (M : Int) ∧ Hid (M = q ^ k) ∧ wr = w2)
   case atStart => exact ⟨0,1,rfl,Nat.zero_le _,rfl,rfl,rfl,rfl⟩
   case round =>
    obtain ⟨k,M,hgk,hk,rfl,rfl,hM,rfl⟩ := hrel
    replace hgk := hide hgk
    by_cases hkl : k < n
    ·have hkl2 := hide hkl
     have k1 : (0 : Int) ≤ (k : Int) := by omega
     have k2 : (k : Int) < (n : Int) := by omega
     have hp2 := hpl.out (k + 1) (by omega)
     rw [Nat.pow_succ,← hM.out] at hp2
     have hM2 : Hid (M * q = q ^ (k + 1)) := by show _ = _;rw [Nat.pow_succ,← hM.out]
     have hwm : IntKind.i64.wrap ((M : Int) * (q : Int)) = ((M * q : Nat) : Int) := by
      rw [IntKind.wrap_i64]
      have : (M : Int) * (q : Int) = ((M * q : Nat) : Int) := by simp
      rw [this]
      omega
     clear hM hp2 hkl
     go_wp2
     go_roundg (n - (k + 1))
     case measure => have := hgk.out;have := hkl2.out;omega
     case rel => exact ⟨k + 1,M * q,rfl,by have := hkl2.out;omega,by go_num,by first | rfl | (rw [hwm]),hM2,rfl⟩
    ·obtain rfl : k = n := by omega
     by_cases h40 : M ≤ 40
     ·have g40 : ¬ (40 : Int) < (M : Int) := by omega
      have cP2 := hide (cP.out M _ bel h40)
      rw [show (fun t => sP g t M M) = fun t : Nat => winV g (t : Int) from funext fun t => by rw [hM.out];exact hvp.out t] at cP2
      have hVl : Hid (∀ t,t < tn → (fun t : Nat => winV g (t : Int)) t ≤ 1600) := fun t ht => by
       have h1 := hVo.out t ht
       have h2 := ho.out
       rw [← hM.out] at h2
       have h3 : M * M ≤ 40 * 40 := Nat.mul_le_mul h40 h40
       show winV g (t : Int) ≤ 1600
       omega
      obtain ⟨VV,hVV⟩ : ∃ VV : Nat → Nat,VV = fun t : Nat => winV g (t : Int) := ⟨_,rfl⟩
      rw [← hVV] at cP2 hVl
      have dW := hide (fun (i : Nat) X hi hX => by have h := dWn.out i X hi hX;rw [show winV g (i : Int) = VV i by rw [hVV]] at h;exact h)
      have hrest := hM
      clear hM hvp hVo ho hpl cP cm co h40 dWn hVV
      go_wp2_with (first | (refine wpList_load_row rfl 25 _ rfl _ rfl _ _ _ _ r0 Tryz.underlying25 rfl (by kernel_rfl) ?_) | fail)
      refine cP2.out.mono ?_
      rintro e w3 ⟨cb,rfl,hrow,hb⟩
      replace bel := Bel.to bel hb
      replace r0 := r0.keep hb
      clear hb cP2
      clear hrest
      go_wp2
      go_loopg [112] tn (fun gh t wr => ∃ (i : Nat),gh = tn - i ∧ i ≤ tn ∧ t = .int .i64 (i : Int) ∧ Below w.heap.size w wr ∧ GameAt wr w.heap.size g (.slice aa an ac) (.slice ta tn tc) ∧ Row wr cb 47 ((tabL tn VV).map U6))
      case atStart => exact ⟨0,rfl,Nat.zero_le _,rfl,bel,r0,hrow⟩
      case round =>
       clear bel r0 hrow
       obtain ⟨i,hgi,hi,rfl,bel,r0,hrow⟩ := hrel
       replace hgi := hide hgi
       by_cases hil : i < tn
       ·have hil2 := hide hil
        have i1 : (0 : Int) ≤ (i : Int) := by omega
        have i2 : (i : Int) < (tn : Int) := by omega
        have c5 : wr.cell? ⟨cb,i,none⟩ = some (.int .u64 (VV i : Nat)) := by rw [hrow.cell?,List.getElem?_map,tabL_at VV hil];rfl
        have hVb := hVl.out i hil
        have dW2 := hide (dW.out i wr hil bel)
        obtain ⟨V,hV⟩ : ∃ V,V = VV i := ⟨_,rfl⟩
        rw [← hV] at c5 hVb dW2
        have cS : Hid (∀ va vb X,NV X va V → NV X vb V → Calls Tryz.prog 12 #[.agg #[va],.agg #[vb]] X (BoolB true X)) := fun va vb X h1 h2 => by have h := same_nats va vb V V X h1 h2;rwa [decide_eq_true rfl] at h
        clear hV hil
        go_wp2_with (first | (refine wpList_load_row rfl 25 _ rfl _ rfl _ _ _ _ r0 Tryz.underlying25 rfl (by kernel_rfl) ?_) | fail)
        refine dW2.out.mono ?_
        rintro e x1 ⟨u,rfl,hu,hb⟩
        obtain ⟨ua,ul,uc,rfl⟩ := Rd.shape hu
        replace bel := Bel.to bel hb
        replace r0 := r0.keep hb
        replace hrow := Row.keep hrow hb
        replace c5 := Bel.cellOf hb c5
        clear hb dW2
        go_upto_region 28 with (fail)
        obtain ⟨q20,hq20⟩ : ∃ b,b = x1.heap.size := ⟨_,rfl⟩
        obtain ⟨y1,hy1⟩ : ∃ X,X = x1.alloc (.cells #[.slice ua ul uc] 30) := ⟨_,rfl⟩
        have by1 : Below x1.heap.size x1 y1 := by rw [hy1];exact Bel.al (Below.refl _ _) _
        have r20 : Row y1 q20 30 [.slice ua ul uc] := by rw [hy1,hq20];exact Row.newOf _ rfl
        rw [← hy1,← hq20]
        clear hy1 hq20
        replace bel := Bel.to bel by1
        replace r0 := r0.keep by1
        replace hrow := Row.keep hrow by1
        replace c5 := Bel.cellOf by1 c5
        replace hu := Rd.below hu by1
        have c20 := r20.cell? 0
        simp only [List.getElem?_cons_zero] at c20
        clear by1 r20
        refine wp_region_held_drew (S := fun X => X.cell? ⟨q20,0,none⟩ = some (.slice ua ul uc) ∧ X.cell? ⟨cb,i,none⟩ = some (.int .u64 (V : Int))) (by kernel_rfl) (⟨c20,c5⟩) (fun hHeld => ?_)
        refine' wpAnyH_take (i := 0) (oi := _) (v := .int .i64 0) rfl (by kernel_rfl) (by kernel_rfl) (by kernel_rfl) (fun _ _ _ h => h) (Or.inl ⟨by first | (go_simp;done) | rfl,fun X _ => by go_simp⟩) hHeld ?_
        try simp only [List.getElem_toArray,List.getElem_cons_zero,List.getElem_cons_succ,Act.put,zsA,zsB,zsC]
        refine' wpAnyH_take (i := 1) (oi := _) (v := .bool false) rfl (by kernel_rfl) (by kernel_rfl) (by kernel_rfl) (fun _ _ _ h => h) (Or.inl ⟨by first | (go_simp;done) | rfl,fun X _ => by go_simp⟩) hHeld ?_
        try simp only [List.getElem_toArray,List.getElem_cons_zero,List.getElem_cons_succ,Act.put,zsA,zsB,zsC]
        refine' wpAnyH_take (i := 2) (oi := _) (v := .bool false) rfl (by kernel_rfl) (by kernel_rfl) (by kernel_rfl) (fun _ _ _ h => h) (Or.inl ⟨by first | (go_simp;done) | rfl,fun X _ => by go_simp⟩) hHeld ?_
        try simp only [List.getElem_toArray,List.getElem_cons_zero,List.getElem_cons_succ,Act.put,zsA,zsB,zsC]
        refine' wpAnyH_take (i := 3) (oi := _) (v := .agg #[.slice ua ul uc]) rfl (by kernel_rfl) (by kernel_rfl) (by kernel_rfl) (fun _ _ _ h => h) (Or.inl ⟨by first | (go_simp;done) | rfl,fun X hX => by have h0 := hX.1;go_simp⟩) hHeld ?_
        try simp only [List.getElem_toArray,List.getElem_cons_zero,List.getElem_cons_succ,Act.put,zsA,zsB,zsC]
        refine' wpAnyH_take (i := 4) (oi := _) (v := .slice (some ⟨cb,0,none⟩) tn tn) rfl (by kernel_rfl) (by kernel_rfl) (by kernel_rfl) (fun _ _ _ h => h) (Or.inl ⟨by first | (go_simp;done) | rfl,fun X _ => by go_simp⟩) hHeld ?_
        try simp only [List.getElem_toArray,List.getElem_cons_zero,List.getElem_cons_succ,Act.put,zsA,zsB,zsC]
        refine' wpAnyH_take (i := 5) (oi := _) (v := .int .i64 (i : Int)) rfl (by kernel_rfl) (by kernel_rfl) (by kernel_rfl) (fun _ _ _ h => h) (Or.inl ⟨by first | (go_simp;done) | rfl,fun X _ => by go_simp⟩) hHeld ?_
        try simp only [List.getElem_toArray,List.getElem_cons_zero,List.getElem_cons_succ,Act.put,zsA,zsB,zsC]
        refine' wpAnyH_take (i := 6) (oi := _) (v := .pointer (some ⟨cb,i,none⟩)) rfl (by kernel_rfl) (by kernel_rfl) (by kernel_rfl) (fun _ _ _ h => h) (Or.inl ⟨by first | (go_simp;done) | rfl,fun X _ => by go_simp⟩) hHeld ?_
        try simp only [List.getElem_toArray,List.getElem_cons_zero,List.getElem_cons_succ,Act.put,zsA,zsB,zsC]
        refine' wpAnyH_take (i := 7) (oi := _) (v := .int .u64 (V : Int)) rfl (by kernel_rfl) (by kernel_rfl) (by kernel_rfl) (fun _ _ _ h => h) (Or.inl ⟨by first | (go_simp;done) | rfl,fun X hX => by have h0 := hX.2;go_simp⟩) hHeld ?_
        try simp only [List.getElem_toArray,List.getElem_cons_zero,List.getElem_cons_succ,Act.put,zsA,zsB,zsC]
        obtain ⟨Y0,hY0⟩ : ∃ Y,Y = y1.drew := ⟨_,rfl⟩
        have hY1 : Below y1.heap.size y1 Y0 := by rw [hY0];exact Below.drew (Below.refl _ _)
        replace bel := Bel.to bel hY1
        replace r0 := r0.keep hY1
        replace hrow := Row.keep hrow hY1
        replace hu := Rd.below hu hY1
        rw [← hY0] at hHeld ⊢
        clear hY0 hY1 c20 c5
        refine wpAnyH_ready (rs := [8]) (by kernel_rfl) (by simp) ?_
        refine AllReadyH.cons (o := _) rfl (fun K hK => ?_) AllReadyH.nil
        go_simp
        refine (ref_of V Y0 (by omega)).mono ?_
        rintro e x1_8 ⟨v,rfl,hv,bx1_8⟩
        obtain ⟨va,vl,vc,rfl⟩ := Rd.shape hv
        replace bel := Bel.to bel bx1_8
        replace r0 := r0.keep bx1_8
        replace hrow := Row.keep hrow bx1_8
        replace hu := Rd.below hu bx1_8
        go_wp2_with fail
        refine hK.out _ _ ⟨Bel.cellOf bx1_8 hHeld.1,Bel.cellOf bx1_8 hHeld.2⟩ (fun hHeld => ?_)
        clear hK K bx1_8
        try simp only [List.getElem_toArray,List.getElem_cons_zero,List.getElem_cons_succ,Act.put,zsA,zsB,zsC]
        refine wpAnyH_ready (rs := [9]) (by kernel_rfl) (by simp) ?_
        refine AllReadyH.cons (o := _) rfl (fun K hK => ?_) AllReadyH.nil
        go_simp
        refine (cS.out _ _ x1_8 hu hv).mono ?_
        rintro e x2_9 ⟨rfl,bx2_9⟩
        replace bel := Bel.to bel bx2_9
        replace r0 := r0.keep bx2_9
        replace hrow := Row.keep hrow bx2_9
        replace hu := Rd.below hu bx2_9
        replace hv := Rd.below hv bx2_9
        go_wp2_with fail
        refine hK.out _ _ ⟨Bel.cellOf bx2_9 hHeld.1,Bel.cellOf bx2_9 hHeld.2⟩ (fun hHeld => ?_)
        clear hK K bx2_9
        try simp only [List.getElem_toArray,List.getElem_cons_zero,List.getElem_cons_succ,Act.put,zsA,zsB,zsC]
        refine' wpAnyH_take (i := 10) (oi := _) (v := .bool false) rfl (by kernel_rfl) (by kernel_rfl) (by kernel_rfl) (fun _ _ _ h => h) (Or.inl ⟨by first | (go_simp;done) | rfl,fun X _ => by go_simp⟩) hHeld ?_
        try simp only [List.getElem_toArray,List.getElem_cons_zero,List.getElem_cons_succ,Act.put,zsA,zsB,zsC]
        refine' wpAnyH_take (i := 11) (oi := _) (v := .bool false) rfl (by kernel_rfl) (by kernel_rfl) (by kernel_rfl) (fun _ _ _ h => h) (Or.inl ⟨by first | (go_simp;done) | rfl,fun X _ => by go_simp⟩) hHeld ?_
        try simp only [List.getElem_toArray,List.getElem_cons_zero,List.getElem_cons_succ,Act.put,zsA,zsB,zsC]
        refine wpAnyH_done (by kernel_rfl) ?_ _
        go_simp
        obtain ⟨w9,hw9⟩ : ∃ X,X = x2_9 := ⟨_,rfl⟩
        rw [← hw9] at bel r0 hrow hHeld ⊢
        clear hw9
        clear hHeld hu hv cS hVb
        go_wp2
        go_roundg (tn - (i + 1))
        case measure => have := hgi.out;have := hil2.out;omega
        case rel => exact ⟨i + 1,rfl,by have := hil2.out;omega,by go_num,bel,r0,hrow⟩
       ·obtain rfl : i = tn := by omega
        clear hrow r0
        go_wp2_with fail
        refine (cA.out _).mono ?_
        rintro e wz ⟨rfl,hz⟩
        go_wp2
        go_ret
        exact ⟨rfl,Bel.to bel hz⟩
     ·have g40 : (40 : Int) < (M : Int) := by omega
      clear hM hvp hVo ho hpl cP cm co h40 r0 dWn
      go_wp2_with fail
      refine (cA.out _).mono ?_
      rintro e wz ⟨rfl,hz⟩
      go_wp2
      go_ret
      exact ⟨rfl,Bel.to bel hz⟩
  ·skip
   have hkb : (g.kind == 2) = false := by simpa using hk
   have hF := choF he hk
   have a1 := hF.m1
   have a2 := hF.m2
   have a3 := hF.o1
   have a4 := hF.o2
   have a5 := hF.b1
   have a6 := hF.b2
   have a7 := hF.p1
   have a8 := hF.p2
   have a9 := hF.e1
   have a0 := hF.e2
   have hme := mat_sum (game_mat he) hk
   obtain ⟨of,hof⟩ : ∃ q : Nat,g.of = (q : Int) := ⟨g.of.toNat,by omega⟩
   obtain ⟨m,hm⟩ : ∃ q : Nat,g.main = (q : Int) := ⟨g.main.toNat,by omega⟩
   obtain ⟨bo,hbo⟩ : ∃ q : Nat,g.bonusOf = (q : Int) := ⟨g.bonusOf.toNat,by omega⟩
   obtain ⟨bn,hbn⟩ : ∃ q : Nat,g.bonus = (q : Int) := ⟨g.bonus.toNat,by omega⟩
   have n1 : g.of.toNat = of := by omega
   have n2 : g.main.toNat = m := by omega
   have n4 : g.bonusOf.toNat = bo := by omega
   have n5 : g.bonus.toNat = bn := by omega
   have ck := r0.kind
   have cm := r0.main
   have co := r0.of
   have cbn := r0.bonus
   have cbo := r0.bonusOf
   rw [hm] at cm
   rw [hof] at co
   rw [hbn] at cbn
   rw [hbo] at cbo
   have cU := hide (dM.out w2 bel he)
   clear dP
   go_wp2_with (first | (refine wpList_load_row rfl 25 _ rfl _ rfl _ _ _ _ r0 Tryz.underlying25 rfl (by kernel_rfl) ?_) | fail)
   refine cU.out.mono ?_
   rintro e w3 ⟨u,rfl,hu,hb⟩
   replace bel := Bel.to bel hb
   replace r0 := r0.keep hb
   replace cm := Bel.cellOf hb cm
   replace co := Bel.cellOf hb co
   replace cbn := Bel.cellOf hb cbn
   replace cbo := Bel.cellOf hb cbo
   clear hb cU ck
   have hten := outN_ten he
   by_cases hN : outN g ≤ 1500
   rotate_left
   ·by_cases hl : (limbs (outN g)).length ≤ 2
    ·have cY := hide (ruint_yes u _ w3 hu hl)
     obtain ⟨N,hNN⟩ : ∃ N,N = outN g := ⟨_,rfl⟩
     rw [← hNN] at cY hN
     have hNi : (1500 : Int) < (N : Int) := by omega
     have hd : decide ((1500 : Int) < (N : Int)) = true := decide_eq_true hNi
     have hd2 : decide (1500 < N) = true := decide_eq_true (by omega)
     clear hNN hN hu hten hl
     go_wp2_with fail
     refine cY.out.mono ?_
     rintro e w4 ⟨rfl,hb⟩
     replace bel := Bel.to bel hb
     clear hb cY cm co cbn cbo r0
     go_wp2_with fail
     refine (cA.out _).mono ?_
     rintro e wz ⟨rfl,hz⟩
     go_wp2
     go_ret
     exact ⟨rfl,Bel.to bel hz⟩
    ·have cY := hide (ruint_no u _ w3 hu (by omega) (by omega))
     clear hN hu hten hl
     go_wp2_with fail
     refine cY.out.mono ?_
     rintro e w4 ⟨rfl,hb⟩
     replace bel := Bel.to bel hb
     clear hb cY cm co cbn cbo r0
     go_wp2_with fail
     refine (cA.out _).mono ?_
     rintro e wz ⟨rfl,hz⟩
     go_wp2
     go_ret
     exact ⟨rfl,Bel.to bel hz⟩
   have hl2 : (limbs (outN g)).length ≤ 2 := by
    have h1 : (limbs 1500).length ≤ 2 := length_limbs_lt.1 (by decide)
    exact Nat.le_trans (limbs_len_le hN) h1
   have cY := hide (ruint_yes u _ w3 hu hl2)
   obtain ⟨s1,s2,s3,s4,s5,s6⟩ := cho_small he hk hN
   have hvw := hide (fun (r s : Nat) (hr : r < choose g.of.toNat g.main.toNat) (hs : s < choose g.bonusOf.toNat g.bonus.toNat) (t : Nat) => chosen_win he hk hr hs (t : Int))
   have dC2 := hide (fun (mv bv : Value) (L LB : List Int) X (hX : Below w.heap.size w X) (rl : LineR X mv bv L LB) (lL : L.length ≤ 1000) (lB : LB.length ≤ 1000) => dC.out mv bv L LB X hX rl hF hme lL lB s1 s2 s3)
   rw [n1,n2,n4,n5] at hvw
   rw [n1,n2] at dC2 s1 s4
   rw [n4,n5] at s3 s6
   obtain ⟨cM,hcM⟩ : ∃ c,c = choose of m := ⟨_,rfl⟩
   obtain ⟨cB,hcB⟩ : ∃ c,c = choose bo bn := ⟨_,rfl⟩
   have k1 := countV_ok of m (by omega) (by rw [← hcM] at s1 ⊢;omega) (of : Int) (m : Int) rfl rfl
   have k2 := countV_ok bo bn (by omega) (by rw [← hcB] at s3 ⊢;omega) (bo : Int) (bn : Int) rfl rfl
   have hr1 : ai % cM < cM := Nat.mod_lt _ (by rw [hcM];omega)
   have hr2 : ai % cB < cB := Nat.mod_lt _ (by rw [hcB];omega)
   have cX1 := hide (fun X => runrankF_ok (ai % cM) of m X (by omega) (by omega) (by rw [← hcM] at s1 ⊢;omega) (by rw [← hcM];exact hr1))
   have cX2 := hide (fun X => runrankF_ok (ai % cB) bo bn X (by omega) (by omega) (by rw [← hcB] at s3 ⊢;omega) (by rw [← hcB];exact hr2))
   have hL1 : (unrankL of 1 (ai % cM) m).length = m := unrankL_len (by rw [← hcM];exact hr1)
   have hL2 : (unrankL bo 1 (ai % cB) bn).length = bn := unrankL_len (by rw [← hcB];exact hr2)
   rw [← hcM] at k1 s1 s4 dC2
   rw [← hcB] at k2 s3 s6
   have hvw2 := hide (fun (t : Nat) => hvw.out (ai % cM) (ai % cB) (by rw [← hcM];exact hr1) (by rw [← hcB];exact hr2) t)
   rw [← hcM] at hvw2
   obtain ⟨L,hL⟩ : ∃ L,L = unrankL of 1 (ai % cM) m := ⟨_,rfl⟩
   obtain ⟨LB,hLB⟩ : ∃ L,L = unrankL bo 1 (ai % cB) bn := ⟨_,rfl⟩
   rw [← hL] at cX1 hL1 hvw2
   rw [← hLB] at cX2 hL2 hvw2
   rw [show ((ai % cM : Nat) : Int) = (ai : Int) % (cM : Int) by simp] at cX1
   rw [show ((ai % cB : Nat) : Int) = (ai : Int) % (cB : Int) by simp] at cX2
   have hVl : Hid (∀ t,t < tn → (fun t : Nat => winV g (t : Int)) t ≤ 1600) := fun t ht => by
    have h1 := hVle.out he t ht
    show winV g (t : Int) ≤ 1600
    omega
   have dC3 := hide (fun (mv bv : Value) X hX rl => dC2.out mv bv L LB X hX rl (by omega) (by omega))
   rw [show (fun t : Nat => sM g (t : Nat) L LB cM) = fun t : Nat => winV g (t : Int) from funext fun t => hvw2.out t] at dC3
   obtain ⟨VV,hVV⟩ : ∃ VV : Nat → Nat,VV = fun t : Nat => winV g (t : Int) := ⟨_,rfl⟩
   rw [← hVV] at dC3 hVl
   have dW := hide (fun (i : Nat) X hi hX => by have h := dWn.out i X hi hX;rw [show winV g (i : Int) = VV i by rw [hVV]] at h;exact h)
   obtain ⟨N,hNN⟩ : ∃ N,N = outN g := ⟨_,rfl⟩
   rw [← hNN] at cY hN
   have hNi : (N : Int) ≤ 1500 := by omega
   have hNi2 : ¬ (1500 : Int) < (N : Int) := by omega
   have hd : decide ((1500 : Int) < (N : Int)) = false := decide_eq_false hNi2
   have hd2 : decide (1500 < N) = false := decide_eq_false (by omega)
   have q0 : ((cM : Int) == 0) = false := by simp;omega
   have q1 : (cM : Int) ≠ 0 := by omega
   have q2 : ((cB : Int) == 0) = false := by simp;omega
   have q3 : (cB : Int) ≠ 0 := by omega
   have qt1 : (ai : Int).tmod (cM : Int) = (ai : Int) % (cM : Int) := Int.tmod_eq_emod_of_nonneg (by omega)
   have qt2 : (ai : Int).tmod (cB : Int) = (ai : Int) % (cB : Int) := Int.tmod_eq_emod_of_nonneg (by omega)
   have qn1 : ¬ cM = 0 := by omega
   have qn2 : ¬ cB = 0 := by omega
   have hwa : IntKind.i64.wrap (ai : Int) = (ai : Int) := by rw [IntKind.wrap_i64];omega
   have mM : Hid (L.length = m) := hL1
   have mB : Hid (LB.length = bn) := hL2
   replace k1 := hide k1
   replace k2 := hide k2
   have ai0 : (0 : Int) ≤ (ai : Int) := by omega
   clear hNN hN hu hten hl2 hvw hvw2 dC2 hr1 hr2 hL hLB hL1 hL2 hcM hcB s1 s2 s3 s4 s5 s6 hF hme a1 a2 a3 a4 a5 a6 a7 a8 a9 a0 n1 n2 n4 n5 hVV dWn dC dM hVle
   replace hof := hide hof
   replace hm := hide hm
   replace hbo := hide hbo
   replace hbn := hide hbn
   replace hk := hide hk
   replace he := hide he
   go_wp2_with fail
   refine cY.out.mono ?_
   rintro e w4 ⟨rfl,hb⟩
   replace bel := Bel.to bel hb
   replace r0 := r0.keep hb
   replace cm := Bel.cellOf hb cm
   replace co := Bel.cellOf hb co
   replace cbn := Bel.cellOf hb cbn
   replace cbo := Bel.cellOf hb cbo
   clear hb cY
   go_wp2_with fail
   refine (rcount_any _ _ _).mono ?_
   rintro e w5 ⟨rfl,rfl⟩
   rw [k1.out]
   go_wp2_with fail
   refine (rcount_any _ _ _).mono ?_
   rintro e w6 ⟨rfl,rfl⟩
   rw [k2.out]
   go_upto_region 21 with (fail)
   refine till_begin 13 (fun X => X.cell? ⟨w.heap.size,4,none⟩ = some (.int .i64 (of : Int)) ∧ X.cell? ⟨w.heap.size,3,none⟩ = some (.int .i64 (m : Int))) (by kernel_rfl) (⟨co,cm⟩) (fun hHeld => ?_)
   refine' till_pure (i := 0) (oi := _) (v := .int .u16 (ai : Int)) rfl (by kernel_rfl) (by kernel_rfl) (by kernel_rfl) (by kernel_rfl) (fun _ _ _ h => h) (Or.inl ⟨by first | (go_simp;done) | rfl,fun X _ => by go_simp⟩) hHeld ?_
   try simp only [List.getElem_toArray,List.getElem_cons_zero,List.getElem_cons_succ,Act.put,zsA,zsB,zsC]
   refine' till_pure (i := 1) (oi := _) (v := .int .i64 (ai : Int)) rfl (by kernel_rfl) (by kernel_rfl) (by kernel_rfl) (by kernel_rfl) (fun _ _ _ h => h) (Or.inl ⟨by first | (go_simp;done) | rfl,fun X _ => by go_simp⟩) hHeld ?_
   try simp only [List.getElem_toArray,List.getElem_cons_zero,List.getElem_cons_succ,Act.put,zsA,zsB,zsC]
   refine' till_pure (i := 2) (oi := _) (v := .int .i64 (cM : Int)) rfl (by kernel_rfl) (by kernel_rfl) (by kernel_rfl) (by kernel_rfl) (fun _ _ _ h => h) (Or.inl ⟨by first | (go_simp;done) | rfl,fun X _ => by go_simp⟩) hHeld ?_
   try simp only [List.getElem_toArray,List.getElem_cons_zero,List.getElem_cons_succ,Act.put,zsA,zsB,zsC]
   refine' till_pure (i := 3) (oi := _) (v := .int .i64 ((ai : Int) % (cM : Int))) rfl (by kernel_rfl) (by kernel_rfl) (by kernel_rfl) (by kernel_rfl) (fun _ _ _ h => h) (Or.inl ⟨by first | (go_simp;done) | rfl,fun X _ => by go_simp⟩) hHeld ?_
   try simp only [List.getElem_toArray,List.getElem_cons_zero,List.getElem_cons_succ,Act.put,zsA,zsB,zsC]
   refine' till_pure (i := 4) (oi := _) (v := .pointer (some ⟨w.heap.size,4,none⟩)) rfl (by kernel_rfl) (by kernel_rfl) (by kernel_rfl) (by kernel_rfl) (fun _ _ _ h => h) (Or.inl ⟨by first | (go_simp;done) | rfl,fun X _ => by go_simp⟩) hHeld ?_
   try simp only [List.getElem_toArray,List.getElem_cons_zero,List.getElem_cons_succ,Act.put,zsA,zsB,zsC]
   refine' till_take (i := 5) (oi := _) (v := .int .i64 (of : Int)) rfl (by kernel_rfl) (by kernel_rfl) (by kernel_rfl) (by kernel_rfl) (fun _ _ _ h => h) (Or.inl ⟨by first | (go_simp;done) | rfl,fun X hX => by have h0 := hX.1;go_simp⟩) hHeld ?_
   try simp only [List.getElem_toArray,List.getElem_cons_zero,List.getElem_cons_succ,Act.put,zsA,zsB,zsC]
   refine' till_pure (i := 6) (oi := _) (v := .pointer (some ⟨w.heap.size,3,none⟩)) rfl (by kernel_rfl) (by kernel_rfl) (by kernel_rfl) (by kernel_rfl) (fun _ _ _ h => h) (Or.inl ⟨by first | (go_simp;done) | rfl,fun X _ => by go_simp⟩) hHeld ?_
   try simp only [List.getElem_toArray,List.getElem_cons_zero,List.getElem_cons_succ,Act.put,zsA,zsB,zsC]
   refine' till_take (i := 7) (oi := _) (v := .int .i64 (m : Int)) rfl (by kernel_rfl) (by kernel_rfl) (by kernel_rfl) (by kernel_rfl) (fun _ _ _ h => h) (Or.inl ⟨by first | (go_simp;done) | rfl,fun X hX => by have h0 := hX.2;go_simp⟩) hHeld ?_
   try simp only [List.getElem_toArray,List.getElem_cons_zero,List.getElem_cons_succ,Act.put,zsA,zsB,zsC]
   obtain ⟨Y0,hY0⟩ : ∃ Y,Y = w4.drew := ⟨_,rfl⟩
   have hY1 : Below w4.heap.size w4 Y0 := by rw [hY0];exact Below.drew (Below.refl _ _)
   replace bel := Bel.to bel hY1
   replace r0 := r0.keep hY1
   replace cbn := Bel.cellOf hY1 cbn
   replace cbo := Bel.cellOf hY1 cbo
   rw [← hY0] at hHeld ⊢
   clear hY0 hY1 co cm
   refine till_ready (rs := [8]) (by kernel_rfl) (by simp) ?_
   refine TillReady.cons (o := _) rfl (fun K hK => ?_) TillReady.nil
   go_simp
   refine (cX1.out Y0).mono ?_
   rintro e x1_8 ⟨p,rfl,hp,-,bx1_8⟩
   obtain ⟨pa,pc,rfl,-,-,-⟩ := Rd.form hp
   rw [mM.out] at hp ⊢
   replace bel := Bel.to bel bx1_8
   replace r0 := r0.keep bx1_8
   replace cbn := Bel.cellOf bx1_8 cbn
   replace cbo := Bel.cellOf bx1_8 cbo
   go_wp2_with fail
   refine hK.out _ _ ⟨Bel.cellOf bx1_8 hHeld.1,Bel.cellOf bx1_8 hHeld.2⟩ (fun hHeld => ?_)
   clear hK K bx1_8
   try simp only [List.getElem_toArray,List.getElem_cons_zero,List.getElem_cons_succ,Act.put,zsA,zsB,zsC]
   refine' till_pure (i := 9) (oi := _) (v := .tuple #[.slice pa m pc,.int .i64 0]) rfl (by kernel_rfl) (by kernel_rfl) (by kernel_rfl) (by kernel_rfl) (fun _ _ _ h => h) (Or.inl ⟨by first | (go_simp;done) | rfl,fun X _ => by go_simp⟩) hHeld ?_
   try simp only [List.getElem_toArray,List.getElem_cons_zero,List.getElem_cons_succ,Act.put,zsA,zsB,zsC]
   refine' till_pure (i := 10) (oi := _) (v := .slice pa m pc) rfl (by kernel_rfl) (by kernel_rfl) (by kernel_rfl) (by kernel_rfl) (fun _ _ _ h => h) (Or.inl ⟨by first | (go_simp;done) | rfl,fun X _ => by go_simp⟩) hHeld ?_
   try simp only [List.getElem_toArray,List.getElem_cons_zero,List.getElem_cons_succ,Act.put,zsA,zsB,zsC]
   refine' till_pure (i := 11) (oi := _) (v := .int .i64 0) rfl (by kernel_rfl) (by kernel_rfl) (by kernel_rfl) (by kernel_rfl) (fun _ _ _ h => h) (Or.inl ⟨by first | (go_simp;done) | rfl,fun X _ => by go_simp⟩) hHeld ?_
   try simp only [List.getElem_toArray,List.getElem_cons_zero,List.getElem_cons_succ,Act.put,zsA,zsB,zsC]
   refine' till_pure (i := 12) (oi := _) (v := .slice pa m pc) rfl (by kernel_rfl) (by kernel_rfl) (by kernel_rfl) (by kernel_rfl) (fun _ _ _ h => h) (Or.inl ⟨by first | (go_simp;done) | rfl,fun X _ => by go_simp⟩) hHeld ?_
   try simp only [List.getElem_toArray,List.getElem_cons_zero,List.getElem_cons_succ,Act.put,zsA,zsB,zsC]
   refine till_ready (rs := [13]) (by kernel_rfl) (by simp) ?_
   refine TillReady.last (o := _) rfl (by kernel_rfl) (fun K hK => ?_) TillReady.nil
   go_simp
   refine hK.out _ _ ?_
   clear hK K
   try simp only [List.getElem_toArray,List.getElem_cons_zero,List.getElem_cons_succ,Act.put,zsA,zsB,zsC]
   refine till_done (by kernel_rfl) ?_ _
   go_simp
   obtain ⟨w7,hw7⟩ : ∃ X,X = x1_8 := ⟨_,rfl⟩
   rw [← hw7] at bel r0 cbn cbo hp hHeld ⊢
   clear hw7
   clear hHeld
   go_upto_region 22 with (fail)
   refine till_begin 13 (fun X => X.cell? ⟨w.heap.size,6,none⟩ = some (.int .i64 (bo : Int)) ∧ X.cell? ⟨w.heap.size,5,none⟩ = some (.int .i64 (bn : Int))) (by kernel_rfl) (⟨cbo,cbn⟩) (fun hHeld => ?_)
   refine' till_pure (i := 0) (oi := _) (v := .int .u16 (ai : Int)) rfl (by kernel_rfl) (by kernel_rfl) (by kernel_rfl) (by kernel_rfl) (fun _ _ _ h => h) (Or.inl ⟨by first | (go_simp;done) | rfl,fun X _ => by go_simp⟩) hHeld ?_
   try simp only [List.getElem_toArray,List.getElem_cons_zero,List.getElem_cons_succ,Act.put,zsA,zsB,zsC]
   refine' till_pure (i := 1) (oi := _) (v := .int .i64 (ai : Int)) rfl (by kernel_rfl) (by kernel_rfl) (by kernel_rfl) (by kernel_rfl) (fun _ _ _ h => h) (Or.inl ⟨by first | (go_simp;done) | rfl,fun X _ => by go_simp⟩) hHeld ?_
   try simp only [List.getElem_toArray,List.getElem_cons_zero,List.getElem_cons_succ,Act.put,zsA,zsB,zsC]
   refine' till_pure (i := 2) (oi := _) (v := .int .i64 (cB : Int)) rfl (by kernel_rfl) (by kernel_rfl) (by kernel_rfl) (by kernel_rfl) (fun _ _ _ h => h) (Or.inl ⟨by first | (go_simp;done) | rfl,fun X _ => by go_simp⟩) hHeld ?_
   try simp only [List.getElem_toArray,List.getElem_cons_zero,List.getElem_cons_succ,Act.put,zsA,zsB,zsC]
   refine' till_pure (i := 3) (oi := _) (v := .int .i64 ((ai : Int) % (cB : Int))) rfl (by kernel_rfl) (by kernel_rfl) (by kernel_rfl) (by kernel_rfl) (fun _ _ _ h => h) (Or.inl ⟨by first | (go_simp;done) | rfl,fun X _ => by go_simp⟩) hHeld ?_
   try simp only [List.getElem_toArray,List.getElem_cons_zero,List.getElem_cons_succ,Act.put,zsA,zsB,zsC]
   refine' till_pure (i := 4) (oi := _) (v := .pointer (some ⟨w.heap.size,6,none⟩)) rfl (by kernel_rfl) (by kernel_rfl) (by kernel_rfl) (by kernel_rfl) (fun _ _ _ h => h) (Or.inl ⟨by first | (go_simp;done) | rfl,fun X _ => by go_simp⟩) hHeld ?_
   try simp only [List.getElem_toArray,List.getElem_cons_zero,List.getElem_cons_succ,Act.put,zsA,zsB,zsC]
   refine' till_take (i := 5) (oi := _) (v := .int .i64 (bo : Int)) rfl (by kernel_rfl) (by kernel_rfl) (by kernel_rfl) (by kernel_rfl) (fun _ _ _ h => h) (Or.inl ⟨by first | (go_simp;done) | rfl,fun X hX => by have h0 := hX.1;go_simp⟩) hHeld ?_
   try simp only [List.getElem_toArray,List.getElem_cons_zero,List.getElem_cons_succ,Act.put,zsA,zsB,zsC]
   refine' till_pure (i := 6) (oi := _) (v := .pointer (some ⟨w.heap.size,5,none⟩)) rfl (by kernel_rfl) (by kernel_rfl) (by kernel_rfl) (by kernel_rfl) (fun _ _ _ h => h) (Or.inl ⟨by first | (go_simp;done) | rfl,fun X _ => by go_simp⟩) hHeld ?_
   try simp only [List.getElem_toArray,List.getElem_cons_zero,List.getElem_cons_succ,Act.put,zsA,zsB,zsC]
   refine' till_take (i := 7) (oi := _) (v := .int .i64 (bn : Int)) rfl (by kernel_rfl) (by kernel_rfl) (by kernel_rfl) (by kernel_rfl) (fun _ _ _ h => h) (Or.inl ⟨by first | (go_simp;done) | rfl,fun X hX => by have h0 := hX.2;go_simp⟩) hHeld ?_
   try simp only [List.getElem_toArray,List.getElem_cons_zero,List.getElem_cons_succ,Act.put,zsA,zsB,zsC]
   obtain ⟨Y0,hY0⟩ : ∃ Y,Y = w7.drew := ⟨_,rfl⟩
   have hY1 : Below w7.heap.size w7 Y0 := by rw [hY0];exact Below.drew (Below.refl _ _)
   replace bel := Bel.to bel hY1
   replace r0 := r0.keep hY1
   replace hp := Rd.below hp hY1
   rw [← hY0] at hHeld ⊢
   clear hY0 hY1 cbo cbn
   refine till_ready (rs := [8]) (by kernel_rfl) (by simp) ?_
   refine TillReady.cons (o := _) rfl (fun K hK => ?_) TillReady.nil
   go_simp
   refine (cX2.out Y0).mono ?_
   rintro e x1_8 ⟨p2,rfl,hp2,-,bx1_8⟩
   obtain ⟨p2a,p2c,rfl,-,-,-⟩ := Rd.form hp2
   rw [mB.out] at hp2 ⊢
   replace bel := Bel.to bel bx1_8
   replace r0 := r0.keep bx1_8
   replace hp := Rd.below hp bx1_8
   go_wp2_with fail
   refine hK.out _ _ ⟨Bel.cellOf bx1_8 hHeld.1,Bel.cellOf bx1_8 hHeld.2⟩ (fun hHeld => ?_)
   clear hK K bx1_8
   try simp only [List.getElem_toArray,List.getElem_cons_zero,List.getElem_cons_succ,Act.put,zsA,zsB,zsC]
   refine' till_pure (i := 9) (oi := _) (v := .tuple #[.slice p2a bn p2c,.int .i64 0]) rfl (by kernel_rfl) (by kernel_rfl) (by kernel_rfl) (by kernel_rfl) (fun _ _ _ h => h) (Or.inl ⟨by first | (go_simp;done) | rfl,fun X _ => by go_simp⟩) hHeld ?_
   try simp only [List.getElem_toArray,List.getElem_cons_zero,List.getElem_cons_succ,Act.put,zsA,zsB,zsC]
   refine' till_pure (i := 10) (oi := _) (v := .slice p2a bn p2c) rfl (by kernel_rfl) (by kernel_rfl) (by kernel_rfl) (by kernel_rfl) (fun _ _ _ h => h) (Or.inl ⟨by first | (go_simp;done) | rfl,fun X _ => by go_simp⟩) hHeld ?_
   try simp only [List.getElem_toArray,List.getElem_cons_zero,List.getElem_cons_succ,Act.put,zsA,zsB,zsC]
   refine' till_pure (i := 11) (oi := _) (v := .int .i64 0) rfl (by kernel_rfl) (by kernel_rfl) (by kernel_rfl) (by kernel_rfl) (fun _ _ _ h => h) (Or.inl ⟨by first | (go_simp;done) | rfl,fun X _ => by go_simp⟩) hHeld ?_
   try simp only [List.getElem_toArray,List.getElem_cons_zero,List.getElem_cons_succ,Act.put,zsA,zsB,zsC]
   refine' till_pure (i := 12) (oi := _) (v := .slice p2a bn p2c) rfl (by kernel_rfl) (by kernel_rfl) (by kernel_rfl) (by kernel_rfl) (fun _ _ _ h => h) (Or.inl ⟨by first | (go_simp;done) | rfl,fun X _ => by go_simp⟩) hHeld ?_
   try simp only [List.getElem_toArray,List.getElem_cons_zero,List.getElem_cons_succ,Act.put,zsA,zsB,zsC]
   refine till_ready (rs := [13]) (by kernel_rfl) (by simp) ?_
   refine TillReady.last (o := _) rfl (by kernel_rfl) (fun K hK => ?_) TillReady.nil
   go_simp
   refine hK.out _ _ ?_
   clear hK K
   try simp only [List.getElem_toArray,List.getElem_cons_zero,List.getElem_cons_succ,Act.put,zsA,zsB,zsC]
   refine till_done (by kernel_rfl) ?_ _
   go_simp
   obtain ⟨w8,hw8⟩ : ∃ X,X = x1_8 := ⟨_,rfl⟩
   rw [← hw8] at bel r0 hp hp2 hHeld ⊢
   clear hw8
   clear hHeld
   have cZ := hide (dC3.out _ _ w8 bel ⟨hp,hp2⟩)
   clear hp hp2 dC3 cX1 cX2
   go_wp2_with (first | (refine wpList_load_row rfl 25 _ rfl _ rfl _ _ _ _ r0 Tryz.underlying25 rfl (by kernel_rfl) ?_) | fail)
   refine cZ.out.mono ?_
   rintro e w9 ⟨cb,rfl,hrow,hb⟩
   replace bel := Bel.to bel hb
   replace r0 := r0.keep hb
   have hrest := mM
   clear hb cZ
   clear hrest
   go_wp2
   go_loopg [112] tn (fun gh t wr => ∃ (i : Nat),gh = tn - i ∧ i ≤ tn ∧ t = .int .i64 (i : Int) ∧ Below w.heap.size w wr ∧ GameAt wr w.heap.size g (.slice aa an ac) (.slice ta tn tc) ∧ Row wr cb 47 ((tabL tn VV).map U6))
   case atStart => exact ⟨0,rfl,Nat.zero_le _,rfl,bel,r0,hrow⟩
   case round =>
    clear bel r0 hrow
    obtain ⟨i,hgi,hi,rfl,bel,r0,hrow⟩ := hrel
    replace hgi := hide hgi
    by_cases hil : i < tn
    ·have hil2 := hide hil
     have i1 : (0 : Int) ≤ (i : Int) := by omega
     have i2 : (i : Int) < (tn : Int) := by omega
     have c5 : wr.cell? ⟨cb,i,none⟩ = some (.int .u64 (VV i : Nat)) := by rw [hrow.cell?,List.getElem?_map,tabL_at VV hil];rfl
     have hVb := hVl.out i hil
     have dW2 := hide (dW.out i wr hil bel)
     obtain ⟨V,hV⟩ : ∃ V,V = VV i := ⟨_,rfl⟩
     rw [← hV] at c5 hVb dW2
     have cS : Hid (∀ va vb X,NV X va V → NV X vb V → Calls Tryz.prog 12 #[.agg #[va],.agg #[vb]] X (BoolB true X)) := fun va vb X h1 h2 => by have h := same_nats va vb V V X h1 h2;rwa [decide_eq_true rfl] at h
     clear hV hil
     go_wp2_with (first | (refine wpList_load_row rfl 25 _ rfl _ rfl _ _ _ _ r0 Tryz.underlying25 rfl (by kernel_rfl) ?_) | fail)
     refine dW2.out.mono ?_
     rintro e x1 ⟨u,rfl,hu,hb⟩
     obtain ⟨ua,ul,uc,rfl⟩ := Rd.shape hu
     replace bel := Bel.to bel hb
     replace r0 := r0.keep hb
     replace hrow := Row.keep hrow hb
     replace c5 := Bel.cellOf hb c5
     clear hb dW2
     go_upto_region 28 with (fail)
     obtain ⟨q20,hq20⟩ : ∃ b,b = x1.heap.size := ⟨_,rfl⟩
     obtain ⟨y1,hy1⟩ : ∃ X,X = x1.alloc (.cells #[.slice ua ul uc] 30) := ⟨_,rfl⟩
     have by1 : Below x1.heap.size x1 y1 := by rw [hy1];exact Bel.al (Below.refl _ _) _
     have r20 : Row y1 q20 30 [.slice ua ul uc] := by rw [hy1,hq20];exact Row.newOf _ rfl
     rw [← hy1,← hq20]
     clear hy1 hq20
     replace bel := Bel.to bel by1
     replace r0 := r0.keep by1
     replace hrow := Row.keep hrow by1
     replace c5 := Bel.cellOf by1 c5
     replace hu := Rd.below hu by1
     have c20 := r20.cell? 0
     simp only [List.getElem?_cons_zero] at c20
     clear by1 r20
     refine wp_region_held_drew (S := fun X => X.cell? ⟨q20,0,none⟩ = some (.slice ua ul uc) ∧ X.cell? ⟨cb,i,none⟩ = some (.int .u64 (V : Int))) (by kernel_rfl) (⟨c20,c5⟩) (fun hHeld => ?_)
     refine' wpAnyH_take (i := 0) (oi := _) (v := .int .i64 0) rfl (by kernel_rfl) (by kernel_rfl) (by kernel_rfl) (fun _ _ _ h => h) (Or.inl ⟨by first | (go_simp;done) | rfl,fun X _ => by go_simp⟩) hHeld ?_
     try simp only [List.getElem_toArray,List.getElem_cons_zero,List.getElem_cons_succ,Act.put,zsA,zsB,zsC]
     refine' wpAnyH_take (i := 1) (oi := _) (v := .bool false) rfl (by kernel_rfl) (by kernel_rfl) (by kernel_rfl) (fun _ _ _ h => h) (Or.inl ⟨by first | (go_simp;done) | rfl,fun X _ => by go_simp⟩) hHeld ?_
     try simp only [List.getElem_toArray,List.getElem_cons_zero,List.getElem_cons_succ,Act.put,zsA,zsB,zsC]
     refine' wpAnyH_take (i := 2) (oi := _) (v := .bool false) rfl (by kernel_rfl) (by kernel_rfl) (by kernel_rfl) (fun _ _ _ h => h) (Or.inl ⟨by first | (go_simp;done) | rfl,fun X _ => by go_simp⟩) hHeld ?_
     try simp only [List.getElem_toArray,List.getElem_cons_zero,List.getElem_cons_succ,Act.put,zsA,zsB,zsC]
     refine' wpAnyH_take (i := 3) (oi := _) (v := .agg #[.slice ua ul uc]) rfl (by kernel_rfl) (by kernel_rfl) (by kernel_rfl) (fun _ _ _ h => h) (Or.inl ⟨by first | (go_simp;done) | rfl,fun X hX => by have h0 := hX.1;go_simp⟩) hHeld ?_
     try simp only [List.getElem_toArray,List.getElem_cons_zero,List.getElem_cons_succ,Act.put,zsA,zsB,zsC]
     refine' wpAnyH_take (i := 4) (oi := _) (v := .slice (some ⟨cb,0,none⟩) tn tn) rfl (by kernel_rfl) (by kernel_rfl) (by kernel_rfl) (fun _ _ _ h => h) (Or.inl ⟨by first | (go_simp;done) | rfl,fun X _ => by go_simp⟩) hHeld ?_
     try simp only [List.getElem_toArray,List.getElem_cons_zero,List.getElem_cons_succ,Act.put,zsA,zsB,zsC]
     refine' wpAnyH_take (i := 5) (oi := _) (v := .int .i64 (i : Int)) rfl (by kernel_rfl) (by kernel_rfl) (by kernel_rfl) (fun _ _ _ h => h) (Or.inl ⟨by first | (go_simp;done) | rfl,fun X _ => by go_simp⟩) hHeld ?_
     try simp only [List.getElem_toArray,List.getElem_cons_zero,List.getElem_cons_succ,Act.put,zsA,zsB,zsC]
     refine' wpAnyH_take (i := 6) (oi := _) (v := .pointer (some ⟨cb,i,none⟩)) rfl (by kernel_rfl) (by kernel_rfl) (by kernel_rfl) (fun _ _ _ h => h) (Or.inl ⟨by first | (go_simp;done) | rfl,fun X _ => by go_simp⟩) hHeld ?_
     try simp only [List.getElem_toArray,List.getElem_cons_zero,List.getElem_cons_succ,Act.put,zsA,zsB,zsC]
     refine' wpAnyH_take (i := 7) (oi := _) (v := .int .u64 (V : Int)) rfl (by kernel_rfl) (by kernel_rfl) (by kernel_rfl) (fun _ _ _ h => h) (Or.inl ⟨by first | (go_simp;done) | rfl,fun X hX => by have h0 := hX.2;go_simp⟩) hHeld ?_
     try simp only [List.getElem_toArray,List.getElem_cons_zero,List.getElem_cons_succ,Act.put,zsA,zsB,zsC]
     obtain ⟨Y0,hY0⟩ : ∃ Y,Y = y1.drew := ⟨_,rfl⟩
     have hY1 : Below y1.heap.size y1 Y0 := by rw [hY0];exact Below.drew (Below.refl _ _)
     replace bel := Bel.to bel hY1
     replace r0 := r0.keep hY1
     replace hrow := Row.keep hrow hY1
     replace hu := Rd.below hu hY1
     rw [← hY0] at hHeld ⊢
     clear hY0 hY1 c20 c5
     refine wpAnyH_ready (rs := [8]) (by kernel_rfl) (by simp) ?_
     refine AllReadyH.cons (o := _) rfl (fun K hK => ?_) AllReadyH.nil
     go_simp
     refine (ref_of V Y0 (by omega)).mono ?_
     rintro e x1_8 ⟨v,rfl,hv,bx1_8⟩
     obtain ⟨va,vl,vc,rfl⟩ := Rd.shape hv
     replace bel := Bel.to bel bx1_8
     replace r0 := r0.keep bx1_8
     replace hrow := Row.keep hrow bx1_8
     replace hu := Rd.below hu bx1_8
     go_wp2_with fail
     refine hK.out _ _ ⟨Bel.cellOf bx1_8 hHeld.1,Bel.cellOf bx1_8 hHeld.2⟩ (fun hHeld => ?_)
     clear hK K bx1_8
     try simp only [List.getElem_toArray,List.getElem_cons_zero,List.getElem_cons_succ,Act.put,zsA,zsB,zsC]
     refine wpAnyH_ready (rs := [9]) (by kernel_rfl) (by simp) ?_
     refine AllReadyH.cons (o := _) rfl (fun K hK => ?_) AllReadyH.nil
     go_simp
     refine (cS.out _ _ x1_8 hu hv).mono ?_
     rintro e x2_9 ⟨rfl,bx2_9⟩
     replace bel := Bel.to bel bx2_9
     replace r0 := r0.keep bx2_9
     replace hrow := Row.keep hrow bx2_9
     replace hu := Rd.below hu bx2_9
     replace hv := Rd.below hv bx2_9
     go_wp2_with fail
     refine hK.out _ _ ⟨Bel.cellOf bx2_9 hHeld.1,Bel.cellOf bx2_9 hHeld.2⟩ (fun hHeld => ?_)
     clear hK K bx2_9
     try simp only [List.getElem_toArray,List.getElem_cons_zero,List.getElem_cons_succ,Act.put,zsA,zsB,zsC]
     refine' wpAnyH_take (i := 10) (oi := _) (v := .bool false) rfl (by kernel_rfl) (by kernel_rfl) (by kernel_rfl) (fun _ _ _ h => h) (Or.inl ⟨by first | (go_simp;done) | rfl,fun X _ => by go_simp⟩) hHeld ?_
     try simp only [List.getElem_toArray,List.getElem_cons_zero,List.getElem_cons_succ,Act.put,zsA,zsB,zsC]
     refine' wpAnyH_take (i := 11) (oi := _) (v := .bool false) rfl (by kernel_rfl) (by kernel_rfl) (by kernel_rfl) (fun _ _ _ h => h) (Or.inl ⟨by first | (go_simp;done) | rfl,fun X _ => by go_simp⟩) hHeld ?_
     try simp only [List.getElem_toArray,List.getElem_cons_zero,List.getElem_cons_succ,Act.put,zsA,zsB,zsC]
     refine wpAnyH_done (by kernel_rfl) ?_ _
     go_simp
     obtain ⟨w9,hw9⟩ : ∃ X,X = x2_9 := ⟨_,rfl⟩
     rw [← hw9] at bel r0 hrow hHeld ⊢
     clear hw9
     clear hHeld hu hv cS hVb
     go_wp2
     go_roundg (tn - (i + 1))
     case measure => have := hgi.out;have := hil2.out;omega
     case rel => exact ⟨i + 1,rfl,by have := hil2.out;omega,by go_num,bel,r0,hrow⟩
    ·obtain rfl : i = tn := by omega
     clear hrow r0
     go_wp2_with fail
     refine (cA.out _).mono ?_
     rintro e wz ⟨rfl,hz⟩
     go_wp2
     go_ret
     exact ⟨rfl,Bel.to bel hz⟩
end Go.Proofs.YtldikghldcefcaaGreat
end

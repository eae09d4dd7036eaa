/- Lemmas, merged out of smaller texts (wip/tools/mergedce.py). No condition. -/
import Derived.BigQuiet
import Derived.Test.YtfggjlekcdpmmaaGreatHBetA
import Derived.Test.YtfggjlekcdpmmaaGreatHLine
import Derived.Test.YtfggjlekcdpmmaaGreatHSysB
section
open Go.RowKit
set_option linter.unusedVariables false
set_option linter.unusedSimpArgs false
namespace Go.Proofs.YtfggjlekcdpmmaaGreat
set_option maxHeartbeats 4000000 in
set_option maxRecDepth 100000 in
theorem rone_any (g : GameD) (av tv mv bv : Value) (ms : List AddonM) (sys : Bool) (l : LineD) (w : World) (hg : GameR w av tv ms g) (hl : LineR w mv bv l.1 l.2) :
  Calls Tryz.prog 90 #[gameVal g av tv,.bool sys,lineVal mv bv] w (IntC (sizeB g sys l).1 (sizeB g sys l).2 w) := by
 have cS := hide (fun X (hX : Below w.heap.size w X) => rcount15_any g av tv mv bv ms l.1 l.2 X (hg.below hX) (hl.below hX))
 have cK := hide (fun X (hX : Below w.heap.size w X) => rcheck15_any g av tv mv bv ms l.1 l.2 X (hg.below hX) (hl.below hX))
 have cM := hide (fun X (hX : Below w.heap.size w X) => rlcheck_any g av tv mv bv ms l.1 l.2 X (hg.below hX) (hl.below hX))
 obtain ⟨aa,ac,rfl,hal,ham⟩ := hg.1.1.shape
 obtain ⟨ta,tc,rfl,htl,htm⟩ := hg.2.2.shape
 obtain ⟨s1,n1,k1,rfl⟩ := Rd.shape hl.1
 obtain ⟨s2,n2,k2,rfl⟩ := Rd.shape hl.2
 clear hg hl
 unfold lineVal gameVal at cS cM cK
 unfold lineVal gameVal
 cases sys with
 | false =>
  have hs : sizeB g false l = (1,lineE g l.1 l.2) := rfl
  rw [hs]
  obtain ⟨c,hc⟩ : ∃ c,c = lineE g l.1 l.2 := ⟨_,rfl⟩
  rw [← hc] at cM ⊢
  simp only []
  clear hs hc cS cK
  go_enter Tryz.func90,Tryz.ntmps90
  go_upto_region 1 with (fail)
  obtain ⟨W,hW⟩ : ∃ W,W = ((w.alloc (Obj.cells #[.string g.name,.int .i64 g.kind,.int .i64 g.price,.int .i64 g.main,.int .i64 g.of,.int .i64 g.bonus,.int .i64 g.bonusOf,.int .i64 g.extra,.int .i64 g.draws,.int .i64 g.system,.int .i64 g.days,.int .i64 g.at_,.int .i64 g.close,.int .i64 g.cancel,.int .i64 g.expiry,.int .i64 g.pool,.int .i64 g.reserve,.int .i64 g.round,.int .i64 g.cap,.int .i64 g.rolls,(.slice aa ms.length ac),(.slice ta g.tiers.length tc)] 25)).alloc (Obj.cells #[(.slice s1 n1 k1),(.slice s2 n2 k2)] 58)) := ⟨_,rfl⟩
  have bW : Below w.heap.size w W := by rw [hW];exact Bel.al (Bel.al (Below.refl _ _) _) _
  have r0 : GameAt W (w.heap.size) g ((.slice aa ms.length ac)) ((.slice ta g.tiers.length tc)) := by rw [hW];exact Row.alloc (Row.new _ _ _) _
  have r1 : LineAt W (w.heap.size + 1) ((.slice s1 n1 k1)) ((.slice s2 n2 k2)) := by rw [hW];exact Row.at2 _ _ _ _
  have sW : w.heap.size + 1 < W.heap.size := by rw [hW];simp
  rw [← hW]
  clear hW
  go_wp2_with (first | (refine wpList_load_row rfl 25 _ rfl _ rfl _ _ _ _ r0 Tryz.underlying25 rfl (by kernel_rfl) ?_) | (refine wpList_load_row rfl 58 _ rfl _ rfl _ _ _ _ r1 Tryz.underlying58 rfl (by kernel_rfl) ?_) | fail)
  refine (cM.out _ bW).mono ?_
  rintro e w1 ⟨rfl,hb1⟩
  go_wp2
  go_ret2
  exact ⟨rfl,Bel.to bW hb1⟩
 | true =>
  have hs : sizeB g true l = sysP g l.1 l.2 := rfl
  rw [hs]
  unfold sysP at cS ⊢
  by_cases he : sysE g l.1 l.2 = 0
  ·rw [if_pos he] at cS ⊢
   rw [he] at cK
   simp only [] at cS ⊢
   replace he := hide he
   obtain ⟨n,hn⟩ : ∃ n,n = choose l.1.length g.main.toNat := ⟨_,rfl⟩
   rw [← hn] at cS ⊢
   clear hn hs cM
   go_enter Tryz.func90,Tryz.ntmps90
   go_upto_region 1 with (fail)
   obtain ⟨W,hW⟩ : ∃ W,W = ((w.alloc (Obj.cells #[.string g.name,.int .i64 g.kind,.int .i64 g.price,.int .i64 g.main,.int .i64 g.of,.int .i64 g.bonus,.int .i64 g.bonusOf,.int .i64 g.extra,.int .i64 g.draws,.int .i64 g.system,.int .i64 g.days,.int .i64 g.at_,.int .i64 g.close,.int .i64 g.cancel,.int .i64 g.expiry,.int .i64 g.pool,.int .i64 g.reserve,.int .i64 g.round,.int .i64 g.cap,.int .i64 g.rolls,(.slice aa ms.length ac),(.slice ta g.tiers.length tc)] 25)).alloc (Obj.cells #[(.slice s1 n1 k1),(.slice s2 n2 k2)] 58)) := ⟨_,rfl⟩
   have bW : Below w.heap.size w W := by rw [hW];exact Bel.al (Bel.al (Below.refl _ _) _) _
   have r0 : GameAt W (w.heap.size) g ((.slice aa ms.length ac)) ((.slice ta g.tiers.length tc)) := by rw [hW];exact Row.alloc (Row.new _ _ _) _
   have r1 : LineAt W (w.heap.size + 1) ((.slice s1 n1 k1)) ((.slice s2 n2 k2)) := by rw [hW];exact Row.at2 _ _ _ _
   have sW : w.heap.size + 1 < W.heap.size := by rw [hW];simp
   rw [← hW]
   clear hW
   go_wp2_with (first | (refine wpList_load_row rfl 25 _ rfl _ rfl _ _ _ _ r0 Tryz.underlying25 rfl (by kernel_rfl) ?_) | (refine wpList_load_row rfl 58 _ rfl _ rfl _ _ _ _ r1 Tryz.underlying58 rfl (by kernel_rfl) ?_) | fail)
   refine (cK.out _ bW).mono ?_
   rintro e w1 ⟨rfl,hb1⟩
   have B1 := Bel.to bW hb1
   have r0 := r0.keep hb1
   have r1 := r1.keep hb1
   go_wp2_with (first | (refine wpList_load_row rfl 25 _ rfl _ rfl _ _ _ _ r0 Tryz.underlying25 rfl (by kernel_rfl) ?_) | (refine wpList_load_row rfl 58 _ rfl _ rfl _ _ _ _ r1 Tryz.underlying58 rfl (by kernel_rfl) ?_) | fail)
   refine (cS.out _ B1).mono ?_
   rintro e w2 ⟨rfl,hb2⟩
   go_wp2
   go_ret2
   exact ⟨rfl,Bel.to B1 hb2⟩
  ·rw [if_neg he]
   obtain ⟨c,hc⟩ : ∃ c,c = sysE g l.1 l.2 := ⟨_,rfl⟩
   rw [← hc] at cK he ⊢
   have hcb : (c != 0) = true := by simpa using he
   replace he := hide he
   simp only []
   clear hs hc cS cM
   go_enter Tryz.func90,Tryz.ntmps90
   go_upto_region 1 with (fail)
   obtain ⟨W,hW⟩ : ∃ W,W = ((w.alloc (Obj.cells #[.string g.name,.int .i64 g.kind,.int .i64 g.price,.int .i64 g.main,.int .i64 g.of,.int .i64 g.bonus,.int .i64 g.bonusOf,.int .i64 g.extra,.int .i64 g.draws,.int .i64 g.system,.int .i64 g.days,.int .i64 g.at_,.int .i64 g.close,.int .i64 g.cancel,.int .i64 g.expiry,.int .i64 g.pool,.int .i64 g.reserve,.int .i64 g.round,.int .i64 g.cap,.int .i64 g.rolls,(.slice aa ms.length ac),(.slice ta g.tiers.length tc)] 25)).alloc (Obj.cells #[(.slice s1 n1 k1),(.slice s2 n2 k2)] 58)) := ⟨_,rfl⟩
   have bW : Below w.heap.size w W := by rw [hW];exact Bel.al (Bel.al (Below.refl _ _) _) _
   have r0 : GameAt W (w.heap.size) g ((.slice aa ms.length ac)) ((.slice ta g.tiers.length tc)) := by rw [hW];exact Row.alloc (Row.new _ _ _) _
   have r1 : LineAt W (w.heap.size + 1) ((.slice s1 n1 k1)) ((.slice s2 n2 k2)) := by rw [hW];exact Row.at2 _ _ _ _
   have sW : w.heap.size + 1 < W.heap.size := by rw [hW];simp
   rw [← hW]
   clear hW
   go_wp2_with (first | (refine wpList_load_row rfl 25 _ rfl _ rfl _ _ _ _ r0 Tryz.underlying25 rfl (by kernel_rfl) ?_) | (refine wpList_load_row rfl 58 _ rfl _ rfl _ _ _ _ r1 Tryz.underlying58 rfl (by kernel_rfl) ?_) | fail)
   refine (cK.out _ bW).mono ?_
   rintro e w1 ⟨rfl,hb1⟩
   go_wp2
   go_ret2
   exact ⟨rfl,Bel.to bW hb1⟩
attribute [local go_sem ↓] Go.wp_at_zero Go.wp_at_succ
set_option maxHeartbeats 4000000 in
set_option maxRecDepth 100000 in
theorem rcanon_fr (mv bv : Value) (a b : List Int) (w : World) (h : LineR w mv bv a b) (ha : a.length ≤ 1000) (hb : b.length ≤ 1000) :
  Calls Tryz.prog 92 #[lineVal mv bv] w (LineF (sortI a) (sortI b) w) := by
 have hh := hide h
 obtain ⟨ma,mc,rfl,hma,hmc,-⟩ := h.1.form
 obtain ⟨ba,bc,rfl,hba,hbc,-⟩ := h.2.form
 clear h
 have cA := hide (fun X (hX : LineR X (.slice ma a.length mc) (.slice ba b.length bc) a b) => sorted13_fr _ a X hX.1 ha)
 have cB := hide (fun X (hX : LineR X (.slice ma a.length mc) (.slice ba b.length bc) a b) => sorted13_fr _ b X hX.2 hb)
 clear ha hb
 unfold lineVal
 go_enter Tryz.func92,Tryz.ntmps92
 go_upto_region 1 with (fail)
 obtain ⟨W,hW⟩ : ∃ W,W = ((w.alloc (Obj.cells #[(.slice ma a.length mc),(.slice ba b.length bc)] 58)).alloc (Obj.cells #[(.slice none 0 0),(.slice none 0 0)] 58)) := ⟨_,rfl⟩
 have bW : Below w.heap.size w W := by rw [hW];exact Bel.al (Bel.al (Below.refl _ _) _) _
 have r0 : LineAt W (w.heap.size) ((.slice ma a.length mc)) ((.slice ba b.length bc)) := by rw [hW];exact Row.alloc (Row.new _ _ _) _
 have r1 : LineAt W (w.heap.size + 1) ((.slice none 0 0)) ((.slice none 0 0)) := by rw [hW];exact Row.at2 _ _ _ _
 have sW : w.heap.size + 1 < W.heap.size := by rw [hW];simp
 rw [← hW]
 clear hW
 have c0 := r0.main
 have c1 := r0.bonus
 have hl0 := hide (fun X (hX : Below w.heap.size w X) => hh.out.below hX)
 have k0 := hide (fun X (hX : Below W.heap.size W X) => (r0.keep hX).main)
 have k1 := hide (fun X (hX : Below W.heap.size W X) => (r0.keep hX).bonus)
 have k2 := hide (fun X (hX : Below W.heap.size W X) => (r1.keep hX).main)
 have k3 := hide (fun X (hX : Below W.heap.size W X) => (r1.keep hX).bonus)
 have k4 := hide (fun X (hX : Below W.heap.size W X) => Row.frozen (r1.keep hX) 0)
 have k5 := hide (fun X (hX : Below W.heap.size W X) => Row.frozen (r1.keep hX) 1)
 have bd : Below W.heap.size W W.drew := Below.drew (Below.refl _ _)
 go_region_held3 (fun X => X.cell? ⟨w.heap.size,0,none⟩ = some (.slice ma a.length mc) ∧ X.cell? ⟨w.heap.size,1,none⟩ = some (.slice ba b.length bc)) (go_keep) (first
  | (go_at_call 118;(with_reducible refine (cA.out _ ?_).mono ?_);(first | exact hl0.out _ (Bel.to bW bB) | exact hl0.out _ (Bel.to bW bd));rintro e wa ⟨ua,rfl,hua,fua,hba⟩;obtain ⟨xa,na,ka,rfl⟩ := Rd.shape hua;have bA : Below W.heap.size W wa := (by first | exact Bel.to bB hba | exact Bel.to bd hba);have c0 := k0.out _ bA;have c1 := k1.out _ bA;have c2 := k2.out _ bA;have c3 := k3.out _ bA;have c4 := k4.out _ bA;have c5 := k5.out _ bA;(try have hub := hub.below hba);have fua := hide (Fr.mono fua (by first | exact (Bel.to bW bB).size | exact (Bel.to bW bd).size)))
  | (go_at_call 118;(with_reducible refine (cB.out _ ?_).mono ?_);(first | exact hl0.out _ (Bel.to bW bA) | exact hl0.out _ (Bel.to bW bd));rintro e wb ⟨ub,rfl,hub,fub,hbb⟩;obtain ⟨xb,nb,kb,rfl⟩ := Rd.shape hub;have bB : Below W.heap.size W wb := (by first | exact Bel.to bA hbb | exact Bel.to bd hbb);have c0 := k0.out _ bB;have c1 := k1.out _ bB;have c2 := k2.out _ bB;have c3 := k3.out _ bB;have c4 := k4.out _ bB;have c5 := k5.out _ bB;(try have hua := hua.below hbb);have fub := hide (Fr.mono fub (by first | exact (Bel.to bW bA).size | exact (Bel.to bW bd).size))))
 have hua2 := (hua.setNe c2 (fun _ h => by cases h) (.slice xa na ka)).setNe (p := ⟨w.heap.size + 1,1,none⟩) (c := .slice none 0 0) (by go_simp) (fun _ h => by cases h) (.slice xb nb kb)
 have hub2 := (hub.setNe c2 (fun _ h => by cases h) (.slice xa na ka)).setNe (p := ⟨w.heap.size + 1,1,none⟩) (c := .slice none 0 0) (by go_simp) (fun _ h => by cases h) (.slice xb nb kb)
 have bfin : Below w.heap.size w ((wb.setCell ⟨w.heap.size + 1,0,none⟩ (.slice xa na ka)).setCell ⟨w.heap.size + 1,1,none⟩ (.slice xb nb kb)) := Bel.st (Bel.st (Bel.to bW bB) (by simp) _) (by simp) _
 go_wp2
 exact bodyPost_ret (v := .agg #[.slice xa na ka,.slice xb nb kb]) (by simp [results,Tryz.results92,go_sem,c2,c3]) rfl ⟨_,_,rfl,⟨hua2,hub2⟩,fua.out,fub.out,bfin⟩
theorem wp_append_rd16 {P : Program} {w : World} {α : Type} {V : α → Value} {o : Oper} {a : Act} {K : Act → World → Prop} {Q : Exit → Act → World → Prop} (s x : Operand) (t : TypeId)
  (ho : o.op = .call { callee := .builtin .append,args := #[s,x],argTypes := #[t,t] })
  (hone : ∀ x,(V x).oneCell' = true) (base : Nat) (e : TypeId) (z : Value) (bytes : Nat) (ht : P.underlying t = some (.slice e)) (hi : (P.info? e).map (fun i => (i.zero,i.size,i.bytes)) = some (some z,1,bytes)) (hzs : z.cells.size = 1)
  (v : Value) (l : List α) (hs : a.eval s = v) (hown : Own V w base e v l) (u : Value) (l2 : List α) (hx : a.eval x = u) (hr : Rd V w u l2)
  (h63 : l.length + l2.length ≤ 9223372036854775807) (hbytes : (l.length + l2.length) * bytes ≤ 140737488355328) (hbase : base ≤ w.heap.size)
  (h : ∀ v' w',Own V w' base e v' (l ++ l2) → w.grownBy w' v.ownBlock → (v'.ownBlock = v.ownBlock ∨ v'.ownBlock = some w.heap.size) → K (a.put o.dst v') w') : o.wp P a w K Q := by
 obtain ⟨v',w',hr,h2,h3,h4⟩ := run_append_rd (P := P) w hone base t o.type e z bytes ht hi hzs v l hown u l2 hr h63 hbytes hbase
 unfold Oper.wp execOp
 simp only [ho,resolve,invoke,builtin,Sem.run_bind,Sem.run_pure,Result.andThen_ok,List.map_toArray,List.map_cons,List.map_nil,hs,hx,hr]
 exact h v' w' h2 h3 h4
set_option maxHeartbeats 4000000 in
set_option maxRecDepth 100000 in
theorem rform_choose (g : GameD) (av tv mv bv : Value) (ms : List AddonM) (a b : List Int) (w : World) (hg : GameR w av tv ms g) (h : LineR w mv bv a b) (ha : a.length ≤ 1000) (hb : b.length ≤ 1000) (hk : g.kind ≠ 2) :
  Calls Tryz.prog 58 #[gameVal g av tv,lineVal mv bv] w (LineF (sortI a) (sortI b) w) := by
 have cC := hide (fun X (hX : Below w.heap.size w X) => rcanon_fr mv bv a b X (h.below hX) ha hb)
 obtain ⟨aa,ac,rfl,hal,ham⟩ := hg.1.1.shape
 obtain ⟨ta,tc,rfl,htl,htm⟩ := hg.2.2.shape
 obtain ⟨ma,mc,rfl,hma,hmc,-⟩ := h.1.form
 obtain ⟨ba,bc,rfl,hba,hbc,-⟩ := h.2.form
 clear h hg
 have hkb : (g.kind == 2) = false := by simpa using hk
 replace hk := hide hk
 unfold lineVal at cC
 unfold lineVal gameVal
 go_enter Tryz.func58,Tryz.ntmps58
 go_upto_region 1 with (fail)
 obtain ⟨W,hW⟩ : ∃ W,W = (((w.alloc (Obj.cells #[.string g.name,.int .i64 g.kind,.int .i64 g.price,.int .i64 g.main,.int .i64 g.of,.int .i64 g.bonus,.int .i64 g.bonusOf,.int .i64 g.extra,.int .i64 g.draws,.int .i64 g.system,.int .i64 g.days,.int .i64 g.at_,.int .i64 g.close,.int .i64 g.cancel,.int .i64 g.expiry,.int .i64 g.pool,.int .i64 g.reserve,.int .i64 g.round,.int .i64 g.cap,.int .i64 g.rolls,(.slice aa ms.length ac),(.slice ta g.tiers.length tc)] 25)).alloc (Obj.cells #[(.slice ma a.length mc),(.slice ba b.length bc)] 58)).alloc (Obj.cells #[(.slice none 0 0),(.slice none 0 0)] 58)) := ⟨_,rfl⟩
 have bW : Below w.heap.size w W := by rw [hW];exact Bel.al (Bel.al (Bel.al (Below.refl _ _) _) _) _
 have r0 : GameAt W (w.heap.size) g ((.slice aa ms.length ac)) ((.slice ta g.tiers.length tc)) := by rw [hW];exact Row.alloc (Row.alloc (Row.new _ _ _) _) _
 have r1 : LineAt W (w.heap.size + 1) ((.slice ma a.length mc)) ((.slice ba b.length bc)) := by rw [hW];exact Row.alloc (Row.at2 _ _ _ _) _
 have r2 : LineAt W (w.heap.size + 1 + 1) ((.slice none 0 0)) ((.slice none 0 0)) := by rw [hW];exact Row.at3 _ _ _ _ _
 have sW : w.heap.size + 1 + 1 < W.heap.size := by rw [hW];simp
 rw [← hW]
 clear hW
 have d1 := r0.kind
 go_wp2_with (first | (refine wpList_load_row rfl 58 _ rfl _ rfl _ _ _ _ r1 Tryz.underlying58 rfl (by kernel_rfl) ?_) | fail)
 refine (cC.out _ bW).mono ?_
 rintro e w1 ⟨u,v,rfl,hlr,fu,fv,hb1⟩
 obtain ⟨u1,u2,u3,rfl⟩ := Rd.shape hlr.1
 obtain ⟨v1,v2,v3,rfl⟩ := Rd.shape hlr.2
 have r2 := r2.keep hb1
 have x0 := LineAt.main r2
 have x1 := LineAt.bonus r2
 have x2 := Row.frozen r2 0
 have x3 := Row.frozen r2 1
 have B1 := Bel.to bW hb1
 have rL : LineAt ((w1.setCell ⟨w.heap.size + 2,0,none⟩ (.slice u1 u2 u3)).setCell ⟨w.heap.size + 2,1,none⟩ (.slice v1 v2 v3)) (w.heap.size + 2) (.slice u1 u2 u3) (.slice v1 v2 v3) := LineAt.store r2 _ _
 have y0 := hide rL.main
 have y1 := hide rL.bonus
 have B9 := Bel.st (Bel.st B1 (p := ⟨w.heap.size + 2,0,none⟩) (by simp) (.slice u1 u2 u3)) (p := ⟨w.heap.size + 2,1,none⟩) (by simp) (.slice v1 v2 v3)
 have c1' : (w1.setCell ⟨w.heap.size + 2,0,none⟩ (.slice u1 u2 u3)).cell? ⟨w.heap.size + 2,1,none⟩ = some (.slice none 0 0) := by go_simp
 have n1 : ∀ x,I64 x ≠ Value.slice none 0 0 := fun x h => by cases h
 have hl9 : LineR ((w1.setCell ⟨w.heap.size + 2,0,none⟩ (.slice u1 u2 u3)).setCell ⟨w.heap.size + 2,1,none⟩ (.slice v1 v2 v3)) (.slice u1 u2 u3) (.slice v1 v2 v3) (sortI a) (sortI b) :=
  ⟨(hlr.1.setNe x0 n1 _).setNe c1' n1 _,(hlr.2.setNe x0 n1 _).setNe c1' n1 _⟩
 have fu := hide (fu.mono bW.size)
 have fv := hide (fv.mono bW.size)
 clear rL hb1 hlr c1'
 unfold lineVal
 go_wp2
 exact bodyPost_ret (v := .agg #[.slice u1 u2 u3,.slice v1 v2 v3]) (by simp [results,Tryz.results58,go_sem,y0.out,y1.out]) rfl ⟨_,_,rfl,hl9,fu.out,fv.out,B9⟩
set_option maxHeartbeats 4000000 in
set_option maxRecDepth 100000 in
theorem rform_digits (g : GameD) (av tv mv bv : Value) (ms : List AddonM) (a b : List Int) (w : World) (hg : GameR w av tv ms g) (h : LineR w mv bv a b) (ha : a.length ≤ 1000) (hb : b.length ≤ 1000) (hk : g.kind = 2) :
  Calls Tryz.prog 58 #[gameVal g av tv,lineVal mv bv] w (LineF a b w) := by
 have hh := hide h
 obtain ⟨aa,ac,rfl,hal,ham⟩ := hg.1.1.shape
 obtain ⟨ta,tc,rfl,htl,htm⟩ := hg.2.2.shape
 obtain ⟨ma,mc,rfl,hma,hmc,-⟩ := h.1.form
 obtain ⟨ba,bc,rfl,hba,hbc,-⟩ := h.2.form
 clear h hg
 have hkb : (g.kind == 2) = true := by simpa using hk
 replace hk := hide hk
 unfold lineVal gameVal
 go_enter Tryz.func58,Tryz.ntmps58
 go_upto_region 1 with (fail)
 obtain ⟨W,hW⟩ : ∃ W,W = (((w.alloc (Obj.cells #[.string g.name,.int .i64 g.kind,.int .i64 g.price,.int .i64 g.main,.int .i64 g.of,.int .i64 g.bonus,.int .i64 g.bonusOf,.int .i64 g.extra,.int .i64 g.draws,.int .i64 g.system,.int .i64 g.days,.int .i64 g.at_,.int .i64 g.close,.int .i64 g.cancel,.int .i64 g.expiry,.int .i64 g.pool,.int .i64 g.reserve,.int .i64 g.round,.int .i64 g.cap,.int .i64 g.rolls,(.slice aa ms.length ac),(.slice ta g.tiers.length tc)] 25)).alloc (Obj.cells #[(.slice ma a.length mc),(.slice ba b.length bc)] 58)).alloc (Obj.cells #[(.slice none 0 0),(.slice none 0 0)] 58)) := ⟨_,rfl⟩
 have bW : Below w.heap.size w W := by rw [hW];exact Bel.al (Bel.al (Bel.al (Below.refl _ _) _) _) _
 have r0 : GameAt W (w.heap.size) g ((.slice aa ms.length ac)) ((.slice ta g.tiers.length tc)) := by rw [hW];exact Row.alloc (Row.alloc (Row.new _ _ _) _) _
 have r1 : LineAt W (w.heap.size + 1) ((.slice ma a.length mc)) ((.slice ba b.length bc)) := by rw [hW];exact Row.alloc (Row.at2 _ _ _ _) _
 have r2 : LineAt W (w.heap.size + 1 + 1) ((.slice none 0 0)) ((.slice none 0 0)) := by rw [hW];exact Row.at3 _ _ _ _ _
 have sW : w.heap.size + 1 + 1 < W.heap.size := by rw [hW];simp
 rw [← hW]
 clear hW
 have d1 := r0.kind
 go_upto_region 2 with (fail)
 clear r0
 have hl0 := hide (fun X (hX : Below W.heap.size W X) => hh.out.below (Bel.to bW hX))
 have bd : Below W.heap.size W W.drew := Below.drewSelf W
 refine wp_region_held_drew (S := fun X => Rng X [(w.heap.size + 1,[.slice ma a.length mc,.slice ba b.length bc])]) (by kernel_rfl) (Rng.drew (Rng.cons r1 (Rng.nil _))) (fun hHeld => ?_)
 refine' wpAnyH_take (i := 1) (oi := _) (v := .pointer (some ⟨w.heap.size + 1,0,none⟩)) rfl (by kernel_rfl) (by kernel_rfl) (by kernel_rfl) (fun _ _ _ h => h) (Or.inl ⟨by rfl,fun X _ => by go_simp⟩) hHeld ?_
 try simp only [Act.put,zsA,zsB,zsC]
 refine' wpAnyH_take (i := 2) (oi := _) (v := .slice ma a.length mc) rfl (by kernel_rfl) (by kernel_rfl) (by kernel_rfl) (fun _ _ _ h => h) (Or.inl ⟨by rfl,fun X hX => by have cX := Rng.cell0 hX 0 _ rfl;go_simp⟩) hHeld ?_
 try simp only [Act.put,zsA,zsB,zsC]
 refine' wpAnyH_take (i := 5) (oi := _) (v := .pointer (some ⟨w.heap.size + 1,1,none⟩)) rfl (by kernel_rfl) (by kernel_rfl) (by kernel_rfl) (fun _ _ _ h => h) (Or.inl ⟨by rfl,fun X _ => by go_simp⟩) hHeld ?_
 try simp only [Act.put,zsA,zsB,zsC]
 refine' wpAnyH_take (i := 6) (oi := _) (v := .slice ba b.length bc) rfl (by kernel_rfl) (by kernel_rfl) (by kernel_rfl) (fun _ _ _ h => h) (Or.inl ⟨by rfl,fun X hX => by have cX := Rng.cell0 hX 1 _ rfl;go_simp⟩) hHeld ?_
 try simp only [Act.put,zsA,zsB,zsC]
 refine wpAnyH_ready (rs := [0,4]) (by kernel_rfl) (by simp) ?_
 refine AllReadyH.cons (o := _) rfl (fun K hK => ?_) (AllReadyH.cons (o := _) rfl (fun K hK => ?_) AllReadyH.nil)
 ·skip
  go_simp
  obtain ⟨Y1,hY1⟩ : ∃ Y,Y = W.drew.alloc (.cells #[] 3) := ⟨_,rfl⟩
  have nY1 : Own I64 Y1 W.heap.size 3 (.slice (some ⟨W.heap.size,0,none⟩) 0 0) [] := by rw [hY1];exact Own.ofRow (m := 0) (z := .int .i64 0) (Row.new _ _ _) (bd.size) (by omega)
  have bY1 : Below W.drew.heap.size W.drew Y1 := by rw [hY1];exact Bel.al (Below.refl _ _) _
  have bY2 : Below W.heap.size W Y1 := Bel.to bd bY1
  have zY1 : W.heap.size < Y1.heap.size := by rw [hY1];simp
  first | rw [← hY1] | (have hZ2 : Y1 = (W.alloc (.cells #[] 3)).drew := hY1;rw [← hZ2];clear hZ2)
  clear hY1
  refine hK.out _ _ (hHeld.keep bY1) (fun hHeld => ?_)
  clear hK K
  try simp only [Act.put,zsA,zsB,zsC]
  refine wpAnyH_ready (rs := [3,4]) (by kernel_rfl) (by simp) ?_
  refine AllReadyH.cons (o := _) rfl (fun K hK => ?_) (AllReadyH.cons (o := _) rfl (fun K hK => ?_) AllReadyH.nil)
  ·skip
   refine wp_append_rd16 _ _ 27 rfl (V := I64) (fun _ => rfl) W.heap.size 3 (.int .i64 0) 8 Tryz.underlying27 infoInt rfl (.slice (some ⟨W.heap.size,0,none⟩) 0 0) [] rfl nY1 _ a rfl (hl0.out Y1 bY2).1 (by simp;omega) (by simp;omega) bY2.size ?_
   intro v4 w3 nw3 gw3 h4
   rw [List.nil_append] at nw3
   have bY5 : Below W.heap.size W w3 := bY2.grown gw3 bY2.size (fun k hk => (nY1.lt k hk).1)
   have pw3 := h4
   have qw3 := nw3.lt
   obtain ⟨v4a,v4c,v4e⟩ := nw3.shape
   have fw3 := nw3.fr
   clear h4
   refine hK.out _ _ (by have := bY5;exact Rng.cons (r1.keep bY5) (Rng.nil _)) (fun hHeld => ?_)
   clear hK K
   try simp only [Act.put,zsA,zsB,zsC]
   refine wpAnyH_ready (rs := [4]) (by kernel_rfl) (by simp) ?_
   refine AllReadyH.cons (o := _) rfl (fun K hK => ?_) AllReadyH.nil
   go_simp
   obtain ⟨Y6,hY6⟩ : ∃ Y,Y = w3.alloc (.cells #[] 3) := ⟨_,rfl⟩
   have nY6 : Own I64 Y6 W.heap.size 3 (.slice (some ⟨w3.heap.size,0,none⟩) 0 0) [] := by rw [hY6];exact Own.ofRow (m := 0) (z := .int .i64 0) (Row.new _ _ _) (bY5.size) (by omega)
   have bY6 : Below w3.heap.size w3 Y6 := by rw [hY6];exact Bel.al (Below.refl _ _) _
   have bY7 : Below W.heap.size W Y6 := Bel.to bY5 bY6
   have lY6 := nw3.lt
   have mY6 := nw3.keep bY6
   have zY6 : w3.heap.size < Y6.heap.size := by rw [hY6];simp
   rw [← hY6]
   clear hY6
   refine hK.out _ _ (hHeld.keep bY6) (fun hHeld => ?_)
   clear hK K
   try simp only [Act.put,zsA,zsB,zsC]
   refine wpAnyH_ready (rs := [7]) (by kernel_rfl) (by simp) ?_
   refine AllReadyH.cons (o := _) rfl (fun K hK => ?_) AllReadyH.nil
   refine wp_append_rd16 _ _ 27 rfl (V := I64) (fun _ => rfl) W.heap.size 3 (.int .i64 0) 8 Tryz.underlying27 infoInt rfl (.slice (some ⟨w3.heap.size,0,none⟩) 0 0) [] rfl nY6 _ b rfl (hl0.out Y6 bY7).2 (by simp;omega) (by simp;omega) bY7.size ?_
   intro v9 w8 nw8 gw8 h4
   rw [List.nil_append] at nw8
   have bY10 : Below W.heap.size W w8 := bY7.grown gw8 bY7.size (fun k hk => (nY6.lt k hk).1)
   have mw8 := mY6.grown gw8 (.inr (fun h => by have h8 := lY6 w3.heap.size (h.trans rfl);omega))
   obtain ⟨v9a,v9c,v9e⟩ := nw8.shape
   have fw8 := nw8.fr
   clear h4
   refine hK.out _ _ (by have := bY10;exact Rng.cons (r1.keep bY10) (Rng.nil _)) (fun hHeld => ?_)
   clear hK K
   try simp only [Act.put,zsA,zsB,zsC]
   skip
   subst v4e
   subst v9e
   refine' wpAnyH_take (i := 8) (oi := _) (v := .agg #[.slice v4a a.length v4c,.slice v9a b.length v9c]) rfl (by kernel_rfl) (by kernel_rfl) (by kernel_rfl) (fun _ _ _ h => h) (Or.inl ⟨by rfl,fun X _ => by go_simp⟩) hHeld ?_
   try simp only [Act.put,zsA,zsB,zsC]
   have s2 := r2.keep bY10
   have x0 := LineAt.main s2
   have x2 := Row.frozen s2 0
   have x1 := LineAt.bonus s2
   have x3 := Row.frozen s2 1
   have rL : LineAt ((w8.setCell ⟨w.heap.size + 2,0,none⟩ (.slice v4a a.length v4c)).setCell ⟨w.heap.size + 2,1,none⟩ (.slice v9a b.length v9c)) (w.heap.size + 2) (.slice v4a a.length v4c) (.slice v9a b.length v9c) := LineAt.store s2 _ _
   have B9 := Bel.st (Bel.st (Bel.to bW bY10) (p := ⟨w.heap.size + 2,0,none⟩) (by simp) (.slice v4a a.length v4c)) (p := ⟨w.heap.size + 2,1,none⟩) (by simp) (.slice v9a b.length v9c)
   have c1' : (w8.setCell ⟨w.heap.size + 2,0,none⟩ (.slice v4a a.length v4c)).cell? ⟨w.heap.size + 2,1,none⟩ = some (.slice none 0 0) := by go_simp
   have n1 : ∀ x,I64 x ≠ Value.slice none 0 0 := fun x h => by cases h
   have hl9 : LineR ((w8.setCell ⟨w.heap.size + 2,0,none⟩ (.slice v4a a.length v4c)).setCell ⟨w.heap.size + 2,1,none⟩ (.slice v9a b.length v9c)) (.slice v4a a.length v4c) (.slice v9a b.length v9c) a b := ⟨(mw8.rd.setNe x0 n1 _).setNe c1' n1 _,(nw8.rd.setNe x0 n1 _).setNe c1' n1 _⟩
   have fu := hide (fw3.mono bW.size)
   have fv := hide (fw8.mono bW.size)
   have rLh := hide rL
   clear rL
   refine wpAnyH_ready (rs := [9]) (by kernel_rfl) (by simp) ?_
   refine AllReadyH.cons (o := _) rfl (fun K hK => ?_) AllReadyH.nil
   go_simp
   refine hK.out _ _ (Rng.cons (Row.far (Row.far (r1.keep bY10) (p := ⟨w.heap.size + 2,0,none⟩) (by simp) _) (p := ⟨w.heap.size + 2,1,none⟩) (by simp) _) (Rng.nil _)) (fun hHeld => ?_)
   clear hK K
   try simp only [Act.put,zsA,zsB,zsC]
   refine wpAnyH_done (by kernel_rfl) ?_ _
   go_simp
   have y0 := rLh.out.main
   have y1 := rLh.out.bonus
   go_wp2
   exact bodyPost_ret (v := .agg #[.slice v4a a.length v4c,.slice v9a b.length v9c]) (by simp [results,Tryz.results58,go_sem,y0,y1]) rfl ⟨_,_,rfl,hl9,fu.out,fv.out,B9⟩
  ·skip
   go_simp
   obtain ⟨Y11,hY11⟩ : ∃ Y,Y = Y1.alloc (.cells #[] 3) := ⟨_,rfl⟩
   have nY11 : Own I64 Y11 W.heap.size 3 (.slice (some ⟨Y1.heap.size,0,none⟩) 0 0) [] := by rw [hY11];exact Own.ofRow (m := 0) (z := .int .i64 0) (Row.new _ _ _) (bY2.size) (by omega)
   have bY11 : Below Y1.heap.size Y1 Y11 := by rw [hY11];exact Bel.al (Below.refl _ _) _
   have bY12 : Below W.heap.size W Y11 := Bel.to bY2 bY11
   have lY11 := nY1.lt
   have mY11 := nY1.keep bY11
   have zY11 : Y1.heap.size < Y11.heap.size := by rw [hY11];simp
   rw [← hY11]
   clear hY11
   refine hK.out _ _ (hHeld.keep bY11) (fun hHeld => ?_)
   clear hK K
   try simp only [Act.put,zsA,zsB,zsC]
   refine wpAnyH_ready (rs := [3]) (by kernel_rfl) (by simp) ?_
   refine AllReadyH.cons (o := _) rfl (fun K hK => ?_) AllReadyH.nil
   refine wp_append_rd16 _ _ 27 rfl (V := I64) (fun _ => rfl) W.heap.size 3 (.int .i64 0) 8 Tryz.underlying27 infoInt rfl (.slice (some ⟨W.heap.size,0,none⟩) 0 0) [] rfl mY11 _ a rfl (hl0.out Y11 bY12).1 (by simp;omega) (by simp;omega) bY12.size ?_
   intro v14 w13 nw13 gw13 h4
   rw [List.nil_append] at nw13
   have bY15 : Below W.heap.size W w13 := bY12.grown gw13 bY12.size (fun k hk => (mY11.lt k hk).1)
   have mw13 := nY11.grown gw13 (.inr (by simp only [Value.ownBlock];intro h;injection h with h;omega))
   have pw13 := h4
   have qw13 := nw13.lt
   obtain ⟨v14a,v14c,v14e⟩ := nw13.shape
   have fw13 := nw13.fr
   clear h4
   refine hK.out _ _ (by have := bY15;exact Rng.cons (r1.keep bY15) (Rng.nil _)) (fun hHeld => ?_)
   clear hK K
   try simp only [Act.put,zsA,zsB,zsC]
   refine wpAnyH_ready (rs := [7]) (by kernel_rfl) (by simp) ?_
   refine AllReadyH.cons (o := _) rfl (fun K hK => ?_) AllReadyH.nil
   refine wp_append_rd16 _ _ 27 rfl (V := I64) (fun _ => rfl) W.heap.size 3 (.int .i64 0) 8 Tryz.underlying27 infoInt rfl (.slice (some ⟨Y1.heap.size,0,none⟩) 0 0) [] rfl mw13 _ b rfl (hl0.out w13 bY15).2 (by simp;omega) (by simp;omega) bY15.size ?_
   intro v17 w16 nw16 gw16 h4
   rw [List.nil_append] at nw16
   have bY18 : Below W.heap.size W w16 := bY15.grown gw16 bY15.size (fun k hk => (mw13.lt k hk).1)
   have mw16 := nw13.grown gw16 (.inr (fun h => by rcases pw13 with h8 | h8 <;> (have h9 := h8.symm.trans h;simp only [Value.ownBlock] at h9;injection h9 with h9;omega)))
   obtain ⟨v17a,v17c,v17e⟩ := nw16.shape
   have fw16 := nw16.fr
   clear h4
   refine hK.out _ _ (by have := bY18;exact Rng.cons (r1.keep bY18) (Rng.nil _)) (fun hHeld => ?_)
   clear hK K
   try simp only [Act.put,zsA,zsB,zsC]
   skip
   subst v14e
   subst v17e
   refine' wpAnyH_take (i := 8) (oi := _) (v := .agg #[.slice v14a a.length v14c,.slice v17a b.length v17c]) rfl (by kernel_rfl) (by kernel_rfl) (by kernel_rfl) (fun _ _ _ h => h) (Or.inl ⟨by rfl,fun X _ => by go_simp⟩) hHeld ?_
   try simp only [Act.put,zsA,zsB,zsC]
   have s2 := r2.keep bY18
   have x0 := LineAt.main s2
   have x2 := Row.frozen s2 0
   have x1 := LineAt.bonus s2
   have x3 := Row.frozen s2 1
   have rL : LineAt ((w16.setCell ⟨w.heap.size + 2,0,none⟩ (.slice v14a a.length v14c)).setCell ⟨w.heap.size + 2,1,none⟩ (.slice v17a b.length v17c)) (w.heap.size + 2) (.slice v14a a.length v14c) (.slice v17a b.length v17c) := LineAt.store s2 _ _
   have B9 := Bel.st (Bel.st (Bel.to bW bY18) (p := ⟨w.heap.size + 2,0,none⟩) (by simp) (.slice v14a a.length v14c)) (p := ⟨w.heap.size + 2,1,none⟩) (by simp) (.slice v17a b.length v17c)
   have c1' : (w16.setCell ⟨w.heap.size + 2,0,none⟩ (.slice v14a a.length v14c)).cell? ⟨w.heap.size + 2,1,none⟩ = some (.slice none 0 0) := by go_simp
   have n1 : ∀ x,I64 x ≠ Value.slice none 0 0 := fun x h => by cases h
   have hl9 : LineR ((w16.setCell ⟨w.heap.size + 2,0,none⟩ (.slice v14a a.length v14c)).setCell ⟨w.heap.size + 2,1,none⟩ (.slice v17a b.length v17c)) (.slice v14a a.length v14c) (.slice v17a b.length v17c) a b := ⟨(mw16.rd.setNe x0 n1 _).setNe c1' n1 _,(nw16.rd.setNe x0 n1 _).setNe c1' n1 _⟩
   have fu := hide (fw13.mono bW.size)
   have fv := hide (fw16.mono bW.size)
   have rLh := hide rL
   clear rL
   refine wpAnyH_ready (rs := [9]) (by kernel_rfl) (by simp) ?_
   refine AllReadyH.cons (o := _) rfl (fun K hK => ?_) AllReadyH.nil
   go_simp
   refine hK.out _ _ (Rng.cons (Row.far (Row.far (r1.keep bY18) (p := ⟨w.heap.size + 2,0,none⟩) (by simp) _) (p := ⟨w.heap.size + 2,1,none⟩) (by simp) _) (Rng.nil _)) (fun hHeld => ?_)
   clear hK K
   try simp only [Act.put,zsA,zsB,zsC]
   refine wpAnyH_done (by kernel_rfl) ?_ _
   go_simp
   have y0 := rLh.out.main
   have y1 := rLh.out.bonus
   go_wp2
   exact bodyPost_ret (v := .agg #[.slice v14a a.length v14c,.slice v17a b.length v17c]) (by simp [results,Tryz.results58,go_sem,y0,y1]) rfl ⟨_,_,rfl,hl9,fu.out,fv.out,B9⟩
 ·skip
  go_simp
  obtain ⟨Y19,hY19⟩ : ∃ Y,Y = W.drew.alloc (.cells #[] 3) := ⟨_,rfl⟩
  have nY19 : Own I64 Y19 W.heap.size 3 (.slice (some ⟨W.heap.size,0,none⟩) 0 0) [] := by rw [hY19];exact Own.ofRow (m := 0) (z := .int .i64 0) (Row.new _ _ _) (bd.size) (by omega)
  have bY19 : Below W.drew.heap.size W.drew Y19 := by rw [hY19];exact Bel.al (Below.refl _ _) _
  have bY20 : Below W.heap.size W Y19 := Bel.to bd bY19
  have zY19 : W.heap.size < Y19.heap.size := by rw [hY19];simp
  first | rw [← hY19] | (have hZ2 : Y19 = (W.alloc (.cells #[] 3)).drew := hY19;rw [← hZ2];clear hZ2)
  clear hY19
  refine hK.out _ _ (hHeld.keep bY19) (fun hHeld => ?_)
  clear hK K
  try simp only [Act.put,zsA,zsB,zsC]
  refine wpAnyH_ready (rs := [0]) (by kernel_rfl) (by simp) ?_
  refine AllReadyH.cons (o := _) rfl (fun K hK => ?_) AllReadyH.nil
  go_simp
  obtain ⟨Y21,hY21⟩ : ∃ Y,Y = Y19.alloc (.cells #[] 3) := ⟨_,rfl⟩
  have nY21 : Own I64 Y21 W.heap.size 3 (.slice (some ⟨Y19.heap.size,0,none⟩) 0 0) [] := by rw [hY21];exact Own.ofRow (m := 0) (z := .int .i64 0) (Row.new _ _ _) (bY20.size) (by omega)
  have bY21 : Below Y19.heap.size Y19 Y21 := by rw [hY21];exact Bel.al (Below.refl _ _) _
  have bY22 : Below W.heap.size W Y21 := Bel.to bY20 bY21
  have lY21 := nY19.lt
  have mY21 := nY19.keep bY21
  have zY21 : Y19.heap.size < Y21.heap.size := by rw [hY21];simp
  rw [← hY21]
  clear hY21
  refine hK.out _ _ (hHeld.keep bY21) (fun hHeld => ?_)
  clear hK K
  try simp only [Act.put,zsA,zsB,zsC]
  refine wpAnyH_ready (rs := [3]) (by kernel_rfl) (by simp) ?_
  refine AllReadyH.cons (o := _) rfl (fun K hK => ?_) AllReadyH.nil
  refine wp_append_rd16 _ _ 27 rfl (V := I64) (fun _ => rfl) W.heap.size 3 (.int .i64 0) 8 Tryz.underlying27 infoInt rfl (.slice (some ⟨Y19.heap.size,0,none⟩) 0 0) [] rfl nY21 _ a rfl (hl0.out Y21 bY22).1 (by simp;omega) (by simp;omega) bY22.size ?_
  intro v24 w23 nw23 gw23 h4
  rw [List.nil_append] at nw23
  have bY25 : Below W.heap.size W w23 := bY22.grown gw23 bY22.size (fun k hk => (nY21.lt k hk).1)
  have mw23 := mY21.grown gw23 (.inr (by simp only [Value.ownBlock];intro h;injection h with h;omega))
  have pw23 := h4
  have qw23 := nw23.lt
  obtain ⟨v24a,v24c,v24e⟩ := nw23.shape
  have fw23 := nw23.fr
  clear h4
  refine hK.out _ _ (by have := bY25;exact Rng.cons (r1.keep bY25) (Rng.nil _)) (fun hHeld => ?_)
  clear hK K
  try simp only [Act.put,zsA,zsB,zsC]
  refine wpAnyH_ready (rs := [7]) (by kernel_rfl) (by simp) ?_
  refine AllReadyH.cons (o := _) rfl (fun K hK => ?_) AllReadyH.nil
  refine wp_append_rd16 _ _ 27 rfl (V := I64) (fun _ => rfl) W.heap.size 3 (.int .i64 0) 8 Tryz.underlying27 infoInt rfl (.slice (some ⟨W.heap.size,0,none⟩) 0 0) [] rfl mw23 _ b rfl (hl0.out w23 bY25).2 (by simp;omega) (by simp;omega) bY25.size ?_
  intro v27 w26 nw26 gw26 h4
  rw [List.nil_append] at nw26
  have bY28 : Below W.heap.size W w26 := bY25.grown gw26 bY25.size (fun k hk => (mw23.lt k hk).1)
  have mw26 := nw23.grown gw26 (.inr (fun h => by rcases pw23 with h8 | h8 <;> (have h9 := h8.symm.trans h;simp only [Value.ownBlock] at h9;injection h9 with h9;omega)))
  obtain ⟨v27a,v27c,v27e⟩ := nw26.shape
  have fw26 := nw26.fr
  clear h4
  refine hK.out _ _ (by have := bY28;exact Rng.cons (r1.keep bY28) (Rng.nil _)) (fun hHeld => ?_)
  clear hK K
  try simp only [Act.put,zsA,zsB,zsC]
  skip
  subst v24e
  subst v27e
  refine' wpAnyH_take (i := 8) (oi := _) (v := .agg #[.slice v24a a.length v24c,.slice v27a b.length v27c]) rfl (by kernel_rfl) (by kernel_rfl) (by kernel_rfl) (fun _ _ _ h => h) (Or.inl ⟨by rfl,fun X _ => by go_simp⟩) hHeld ?_
  try simp only [Act.put,zsA,zsB,zsC]
  have s2 := r2.keep bY28
  have x0 := LineAt.main s2
  have x2 := Row.frozen s2 0
  have x1 := LineAt.bonus s2
  have x3 := Row.frozen s2 1
  have rL : LineAt ((w26.setCell ⟨w.heap.size + 2,0,none⟩ (.slice v24a a.length v24c)).setCell ⟨w.heap.size + 2,1,none⟩ (.slice v27a b.length v27c)) (w.heap.size + 2) (.slice v24a a.length v24c) (.slice v27a b.length v27c) := LineAt.store s2 _ _
  have B9 := Bel.st (Bel.st (Bel.to bW bY28) (p := ⟨w.heap.size + 2,0,none⟩) (by simp) (.slice v24a a.length v24c)) (p := ⟨w.heap.size + 2,1,none⟩) (by simp) (.slice v27a b.length v27c)
  have c1' : (w26.setCell ⟨w.heap.size + 2,0,none⟩ (.slice v24a a.length v24c)).cell? ⟨w.heap.size + 2,1,none⟩ = some (.slice none 0 0) := by go_simp
  have n1 : ∀ x,I64 x ≠ Value.slice none 0 0 := fun x h => by cases h
  have hl9 : LineR ((w26.setCell ⟨w.heap.size + 2,0,none⟩ (.slice v24a a.length v24c)).setCell ⟨w.heap.size + 2,1,none⟩ (.slice v27a b.length v27c)) (.slice v24a a.length v24c) (.slice v27a b.length v27c) a b := ⟨(mw26.rd.setNe x0 n1 _).setNe c1' n1 _,(nw26.rd.setNe x0 n1 _).setNe c1' n1 _⟩
  have fu := hide (fw23.mono bW.size)
  have fv := hide (fw26.mono bW.size)
  have rLh := hide rL
  clear rL
  refine wpAnyH_ready (rs := [9]) (by kernel_rfl) (by simp) ?_
  refine AllReadyH.cons (o := _) rfl (fun K hK => ?_) AllReadyH.nil
  go_simp
  refine hK.out _ _ (Rng.cons (Row.far (Row.far (r1.keep bY28) (p := ⟨w.heap.size + 2,0,none⟩) (by simp) _) (p := ⟨w.heap.size + 2,1,none⟩) (by simp) _) (Rng.nil _)) (fun hHeld => ?_)
  clear hK K
  try simp only [Act.put,zsA,zsB,zsC]
  refine wpAnyH_done (by kernel_rfl) ?_ _
  go_simp
  have y0 := rLh.out.main
  have y1 := rLh.out.bonus
  go_wp2
  exact bodyPost_ret (v := .agg #[.slice v24a a.length v24c,.slice v27a b.length v27c]) (by simp [results,Tryz.results58,go_sem,y0,y1]) rfl ⟨_,_,rfl,hl9,fu.out,fv.out,B9⟩
theorem rform_any (g : GameD) (av tv mv bv : Value) (ms : List AddonM) (l : LineD) (w : World) (hg : GameR w av tv ms g) (h : LineR w mv bv l.1 l.2) (ha : l.1.length ≤ 1000) (hb : l.2.length ≤ 1000) :
  Calls Tryz.prog 58 #[gameVal g av tv,lineVal mv bv] w (LineF (formG g l).1 (formG g l).2 w) := by
 unfold formG
 by_cases hk : g.kind = 2
 ·rw [if_pos hk];exact rform_digits g av tv mv bv ms l.1 l.2 w hg h ha hb hk
 ·rw [if_neg hk];exact rform_choose g av tv mv bv ms l.1 l.2 w hg h ha hb hk
end Go.Proofs.YtfggjlekcdpmmaaGreat
end
section
set_option linter.unusedVariables false
set_option linter.unusedSimpArgs false
namespace Go.Proofs.YtfggjlekcdpmmaaGreat
theorem scan_at {g : GameD} {sys : Bool} {ls : List LineD} {k : Nat} {t : Int} (hk : k < ls.length) :
  scanB g sys (ls.drop k) ((ls.take k).map (formG g)) t = if (sizeB g sys ls[k]).2 ≠ 0 then (0,(sizeB g sys ls[k]).2) else if ∃ j,∃ h : j < k,formG g (ls[j]'(by omega)) = formG g ls[k] then (0,6)
   else scanB g sys (ls.drop (k + 1)) ((ls.take (k + 1)).map (formG g)) (t + (sizeB g sys ls[k]).1) := by
 rw [List.drop_eq_getElem_cons hk,scanB]
 have h1 : (ls.take (k + 1)).map (formG g) = (ls.take k).map (formG g) ++ [formG g ls[k]] := by rw [List.take_succ_eq_append_getElem hk,List.map_append];rfl
 rw [h1]
 have h2 : formG g ls[k] ∈ (ls.take k).map (formG g) ↔ ∃ j,∃ h : j < k,formG g (ls[j]'(by omega)) = formG g ls[k] := by
  constructor
  ·intro h
   obtain ⟨x,hx,e⟩ := List.mem_map.1 h
   obtain ⟨j,hj,rfl⟩ := List.getElem_of_mem hx
   have hjk : j < k := by rw [List.length_take] at hj;omega
   rw [List.getElem_take] at e
   exact ⟨j,hjk,e⟩
  ·rintro ⟨j,hj,e⟩
   rw [← e]
   refine List.mem_map.2 ⟨ls[j],?_,rfl⟩
   exact List.mem_take_iff_getElem.2 ⟨j,by omega,rfl⟩
 by_cases hc : (sizeB g sys ls[k]).2 ≠ 0
 ·rw [if_pos hc,if_pos hc]
 ·rw [if_neg hc,if_neg hc]
  by_cases hm : formG g ls[k] ∈ (ls.take k).map (formG g)
  ·rw [if_pos hm,if_pos (h2.1 hm)]
  ·rw [if_neg hm,if_neg (fun h => hm (h2.2 h))]
end Go.Proofs.YtfggjlekcdpmmaaGreat
end
section
open Go.RowKit
set_option linter.unusedVariables false
set_option linter.unusedSimpArgs false
namespace Go.Proofs.YtfggjlekcdpmmaaGreat
set_option maxHeartbeats 4000000 in
set_option maxRecDepth 100000 in
theorem r16check_bad (g : GameD) (av tv lv : Value) (ms : List AddonM) (B : BetD) (w : World) (hg : GameR w av tv ms g) (hl : LinesR w lv B.lines) (he : gameE g ≠ 0) :
  Calls Tryz.prog 57 #[gameVal g av tv,betVal lv B] w (IntB (gameE g) w) := by
 have cC := hide (fun X (hX : Below w.heap.size w X) => rcheck_any g av tv ms X (hg.below hX))
 obtain ⟨aa,ac,rfl,hal,ham⟩ := hg.1.1.shape
 obtain ⟨ta,tc,rfl,htl,htm⟩ := hg.2.2.shape
 obtain ⟨la,lc,rfl,hlc,hlm⟩ := hl.shape
 obtain ⟨c,hcc⟩ : ∃ c,c = gameE g := ⟨_,rfl⟩
 rw [← hcc] at cC he ⊢
 have hcb : (c != 0) = true := by simpa using he
 clear hg hl hcc
 replace he := hide he
 unfold gameVal at cC ⊢
 unfold betVal
 go_enter Tryz.func57,Tryz.ntmps57
 go_upto_region 1 with (fail)
 obtain ⟨W,hW⟩ : ∃ W,W = ((w.alloc (Obj.cells #[.string g.name,.int .i64 g.kind,.int .i64 g.price,.int .i64 g.main,.int .i64 g.of,.int .i64 g.bonus,.int .i64 g.bonusOf,.int .i64 g.extra,.int .i64 g.draws,.int .i64 g.system,.int .i64 g.days,.int .i64 g.at_,.int .i64 g.close,.int .i64 g.cancel,.int .i64 g.expiry,.int .i64 g.pool,.int .i64 g.reserve,.int .i64 g.round,.int .i64 g.cap,.int .i64 g.rolls,(.slice aa ms.length ac),(.slice ta g.tiers.length tc)] 25)).alloc (Obj.cells #[(.slice la B.lines.length lc),.bool B.sys,.int .i64 B.draws,.int .i64 B.addons] 50)) := ⟨_,rfl⟩
 have bW : Below w.heap.size w W := by rw [hW];exact Bel.al (Bel.al (Below.refl _ _) _) _
 have r0 : GameAt W (w.heap.size) g ((.slice aa ms.length ac)) ((.slice ta g.tiers.length tc)) := by rw [hW];exact Row.alloc (Row.new _ _ _) _
 have r1 : Row W ((w.heap.size + 1)) 50 [(.slice la B.lines.length lc),.bool B.sys,.int .i64 B.draws,.int .i64 B.addons] := by rw [hW];exact Row.at2 _ _ _ _
 have sW : w.heap.size + 1 < W.heap.size := by rw [hW];simp
 rw [← hW]
 clear hW
 go_wp2_with (first | (refine wpList_load_row rfl 25 _ rfl _ rfl _ _ _ _ r0 Tryz.underlying25 rfl (by kernel_rfl) ?_) | fail)
 refine (cC.out _ bW).mono ?_
 rintro e w1 ⟨s,rfl,hb1⟩
 go_wp2
 go_ret
 exact ⟨rfl,Bel.to bW hb1⟩
set_option maxHeartbeats 4000000 in
set_option maxRecDepth 100000 in
theorem r16check_len (g : GameD) (av tv lv : Value) (ms : List AddonM) (B : BetD) (w : World) (hg : GameR w av tv ms g) (hl : LinesR w lv B.lines) (he : gameE g = 0) (hn : B.lines.length < 1 ∨ 16 < B.lines.length) :
  Calls Tryz.prog 57 #[gameVal g av tv,betVal lv B] w (IntB 3 w) := by
 have cC := hide (fun X (hX : Below w.heap.size w X) => rcheck_any g av tv ms X (hg.below hX))
 rw [he] at cC
 obtain ⟨aa,ac,rfl,hal,ham⟩ := hg.1.1.shape
 obtain ⟨ta,tc,rfl,htl,htm⟩ := hg.2.2.shape
 obtain ⟨la,lc,rfl,hlc,hlm⟩ := hl.shape
 obtain ⟨n,hnn⟩ : ∃ n,n = B.lines.length := ⟨_,rfl⟩
 rw [← hnn] at hn
 clear hg hl
 replace he := hide he
 unfold gameVal at cC ⊢
 unfold betVal
 rw [← hnn]
 clear hnn hlc
 rcases hn with hn | hn
 ·obtain rfl : n = 0 := by omega
  go_enter Tryz.func57,Tryz.ntmps57
  go_upto_region 1 with (fail)
  obtain ⟨W,hW⟩ : ∃ W,W = ((w.alloc (Obj.cells #[.string g.name,.int .i64 g.kind,.int .i64 g.price,.int .i64 g.main,.int .i64 g.of,.int .i64 g.bonus,.int .i64 g.bonusOf,.int .i64 g.extra,.int .i64 g.draws,.int .i64 g.system,.int .i64 g.days,.int .i64 g.at_,.int .i64 g.close,.int .i64 g.cancel,.int .i64 g.expiry,.int .i64 g.pool,.int .i64 g.reserve,.int .i64 g.round,.int .i64 g.cap,.int .i64 g.rolls,(.slice aa ms.length ac),(.slice ta g.tiers.length tc)] 25)).alloc (Obj.cells #[(.slice la 0 lc),.bool B.sys,.int .i64 B.draws,.int .i64 B.addons] 50)) := ⟨_,rfl⟩
  have bW : Below w.heap.size w W := by rw [hW];exact Bel.al (Bel.al (Below.refl _ _) _) _
  have r0 : GameAt W (w.heap.size) g ((.slice aa ms.length ac)) ((.slice ta g.tiers.length tc)) := by rw [hW];exact Row.alloc (Row.new _ _ _) _
  have r1 : Row W ((w.heap.size + 1)) 50 [(.slice la 0 lc),.bool B.sys,.int .i64 B.draws,.int .i64 B.addons] := by rw [hW];exact Row.at2 _ _ _ _
  have sW : w.heap.size + 1 < W.heap.size := by rw [hW];simp
  rw [← hW]
  clear hW
  go_wp2_with (first | (refine wpList_load_row rfl 25 _ rfl _ rfl _ _ _ _ r0 Tryz.underlying25 rfl (by kernel_rfl) ?_) | fail)
  refine (cC.out _ bW).mono ?_
  rintro e w1 ⟨s,rfl,hb1⟩
  have c0 : w1.cell? ⟨w.heap.size + 1,0,none⟩ = some (.slice la 0 lc) := ((Row.keep r1 hb1).cell? 0).trans rfl
  go_wp2
  go_ret
  exact ⟨rfl,Bel.to bW hb1⟩
 ·have h1 : (16 : Int) < (n : Int) := by omega
  have h2 : ¬ (n : Int) < 1 := by omega
  go_enter Tryz.func57,Tryz.ntmps57
  go_upto_region 1 with (fail)
  obtain ⟨W,hW⟩ : ∃ W,W = ((w.alloc (Obj.cells #[.string g.name,.int .i64 g.kind,.int .i64 g.price,.int .i64 g.main,.int .i64 g.of,.int .i64 g.bonus,.int .i64 g.bonusOf,.int .i64 g.extra,.int .i64 g.draws,.int .i64 g.system,.int .i64 g.days,.int .i64 g.at_,.int .i64 g.close,.int .i64 g.cancel,.int .i64 g.expiry,.int .i64 g.pool,.int .i64 g.reserve,.int .i64 g.round,.int .i64 g.cap,.int .i64 g.rolls,(.slice aa ms.length ac),(.slice ta g.tiers.length tc)] 25)).alloc (Obj.cells #[(.slice la n lc),.bool B.sys,.int .i64 B.draws,.int .i64 B.addons] 50)) := ⟨_,rfl⟩
  have bW : Below w.heap.size w W := by rw [hW];exact Bel.al (Bel.al (Below.refl _ _) _) _
  have r0 : GameAt W (w.heap.size) g ((.slice aa ms.length ac)) ((.slice ta g.tiers.length tc)) := by rw [hW];exact Row.alloc (Row.new _ _ _) _
  have r1 : Row W ((w.heap.size + 1)) 50 [(.slice la n lc),.bool B.sys,.int .i64 B.draws,.int .i64 B.addons] := by rw [hW];exact Row.at2 _ _ _ _
  have sW : w.heap.size + 1 < W.heap.size := by rw [hW];simp
  rw [← hW]
  clear hW
  go_wp2_with (first | (refine wpList_load_row rfl 25 _ rfl _ rfl _ _ _ _ r0 Tryz.underlying25 rfl (by kernel_rfl) ?_) | fail)
  refine (cC.out _ bW).mono ?_
  rintro e w1 ⟨s,rfl,hb1⟩
  have c0 : w1.cell? ⟨w.heap.size + 1,0,none⟩ = some (.slice la n lc) := ((Row.keep r1 hb1).cell? 0).trans rfl
  go_wp2
  go_ret
  exact ⟨rfl,Bel.to bW hb1⟩
set_option maxHeartbeats 8000000 in
set_option maxRecDepth 100000 in
theorem r16check_scan (g : GameD) (av tv lv : Value) (ms : List AddonM) (B : BetD) (w : World) (hg : GameR w av tv ms g) (hl : LinesR w lv B.lines) (he : gameE g = 0) (h1 : 1 ≤ B.lines.length) (h2 : B.lines.length ≤ 16) :
  Calls Tryz.prog 57 #[gameVal g av tv,betVal lv B] w (IntB (betP g B).2 w) := by
 rw [betP_tail he h1 h2]
 have cC := hide (fun X (hX : Below w.heap.size w X) => rcheck_any g av tv ms X (hg.below hX))
 rw [he] at cC
 have cO := hide (fun X (mv bv : Value) (l : LineD) (hX : Below w.heap.size w X) (hl : LineR X mv bv l.1 l.2) => rone_any g av tv mv bv ms B.sys l X (hg.below hX) hl)
 have cF := hide (fun X (mv bv : Value) (l : LineD) (hX : Below w.heap.size w X) (hl : LineR X mv bv l.1 l.2) (ha : l.1.length ≤ 1000) (hb : l.2.length ≤ 1000) => rform_any g av tv mv bv ms l X (hg.below hX) hl ha hb)
 obtain ⟨R,hR⟩ : ∃ R,R = scanB g B.sys B.lines [] 0 := ⟨_,rfl⟩
 rw [← hR]
 obtain ⟨P,hP⟩ : ∃ P,P = (tailB g B R).2 := ⟨_,rfl⟩
 rw [← hP]
 replace hP := hide hP
 obtain ⟨n,hnn⟩ : ∃ n,n = B.lines.length := ⟨_,rfl⟩
 have hR0 := hide (show scanB g B.sys (B.lines.drop 0) ((B.lines.take 0).map (formG g)) 0 = R by rw [List.drop_zero,List.take_zero,List.map_nil,hR])
 have hadl : ms.length = g.addons.length := by rw [← hg.2.1,List.length_map]
 have hll := hide (fun X (hX : Below w.heap.size w X) => hl.below hX)
 obtain ⟨aa,ac,rfl,hal,ham⟩ := hg.1.1.shape
 obtain ⟨ta,tc,rfl,htl,htm⟩ := hg.2.2.shape
 obtain ⟨la0,lc,rfl,hlc,hlm⟩ := hl.shape
 rw [← hnn] at h1 h2 hlc hll
 obtain ⟨b0,off0,p,q,rfl,-⟩ := (hll.out w (Below.refl _ _)).at_ (i := 0) (by rw [← hnn];omega)
 have n1 : (1 : Int) ≤ (n : Int) := by omega
 have n2 : (n : Int) ≤ 16 := by omega
 replace hnn := hide hnn
 replace he := hide he
 replace hadl := hide hadl
 clear hg hl hR p q
 unfold gameVal at cC cO cF
 unfold gameVal betVal
 rw [← hnn.out]
 go_enter Tryz.func57,Tryz.ntmps57
 go_upto_region 1 with (fail)
 obtain ⟨W,hW⟩ : ∃ W,W = ((w.alloc (Obj.cells #[.string g.name,.int .i64 g.kind,.int .i64 g.price,.int .i64 g.main,.int .i64 g.of,.int .i64 g.bonus,.int .i64 g.bonusOf,.int .i64 g.extra,.int .i64 g.draws,.int .i64 g.system,.int .i64 g.days,.int .i64 g.at_,.int .i64 g.close,.int .i64 g.cancel,.int .i64 g.expiry,.int .i64 g.pool,.int .i64 g.reserve,.int .i64 g.round,.int .i64 g.cap,.int .i64 g.rolls,(.slice aa ms.length ac),(.slice ta g.tiers.length tc)] 25)).alloc (Obj.cells #[(.slice (some ⟨b0,off0,none⟩) n lc),.bool B.sys,.int .i64 B.draws,.int .i64 B.addons] 50)) := ⟨_,rfl⟩
 have bW : Below w.heap.size w W := by rw [hW];exact Bel.al (Bel.al (Below.refl _ _) _) _
 have r0 : GameAt W (w.heap.size) g ((.slice aa ms.length ac)) ((.slice ta g.tiers.length tc)) := by rw [hW];exact Row.alloc (Row.new _ _ _) _
 have r1 : Row W ((w.heap.size + 1)) 50 [(.slice (some ⟨b0,off0,none⟩) n lc),.bool B.sys,.int .i64 B.draws,.int .i64 B.addons] := by rw [hW];exact Row.at2 _ _ _ _
 have sW : w.heap.size + 1 < W.heap.size := by rw [hW];simp
 rw [← hW]
 clear hW
 go_wp2_with (first | (refine wpList_load_row rfl 25 _ rfl _ rfl _ _ _ _ r0 Tryz.underlying25 rfl (by kernel_rfl) ?_) | fail)
 refine (cC.out _ bW).mono ?_
 rintro e w1 ⟨s,rfl,hb1⟩
 have B1 := Bel.to bW hb1
 have r0 := r0.keep hb1
 have r1 := Row.keep r1 hb1
 have c0 : w1.cell? ⟨w.heap.size + 1,0,none⟩ = some (.slice (some ⟨b0,off0,none⟩) n lc) := (r1.cell? 0).trans rfl
 clear hb1 bW cC
 go_wp2
 go_loopg [7,8,9,10,11] n (fun gh t7 t8 _ _ _ wr => ∃ (k : Nat) (tot : Int),gh = n - k ∧ k ≤ n ∧ t8 = .int .i64 (k : Int) ∧ t7 = .int .i64 tot ∧ 0 ≤ tot ∧ tot ≤ 4000 * (k : Int) ∧ Hid (scanB g B.sys (B.lines.drop k) ((B.lines.take k).map (formG g)) tot = R) ∧ Hid (∀ (j : Nat) (hj : j < B.lines.length),j < k → (sizeB g B.sys B.lines[j]).2 = 0) ∧ Below w1.heap.size w1 wr)
 case atStart => exact ⟨0,0,rfl,Nat.zero_le _,rfl,rfl,by omega,by omega,hR0,fun j hj h => absurd h (by omega),Below.refl _ _⟩
 case round =>
  clear c0
  obtain ⟨k,tot,hgh,hk,rfl,rfl,ht0,ht1,hS,hD,hB⟩ := hrel
  replace hgh := hide hgh
  have r0 := r0.keep hB
  have r1 := Row.keep r1 hB
  have c0 : wr.cell? ⟨w.heap.size + 1,0,none⟩ = some (.slice (some ⟨b0,off0,none⟩) n lc) := (r1.cell? 0).trans rfl
  have BW := Bel.to B1 hB
  by_cases hlt : k < n
  ·have hlt2 := hide hlt
   have hlk : k < B.lines.length := by rw [← hnn.out];exact hlt
   have hat := (hll.out wr BW).at_ hlk
   have hS2 := hS.out
   rw [scan_at hlk] at hS2
   obtain ⟨l,hl0⟩ : ∃ l,l = B.lines[k] := ⟨_,rfl⟩
   rw [← hl0] at hat hS2
   obtain ⟨b1,off1,p,q,hla2,hb0,x1,y1,hl⟩ := hat
   injection hla2 with hla2
   injection hla2 with e1 e2
   subst e1 e2
   replace hl0 := hide hl0
   obtain ⟨s1,m1,k1,rfl⟩ := Rd.shape hl.1
   obtain ⟨s2,m2,k2,rfl⟩ := Rd.shape hl.2
   have hrange : wr.rangeAt b0 (off0 + k * 2) [.slice s1 m1 k1,.slice s2 m2 k2] := by
    intro j v hv
    match j,hv with
    | 0,hv => simp at hv;subst hv;exact x1
    | 1,hv => simp at hv;subst hv;exact y1
   have j1 : (0 : Int) ≤ (k : Int) := by omega
   have j2 : (k : Int) < (n : Int) := by omega
   have bd : Below wr.heap.size wr wr.drew := Below.drewSelf _
   have cO4 := hide (cO.out wr.drew _ _ l (Bel.to BW bd) (hl.below bd))
   obtain ⟨Q,hQ⟩ : ∃ Q,Q = sizeB g B.sys l := ⟨_,rfl⟩
   have hsm := size_small (g := g) (sys := B.sys) (l := l)
   have hsz := size_lines (g := g) (sys := B.sys) (l := l)
   rw [← hQ] at cO4 hS2 hsm hsz
   obtain ⟨z,c⟩ := Q
   simp only [] at cO4 hS2 hsm hsz
   unfold lineVal at cO4
   clear x1 y1 hb0
   go_upto_region 10 with (fail)
   refine wp_region_held_drew (S := fun X => Rng X [(w.heap.size,gameCells g (.slice aa ms.length ac) (.slice ta g.tiers.length tc)),(w.heap.size + 1,[.slice (some ⟨b0,off0,none⟩) n lc,.bool B.sys,.int .i64 B.draws,.int .i64 B.addons])] ∧ X.rangeAt b0 (off0 + k * 2) [.slice s1 m1 k1,.slice s2 m2 k2]) (by kernel_rfl) (⟨Rng.drew (Rng.cons r0 (Rng.cons r1 (Rng.nil _))),hrange⟩) (fun hHeld => ?_)
   refine' wpAnyH_take (i := 0) (oi := _) (v := _) rfl (by kernel_rfl) (by kernel_rfl) (by kernel_rfl) (fun _ _ _ h => h) (yieldsIf_load_mid (by first | (go_simp;done) | rfl) 25 _ rfl (w.heap.size) (0) rfl (gameCells g (.slice aa ms.length ac) (.slice ta g.tiers.length tc)) _ (fun X h => Rng.at0 h.1) Tryz.underlying25 rfl (by kernel_rfl)) hHeld ?_
   try simp only [Act.put,zsA,zsB,zsC]
   refine' wpAnyH_take (i := 1) (oi := _) (v := .pointer (some ⟨w.heap.size + 1,1,none⟩)) rfl (by kernel_rfl) (by kernel_rfl) (by kernel_rfl) (fun _ _ _ h => h) (Or.inl ⟨by first | (go_simp;done) | rfl,fun X _ => by go_simp⟩) hHeld ?_
   try simp only [Act.put,zsA,zsB,zsC]
   refine' wpAnyH_take (i := 2) (oi := _) (v := .bool B.sys) rfl (by kernel_rfl) (by kernel_rfl) (by kernel_rfl) (fun _ _ _ h => h) (Or.inl ⟨by first | (go_simp;done) | rfl,fun X hX => by have cX := Rng.cell1 hX.1 1 _ rfl;go_simp⟩) hHeld ?_
   try simp only [Act.put,zsA,zsB,zsC]
   refine' wpAnyH_take (i := 3) (oi := _) (v := .pointer (some ⟨w.heap.size + 1,0,none⟩)) rfl (by kernel_rfl) (by kernel_rfl) (by kernel_rfl) (fun _ _ _ h => h) (Or.inl ⟨by first | (go_simp;done) | rfl,fun X _ => by go_simp⟩) hHeld ?_
   try simp only [Act.put,zsA,zsB,zsC]
   refine' wpAnyH_take (i := 4) (oi := _) (v := .slice (some ⟨b0,off0,none⟩) n lc) rfl (by kernel_rfl) (by kernel_rfl) (by kernel_rfl) (fun _ _ _ h => h) (Or.inl ⟨by first | (go_simp;done) | rfl,fun X hX => by have cX := Rng.cell1 hX.1 0 _ rfl;go_simp⟩) hHeld ?_
   try simp only [Act.put,zsA,zsB,zsC]
   refine' wpAnyH_take (i := 5) (oi := _) (v := .int .i64 (k : Int)) rfl (by kernel_rfl) (by kernel_rfl) (by kernel_rfl) (fun _ _ _ h => h) (Or.inl ⟨by first | (go_simp;done) | rfl,fun X _ => by go_simp⟩) hHeld ?_
   try simp only [Act.put,zsA,zsB,zsC]
   refine' wpAnyH_take (i := 6) (oi := _) (v := .pointer (some ⟨b0,off0 + k * 2,none⟩)) rfl (by kernel_rfl) (by kernel_rfl) (by kernel_rfl) (fun _ _ _ h => h) (Or.inl ⟨by first | (go_simp;done) | rfl,fun X _ => by go_simp⟩) hHeld ?_
   try simp only [Act.put,zsA,zsB,zsC]
   refine' wpAnyH_take (i := 7) (oi := _) (v := .agg #[.slice s1 m1 k1,.slice s2 m2 k2]) rfl (by kernel_rfl) (by kernel_rfl) (by kernel_rfl) (fun _ _ _ h => h) (by refine (yieldsIf_load_mid ?_ 58 (.tmp 46) rfl b0 (off0 + k * 2) ?_ ([.slice s1 m1 k1,.slice s2 m2 k2]) _ (fun X h => h.2) Tryz.underlying58 rfl (by kernel_rfl)) <;> go_simp) hHeld ?_
   try simp only [Act.put,zsA,zsB,zsC]
   refine wpAnyH_ready (rs := [8]) (by kernel_rfl) (by simp) ?_
   refine AllReadyH.cons (o := _) rfl (fun K hK => ?_) AllReadyH.nil
   go_simp
   refine (cO4.out).mono ?_
   rintro e w5 ⟨rfl,hb5⟩
   go_wp2_with fail
   refine hK.out _ _ (⟨Rng.keep hHeld.1 hb5,rangeAt_keep15 hHeld.2 hb5⟩) (fun hHeld => ?_)
   clear hK K
   try simp only [Act.put,zsA,zsB,zsC]
   refine' wpAnyH_take (i := 9) (oi := _) (v := .tuple #[.int .i64 z,.int .i64 c]) rfl (by kernel_rfl) (by kernel_rfl) (by kernel_rfl) (fun _ _ _ h => h) (Or.inl ⟨by first | (go_simp;done) | rfl,fun X _ => by go_simp⟩) hHeld ?_
   try simp only [Act.put,zsA,zsB,zsC]
   refine' wpAnyH_take (i := 10) (oi := _) (v := .int .i64 z) rfl (by kernel_rfl) (by kernel_rfl) (by kernel_rfl) (fun _ _ _ h => h) (Or.inl ⟨by first | (go_simp;done) | rfl,fun X _ => by go_simp⟩) hHeld ?_
   try simp only [Act.put,zsA,zsB,zsC]
   refine' wpAnyH_take (i := 11) (oi := _) (v := .int .i64 c) rfl (by kernel_rfl) (by kernel_rfl) (by kernel_rfl) (fun _ _ _ h => h) (Or.inl ⟨by first | (go_simp;done) | rfl,fun X _ => by go_simp⟩) hHeld ?_
   try simp only [Act.put,zsA,zsB,zsC]
   refine' wpAnyH_take (i := 12) (oi := _) (v := .int .i64 z) rfl (by kernel_rfl) (by kernel_rfl) (by kernel_rfl) (fun _ _ _ h => h) (Or.inl ⟨by first | (go_simp;done) | rfl,fun X _ => by go_simp⟩) hHeld ?_
   try simp only [Act.put,zsA,zsB,zsC]
   refine' wpAnyH_take (i := 13) (oi := _) (v := .int .i64 c) rfl (by kernel_rfl) (by kernel_rfl) (by kernel_rfl) (fun _ _ _ h => h) (Or.inl ⟨by first | (go_simp;done) | rfl,fun X _ => by go_simp⟩) hHeld ?_
   try simp only [Act.put,zsA,zsB,zsC]
   refine wpAnyH_done (by kernel_rfl) ?_ _
   go_simp
   clear hHeld
   have bo := Bel.to bd hb5
   have r0 := r0.keep bo
   have r1 := Row.keep r1 bo
   have B5 := Bel.to BW bo
   have hBo5 := Bel.to hB bo
   have hl5 := hl.below bo
   have hrange5 : w5.rangeAt b0 (off0 + k * 2) [.slice s1 m1 k1,.slice s2 m2 k2] := rangeAt_keep15 hrange bo
   clear cO4 hb5 bd bo hl hrange c0
   by_cases hc : c = 0
   ·subst hc
    rw [if_neg (by simp)] at hS2
    obtain ⟨ha,hb⟩ := hsm rfl
    obtain ⟨hz1,hz2⟩ := hsz rfl
    have hz3 : 0 ≤ z := by rw [hz1];exact Int.natCast_nonneg _
    obtain ⟨fl,hfl⟩ : ∃ fl,fl = formG g l := ⟨_,rfl⟩
    have hQ2 : (sizeB g B.sys l).2 = 0 := by rw [← hQ]
    replace hQ := hide hQ
    replace hS2 := hide hS2
    clear hsm hsz hz1 hB BW
    obtain ⟨W5,hW5⟩ : ∃ W5,W5 = w5 := ⟨_,rfl⟩
    rw [← hW5] at r0 r1 B5 hBo5 hl5 hrange5 ⊢
    clear hW5
    go_wp2
    go_loopg [11] k (fun gh t11 wr => ∃ (j : Nat),gh = k - j ∧ j ≤ k ∧ t11 = .int .i64 (j : Int) ∧ Hid (∀ (i : Nat) (hi : i < B.lines.length),i < j → formG g B.lines[i] ≠ fl) ∧ Below W5.heap.size W5 wr)
    case atStart => exact ⟨0,rfl,Nat.zero_le _,rfl,fun i hi h => absurd h (by omega),Below.refl _ _⟩
    case round =>
     obtain ⟨j,hghj,hj,rfl,hN,hB⟩ := hrel
     replace hghj := hide hghj
     have r0 := r0.keep hB
     have r1 := Row.keep r1 hB
     have BWj := Bel.to B5 hB
     have hBj := Bel.to hBo5 hB
     by_cases hltj : j < k
     ·have hltj2 := hide hltj
      have hlj0 : j < B.lines.length := by omega
      have hat := (hll.out wr BWj).at_ hlj0
      have hsmj := size_small (hD.out j hlj0 hltj)
      obtain ⟨lj,hlj1⟩ : ∃ lj,lj = B.lines[j] := ⟨_,rfl⟩
      rw [← hlj1] at hat hsmj
      obtain ⟨hja,hjb⟩ := hsmj
      obtain ⟨b1,off1,p,q,hla2,hb0,x1,y1,hlj⟩ := hat
      injection hla2 with hla2
      injection hla2 with e1 e2
      subst e1 e2
      replace hlj1 := hide hlj1
      obtain ⟨t1,l1,i1,rfl⟩ := Rd.shape hlj.1
      obtain ⟨t2,l2,i2,rfl⟩ := Rd.shape hlj.2
      have hrangeJ : wr.rangeAt b0 (off0 + j * 2) [.slice t1 l1 i1,.slice t2 l2 i2] := by
       intro r v hv
       match r,hv with
       | 0,hv => simp at hv;subst hv;exact x1
       | 1,hv => simp at hv;subst hv;exact y1
      have hrange : wr.rangeAt b0 (off0 + k * 2) [.slice s1 m1 k1,.slice s2 m2 k2] := rangeAt_keep15 hrange5 hB
      have i1' : (0 : Int) ≤ (j : Int) := by omega
      have i2' : (j : Int) < (k : Int) := by omega
      have i3' : (j : Int) < (n : Int) := by omega
      have bd : Below wr.heap.size wr wr.drew := Below.drewSelf _
      have BWd := Bel.to BWj bd
      have hlj := hlj.below bd
      have cF1 := hide (cF.out wr.drew _ _ l BWd ((hl5.below hB).below bd) ha hb)
      rw [← hfl] at cF1
      unfold lineVal at cF1
      have hflh := hide hfl
      clear x1 y1 hb0 hfl
      go_upto_region 16 with (fail)
      refine wp_region_held_drew (S := fun X => Rng X [(w.heap.size,gameCells g (.slice aa ms.length ac) (.slice ta g.tiers.length tc)),(w.heap.size + 1,[.slice (some ⟨b0,off0,none⟩) n lc,.bool B.sys,.int .i64 B.draws,.int .i64 B.addons])] ∧ X.rangeAt b0 (off0 + k * 2) [.slice s1 m1 k1,.slice s2 m2 k2] ∧ X.rangeAt b0 (off0 + j * 2) [.slice t1 l1 i1,.slice t2 l2 i2]) (by kernel_rfl) (⟨Rng.drew (Rng.cons r0 (Rng.cons r1 (Rng.nil _))),hrange,hrangeJ⟩) (fun hHeld => ?_)
      refine' wpAnyH_take (i := 0) (oi := _) (v := _) rfl (by kernel_rfl) (by kernel_rfl) (by kernel_rfl) (fun _ _ _ h => h) (yieldsIf_load_mid (by first | (go_simp;done) | rfl) 25 _ rfl (w.heap.size) (0) rfl (gameCells g (.slice aa ms.length ac) (.slice ta g.tiers.length tc)) _ (fun X h => Rng.at0 h.1) Tryz.underlying25 rfl (by kernel_rfl)) hHeld ?_
      try simp only [Act.put,zsA,zsB,zsC]
      refine' wpAnyH_take (i := 1) (oi := _) (v := .pointer (some ⟨w.heap.size + 1,0,none⟩)) rfl (by kernel_rfl) (by kernel_rfl) (by kernel_rfl) (fun _ _ _ h => h) (Or.inl ⟨by first | (go_simp;done) | rfl,fun X _ => by go_simp⟩) hHeld ?_
      try simp only [Act.put,zsA,zsB,zsC]
      refine' wpAnyH_take (i := 2) (oi := _) (v := .slice (some ⟨b0,off0,none⟩) n lc) rfl (by kernel_rfl) (by kernel_rfl) (by kernel_rfl) (fun _ _ _ h => h) (Or.inl ⟨by first | (go_simp;done) | rfl,fun X hX => by have cX := Rng.cell1 hX.1 0 _ rfl;go_simp⟩) hHeld ?_
      try simp only [Act.put,zsA,zsB,zsC]
      refine' wpAnyH_take (i := 3) (oi := _) (v := .int .i64 (k : Int)) rfl (by kernel_rfl) (by kernel_rfl) (by kernel_rfl) (fun _ _ _ h => h) (Or.inl ⟨by first | (go_simp;done) | rfl,fun X _ => by go_simp⟩) hHeld ?_
      try simp only [Act.put,zsA,zsB,zsC]
      refine' wpAnyH_take (i := 4) (oi := _) (v := .pointer (some ⟨b0,off0 + k * 2,none⟩)) rfl (by kernel_rfl) (by kernel_rfl) (by kernel_rfl) (fun _ _ _ h => h) (Or.inl ⟨by first | (go_simp;done) | rfl,fun X _ => by go_simp⟩) hHeld ?_
      try simp only [Act.put,zsA,zsB,zsC]
      refine' wpAnyH_take (i := 5) (oi := _) (v := .agg #[.slice s1 m1 k1,.slice s2 m2 k2]) rfl (by kernel_rfl) (by kernel_rfl) (by kernel_rfl) (fun _ _ _ h => h) (by refine (yieldsIf_load_mid ?_ 58 (.tmp 63) rfl b0 (off0 + k * 2) ?_ ([.slice s1 m1 k1,.slice s2 m2 k2]) _ (fun X h => h.2.1) Tryz.underlying58 rfl (by kernel_rfl)) <;> go_simp) hHeld ?_
      try simp only [Act.put,zsA,zsB,zsC]
      refine' wpAnyH_take (i := 7) (oi := _) (v := _) rfl (by kernel_rfl) (by kernel_rfl) (by kernel_rfl) (fun _ _ _ h => h) (yieldsIf_load_mid (by first | (go_simp;done) | rfl) 25 _ rfl (w.heap.size) (0) rfl (gameCells g (.slice aa ms.length ac) (.slice ta g.tiers.length tc)) _ (fun X h => Rng.at0 h.1) Tryz.underlying25 rfl (by kernel_rfl)) hHeld ?_
      try simp only [Act.put,zsA,zsB,zsC]
      refine' wpAnyH_take (i := 8) (oi := _) (v := .pointer (some ⟨w.heap.size + 1,0,none⟩)) rfl (by kernel_rfl) (by kernel_rfl) (by kernel_rfl) (fun _ _ _ h => h) (Or.inl ⟨by first | (go_simp;done) | rfl,fun X _ => by go_simp⟩) hHeld ?_
      try simp only [Act.put,zsA,zsB,zsC]
      refine' wpAnyH_take (i := 9) (oi := _) (v := .slice (some ⟨b0,off0,none⟩) n lc) rfl (by kernel_rfl) (by kernel_rfl) (by kernel_rfl) (fun _ _ _ h => h) (Or.inl ⟨by first | (go_simp;done) | rfl,fun X hX => by have cX := Rng.cell1 hX.1 0 _ rfl;go_simp⟩) hHeld ?_
      try simp only [Act.put,zsA,zsB,zsC]
      refine' wpAnyH_take (i := 10) (oi := _) (v := .int .i64 (j : Int)) rfl (by kernel_rfl) (by kernel_rfl) (by kernel_rfl) (fun _ _ _ h => h) (Or.inl ⟨by first | (go_simp;done) | rfl,fun X _ => by go_simp⟩) hHeld ?_
      try simp only [Act.put,zsA,zsB,zsC]
      refine' wpAnyH_take (i := 11) (oi := _) (v := .pointer (some ⟨b0,off0 + j * 2,none⟩)) rfl (by kernel_rfl) (by kernel_rfl) (by kernel_rfl) (fun _ _ _ h => h) (Or.inl ⟨by first | (go_simp;done) | rfl,fun X _ => by go_simp⟩) hHeld ?_
      try simp only [Act.put,zsA,zsB,zsC]
      refine' wpAnyH_take (i := 12) (oi := _) (v := .agg #[.slice t1 l1 i1,.slice t2 l2 i2]) rfl (by kernel_rfl) (by kernel_rfl) (by kernel_rfl) (fun _ _ _ h => h) (by refine (yieldsIf_load_mid ?_ 58 (.tmp 70) rfl b0 (off0 + j * 2) ?_ ([.slice t1 l1 i1,.slice t2 l2 i2]) _ (fun X h => h.2.2) Tryz.underlying58 rfl (by kernel_rfl)) <;> go_simp) hHeld ?_
      try simp only [Act.put,zsA,zsB,zsC]
      refine wpAnyH_ready (rs := [6]) (by kernel_rfl) (by simp) ?_
      refine AllReadyH.cons (o := _) rfl (fun K hK => ?_) AllReadyH.nil
      go_simp
      refine (cF1.out).mono ?_
      rintro e w6 ⟨fu,fv,rfl,hf1,-,-,hb6⟩
      obtain ⟨u1,u2,u3,rfl⟩ := Rd.shape hf1.1
      obtain ⟨v1,v2,v3,rfl⟩ := Rd.shape hf1.2
      unfold lineVal
      go_wp2_with fail
      refine hK.out _ _ (⟨Rng.keep hHeld.1 hb6,rangeAt_keep15 hHeld.2.1 hb6,rangeAt_keep15 hHeld.2.2 hb6⟩) (fun hHeld => ?_)
      clear hK K
      try simp only [Act.put,zsA,zsB,zsC]
      have BW6 := Bel.to BWd hb6
      have cF2 := hide (cF.out w6 _ _ lj BW6 (hlj.below hb6) hja hjb)
      unfold lineVal at cF2
      refine wpAnyH_ready (rs := [13]) (by kernel_rfl) (by simp) ?_
      refine AllReadyH.cons (o := _) rfl (fun K hK => ?_) AllReadyH.nil
      go_simp
      refine (cF2.out).mono ?_
      rintro e w7 ⟨gu,gv,rfl,hf2,-,-,hb7⟩
      obtain ⟨x1,x2,x3,rfl⟩ := Rd.shape hf2.1
      obtain ⟨y1,y2,y3,rfl⟩ := Rd.shape hf2.2
      unfold lineVal
      go_wp2_with fail
      refine hK.out _ _ (⟨Rng.keep hHeld.1 hb7,rangeAt_keep15 hHeld.2.1 hb7,rangeAt_keep15 hHeld.2.2 hb7⟩) (fun hHeld => ?_)
      clear hK K
      try simp only [Act.put,zsA,zsB,zsC]
      have BW7 := Bel.to BW6 hb7
      have cS := hide (same16_any _ _ _ _ fl.1 fl.2 (formG g lj).1 (formG g lj).2 w7 (hf1.below hb7) hf2)
      obtain ⟨q,hq⟩ : ∃ q,q = decide (fl.1 = (formG g lj).1 ∧ fl.2 = (formG g lj).2) := ⟨_,rfl⟩
      rw [← hq] at cS
      unfold lineVal at cS
      replace hq := hide hq
      refine wpAnyH_ready (rs := [14]) (by kernel_rfl) (by simp) ?_
      refine AllReadyH.cons (o := _) rfl (fun K hK => ?_) AllReadyH.nil
      go_simp
      refine (cS.out).mono ?_
      rintro e w8 ⟨rfl,hb8⟩
      go_wp2_with fail
      refine hK.out _ _ (⟨Rng.keep hHeld.1 hb8,rangeAt_keep15 hHeld.2.1 hb8,rangeAt_keep15 hHeld.2.2 hb8⟩) (fun hHeld => ?_)
      clear hK K
      try simp only [Act.put,zsA,zsB,zsC]
      refine wpAnyH_done (by kernel_rfl) ?_ _
      go_simp
      have BW8 := Bel.to BW7 hb8
      clear hHeld
      have bo := Bel.to (Bel.to (Bel.to bd hb6) hb7) hb8
      have B9 := Bel.to hB bo
      have BE := Bel.to BWj bo
      clear hb6 hb7 hb8 bd bo r0 r1 hlj hf1 hf2 cF1 cF2 cS BW6 BW7 BWd hrange hrangeJ
      cases q
      ·have hne : formG g lj ≠ fl := by
        intro h
        have h9 := of_decide_eq_false hq.out.symm
        exact h9 (by rw [h];exact ⟨rfl,rfl⟩)
       have hN2 : Hid (∀ (i : Nat) (hi : i < B.lines.length),i < j + 1 → formG g B.lines[i] ≠ fl) := by
        intro i hi h
        by_cases e : i = j
        ·subst e;rw [← hlj1.out];exact hne
        ·exact hN.out i hi (by omega)
       replace hq := hide hq
       replace hne := hide hne
       go_wp2
       go_roundg (k - (j + 1))
       case measure => have := hghj.out;have := hltj2.out;omega
       case rel => exact ⟨j + 1,rfl,by have := hltj2.out;omega,by go_num,hN2,B9⟩
      ·have heq : formG g lj = fl := by
        have h9 := of_decide_eq_true hq.out.symm
        exact (Prod.ext h9.1 h9.2).symm
       have hS3 := hS2.out
       rw [← hflh.out,if_pos ⟨j,hltj,by rw [← hlj1.out];exact heq⟩] at hS3
       subst hS3
       have hP2 := hP.out
       rw [show tailB g B (0,6) = (0,6) from by unfold tailB;rw [if_pos (by simp)]] at hP2
       subst hP2
       replace heq := hide heq
       clear hP hS2
       go_wp2
       go_ret
       exact ⟨rfl,BE⟩
     ·have hjk : j = k := by omega
      subst hjk
      have hS3 := hS2.out
      rw [← hfl,if_neg (by rintro ⟨i,hi,e⟩;exact hN.out i (by omega) hi e)] at hS3
      have hS4 : Hid (scanB g B.sys (B.lines.drop (j + 1)) ((B.lines.take (j + 1)).map (formG g)) (tot + z) = R) := hS3
      have hD2 : Hid (∀ (i : Nat) (hi : i < B.lines.length),i < j + 1 → (sizeB g B.sys B.lines[i]).2 = 0) := by
       intro i hi h
       by_cases e : i = j
       ·subst e;rw [← hl0.out];exact hQ2
       ·exact hD.out i hi (by omega)
      have t1 : tot + z ≤ 4000 * ((j + 1 : Nat) : Int) := by omega
      have t2 : 0 ≤ tot + z := by omega
      have t3 : tot + z ≤ 100000 := by omega
      have j3 : ¬ (j : Int) < (j : Int) := by omega
      replace hfl := hide hfl
      clear hS3 hS2 r0 r1
      go_wp2
      go_roundg (n - (j + 1))
      case measure => have := hgh.out;have := hlt2.out;omega
      case rel => exact ⟨j + 1,tot + z,rfl,by have := hlt2.out;omega,by go_num,rfl,t2,t1,hS4,hD2,hBj⟩
   ·rw [if_pos hc] at hS2
    subst hS2
    have hcn : (c != 0) = true := by simpa using hc
    have ht : tailB g B (0,c) = (0,c) := by unfold tailB;rw [if_pos hc]
    have hP2 := hP.out
    rw [ht] at hP2
    subst hP2
    replace hc := hide hc
    clear hsm hsz hP ht
    go_wp2
    go_ret
    exact ⟨rfl,B5⟩
  ·have hS2 := hS.out
   have hkn : k = B.lines.length := by have := hnn.out;omega
   rw [hkn,List.drop_length,scanB] at hS2
   subst hS2
   have d0 : wr.cell? ⟨w.heap.size,20,none⟩ = some (.slice aa ms.length ac) := r0.addons
   have j2 : ¬ (k : Int) < (n : Int) := by omega
   replace hkn := hide hkn
   have hT : tailB g B (tot,0) = if 1024 < tot then (0,3) else if B.draws < 1 ∨ g.draws < B.draws then (0,2) else if B.addons < 0 ∨ 2 ^ g.addons.length ≤ B.addons then (0,2) else (tot,0) := by
    unfold tailB;rw [if_neg (by simp)]
   have hP2 := hP.out
   rw [hT] at hP2
   clear hT hP hS
   by_cases h5 : 1024 < tot
   ·rw [if_pos h5] at hP2
    subst hP2
    go_wp2
    go_ret
    exact ⟨rfl,BW⟩
   ·rw [if_neg h5] at hP2
    have hms := (game_addons he.out).1
    rw [← hadl.out] at hms
    obtain ⟨M,hM⟩ : ∃ M,M = ms.length := ⟨_,rfl⟩
    rw [← hM] at d0 hms hadl
    have hMh := hide hM
    have hM4 : (M : Int) ≤ 4 := by omega
    replace hP2 := hide hP2
    obtain ⟨W5,hW5⟩ : ∃ W5,W5 = wr := ⟨_,rfl⟩
    rw [← hW5] at r0 r1 BW hB d0 c0 ⊢
    clear hW5 hM
    go_wp2
    go_loopg [12,13] M (fun gh t12 t13 wr => ∃ (i : Nat) (q : Int),gh = M - i ∧ i ≤ M ∧ t13 = .int .i64 (i : Int) ∧ t12 = .int .i64 q ∧ Hid (q = 2 ^ i) ∧ Below W5.heap.size W5 wr)
    case atStart => exact ⟨0,1,rfl,Nat.zero_le _,rfl,rfl,rfl,Below.refl _ _⟩
    case round =>
     obtain ⟨i,q,hghi,hi,rfl,rfl,hq,hBi⟩ := hrel
     replace hghi := hide hghi
     have d0 := Bel.cellOf hBi d0
     by_cases hlti : i < M
     ·have hlti2 := hide hlti
      have q1 : 1 ≤ q ∧ q ≤ 8 := by
       have hq9 := hq.out
       have h9 : i = 0 ∨ i = 1 ∨ i = 2 ∨ i = 3 := by omega
       rcases h9 with rfl | rfl | rfl | rfl <;> (simp at hq9;omega)
      obtain ⟨q1,q2⟩ := q1
      have hq3 : Hid (2 * q = 2 ^ (i + 1)) := by show _ = _;rw [Int.pow_succ,hq.out];omega
      have i1 : (i : Int) < (M : Int) := by omega
      go_wp2
      go_roundg (M - (i + 1))
      case measure => have := hghi.out;have := hlti2.out;omega
      case rel => exact ⟨i + 1,2 * q,rfl,by have := hlti2.out;omega,by go_num,rfl,hq3,hBi⟩
     ·have hiM : i = M := by omega
      have hqe : q = 2 ^ g.addons.length := by rw [hq.out,hiM,hadl.out]
      have hP3 := hP2.out
      rw [← hqe] at hP3
      have d8 := (r0.keep hBi).draws
      have e2 : wr.cell? ⟨w.heap.size + 1,2,none⟩ = some (.int .i64 B.draws) := ((Row.keep r1 hBi).cell? 2).trans rfl
      have e3 : wr.cell? ⟨w.heap.size + 1,3,none⟩ = some (.int .i64 B.addons) := ((Row.keep r1 hBi).cell? 3).trans rfl
      have i2 : ¬ (i : Int) < (M : Int) := by omega
      have BE := Bel.to BW hBi
      replace hqe := hide hqe
      replace hiM := hide hiM
      clear hP2 r0 r1
      by_cases h7 : B.draws < 1
      ·rw [if_pos (.inl h7)] at hP3
       subst hP3
       have h7d : decide (B.draws < 1) = true := decide_eq_true h7
       go_wp2
       go_ret
       exact ⟨rfl,BE⟩
      ·have h7d : decide (B.draws < 1) = false := decide_eq_false h7
       by_cases h8 : g.draws < B.draws
       ·rw [if_pos (.inr h8)] at hP3
        subst hP3
        have h8d : decide (g.draws < B.draws) = true := decide_eq_true h8
        go_wp2
        go_ret
        exact ⟨rfl,BE⟩
       ·have h8d : decide (g.draws < B.draws) = false := decide_eq_false h8
        rw [if_neg (by omega)] at hP3
        by_cases h9 : B.addons < 0
        ·rw [if_pos (.inl h9)] at hP3
         subst hP3
         have h9d : decide (B.addons < 0) = true := decide_eq_true h9
         go_wp2
         go_ret
         exact ⟨rfl,BE⟩
        ·have h9d : decide (B.addons < 0) = false := decide_eq_false h9
         by_cases h10 : q ≤ B.addons
         ·rw [if_pos (.inr h10)] at hP3
          subst hP3
          have h10d : decide (q ≤ B.addons) = true := decide_eq_true h10
          go_wp2
          go_ret
          exact ⟨rfl,BE⟩
         ·rw [if_neg (by omega)] at hP3
          subst hP3
          have h10d : decide (q ≤ B.addons) = false := decide_eq_false h10
          go_wp2
          go_ret
          exact ⟨rfl,BE⟩
theorem r16check_any (g : GameD) (av tv lv : Value) (ms : List AddonM) (B : BetD) (w : World) (hg : GameR w av tv ms g) (hl : LinesR w lv B.lines) :
  Calls Tryz.prog 57 #[gameVal g av tv,betVal lv B] w (IntB (betP g B).2 w) := by
 by_cases he : gameE g = 0
 ·by_cases hn : B.lines.length < 1 ∨ 16 < B.lines.length
  ·have : betP g B = (0,3) := by unfold betP;rw [if_neg (by simpa using he),if_pos hn]
   rw [this]
   exact r16check_len g av tv lv ms B w hg hl he hn
  ·exact r16check_scan g av tv lv ms B w hg hl he (by omega) (by omega)
 ·have : betP g B = (0,gameE g) := by unfold betP;rw [if_pos (by simpa using he)]
  rw [this]
  exact r16check_bad g av tv lv ms B w hg hl he
theorem bump_dn (x : Int) (m : Nat) : dn (bump x m) = bump (x - 1) m := by
 unfold dn bump
 rw [List.map_map]
 apply List.map_congr_left
 intro t _
 show x + (t : Int) - 1 = _
 omega
theorem dn_step (l : List Int) (i m : Nat) (hi : i < l.length) : (dn l).take i ++ bump ((dn l).getD i 0 + 1) m = dn (l.take i ++ bump (l.getD i 0 + 1) m) := by
 have h1 : dn (l.take i ++ bump (l.getD i 0 + 1) m) = dn (l.take i) ++ dn (bump (l.getD i 0 + 1) m) := by unfold dn;rw [List.map_append]
 have h2 : dn (l.take i) = (dn l).take i := by unfold dn;rw [List.map_take]
 rw [h1,h2,bump_dn,dn_at l i hi]
 congr 2
 omega
theorem dn_first (n k : Nat) (h : k ≤ n) (P : List Int) (hP : P.length = k) (hv : ∀ j,j < k → P.getD j 0 = (j : Int)) : P = dn (unrankL n 1 0 k) := by
 rw [unrankL_first n k 1 h,bump_dn]
 apply List.ext_getElem
 ·rw [hP,length_bump]
 ·intro j h1 h2
  have := hv j (by omega)
  rw [List.getD_eq_getElem?_getD,List.getElem?_eq_getElem h1] at this
  rw [getElem_bump]
  simp at this
  omega
def SrchI (l : List Int) (n : Int) (k i : Nat) : Prop := (nextI l n k (i + 1)).getD 0 = (nextI l n k k).getD 0
theorem srch_start (l : List Int) (n : Int) (k : Nat) (h : 1 ≤ k) : SrchI l n k (k - 1) := by
 unfold SrchI;rw [show k - 1 + 1 = k by omega]
theorem srch_step {l : List Int} {n : Int} {k i : Nat} (h : SrchI l n k i) (h0 : 0 < i) (he : l.getD i 0 = n - k + 1 + i) : SrchI l n k (i - 1) := by
 unfold SrchI at h ⊢
 rw [nextI,if_pos he] at h
 rw [show i - 1 + 1 = i by omega]
 exact h
theorem srch_end {l : List Int} {n : Int} {k i : Nat} (h : SrchI l n k i) (he : i = 0 ∨ l.getD i 0 ≠ n - k + 1 + i) : (nextI l n k k).getD 0 = i := by
 unfold SrchI at h
 rw [← h,nextI]
 by_cases hc : l.getD i 0 = n - k + 1 + i
 ·rw [if_pos hc]
  rcases he with he | he
  ·subst he;rfl
  ·exact absurd hc he
 ·rw [if_neg hc];rfl
theorem step_next {n k r i : Nat} {P : List Int} (hk : k ≤ n) (hn : n ≤ 80) (hr : r < choose n k) (hi : i < k) (hs : (nextI (unrankL n 1 r k) n k k).getD 0 = i) (hm : midP (dn (unrankL n 1 r k)) i k P) :
  P.length = k ∧ (r + 1 < choose n k → P = dn (unrankL n 1 (r + 1) k)) := by
 have hl := unrankL_len hr (w := 1)
 have hd := dn_len (unrankL n 1 r k)
 have hP : P.length = k := by rw [hm.1,hd,hl]
 refine ⟨hP,fun h1 => ?_⟩
 have h2 : midP (dn (unrankL n 1 r k)) i (dn (unrankL n 1 r k)).length P := by rw [hd,hl];exact hm
 have h3 := midP_end h2 (by rw [hd,hl];exact hi)
 rw [dn_step _ i _ (by rw [hl];exact hi),hd] at h3
 rw [h3,← stepI_mid hk h1 hn]
 unfold stepI
 rw [hl,hs]
theorem dn_bounds {n k r : Nat} (hr : r < choose n k) (i : Nat) (hi : i < (dn (unrankL n 1 r k)).length) : 0 ≤ (dn (unrankL n 1 r k))[i] ∧ (dn (unrankL n 1 r k))[i] < n ∧ (dn (unrankL n 1 r k))[i] = (unrankL n 1 r k).getD i 0 - 1 := by
 have hi' : i < (unrankL n 1 r k).length := by rw [dn_len] at hi;exact hi
 have h1 := dn_at (unrankL n 1 r k) i hi'
 rw [List.getD_eq_getElem?_getD,List.getElem?_eq_getElem hi] at h1
 simp only [Option.getD_some] at h1
 have h2 := places_at hr _ (List.getElem_mem hi')
 have h3 : (unrankL n 1 r k).getD i 0 = (unrankL n 1 r k)[i] := by rw [List.getD_eq_getElem?_getD,List.getElem?_eq_getElem hi'];rfl
 rw [h1,h3]
 omega
theorem comb_at {S : List Int} {k r i y : Nat} (hr : r < choose S.length k) (hi : i < (combS S k r).length) (hy : (unrankL S.length 1 r k).getD i 0 - 1 = (y : Int)) (hyl : y < S.length) : (combS S k r)[i] = S[y] := by
 have hl := unrankL_len hr (w := 1)
 have hi' : i < (unrankL S.length 1 r k).length := by rw [combS_len hr] at hi;omega
 have h3 : (unrankL S.length 1 r k).getD i 0 = (unrankL S.length 1 r k)[i] := by rw [List.getD_eq_getElem?_getD,List.getElem?_eq_getElem hi'];rfl
 rw [h3] at hy
 have h4 : (combS S k r)[i]? = some (S.getD ((unrankL S.length 1 r k)[i] - 1).toNat 0) := by
  unfold combS pickL
  rw [List.getElem?_map,List.getElem?_eq_getElem hi']
  rfl
 rw [List.getElem?_eq_getElem hi,hy,Int.toNat_natCast,List.getD_eq_getElem?_getD,List.getElem?_eq_getElem hyl] at h4
 injection h4
theorem Bel.drNAt {b : Nat} {w W : World} (h : Below b w W) (n : Nat) : Below b w (W.drewN n) := ⟨h.os,h.tape,h.output,h.size,h.block⟩
theorem Bel.thenAt {b : Nat} {w W W1 : World} (h : Below b w W) (hb : Below b W W1) : Below b w W1 := h.trans hb
theorem main_step {X : World} {R1 xb : Nat} {A : List Int} {ao : Option Addr} {n cap : Nat} {bv : Value} (hx : LineAt X xb (.slice ao n cap) bv) (hown : Own I64 X R1 3 (.slice ao n cap) A) (hA : A.length ≤ 100) (y : Int) (hR : R1 ≤ X.heap.size) (hxb : xb < R1) :
  ∃ b7 n7 c7 w7,(Builtin.append_ #[27,27] 27 #[.slice ao n cap,.slice (some ⟨X.heap.size,0,none⟩) 1 1]).run Tryz.prog (X.alloc (Obj.cells #[.int .i64 y] 3)).drew = .ok (.slice b7 n7 c7) w7 ∧
   w7.cell? ⟨xb,0,none⟩ = some (.slice ao n cap) ∧ w7.frozen? ⟨xb,0,none⟩ = false ∧
   ∀ Y,Y = w7.setCell ⟨xb,0,none⟩ (.slice b7 n7 c7) → LineAt Y xb (.slice b7 n7 c7) bv ∧ Own I64 Y R1 3 (.slice b7 n7 c7) (A ++ [y]) ∧ Below xb X Y ∧ R1 ≤ Y.heap.size := by
 have hownA : Own I64 (X.drew.alloc (Obj.cells #[.int .i64 y] 3)) R1 3 (.slice ao n cap) A := Own.alloc (w := X.drew) hown _
 have hsz : (X.drew.alloc (Obj.cells #[.int .i64 y] 3)).heap.size = X.heap.size + 1 := by simp
 have bA : Below X.heap.size X (X.drew.alloc (Obj.cells #[.int .i64 y] 3)) := Bel.al (Below.drew (Below.refl X.heap.size X)) _
 have nY : Rd I64 (X.drew.alloc (Obj.cells #[.int .i64 y] 3)) (.slice (some ⟨X.heap.size,0,none⟩) 1 1) [y] := Rd.new [y] rfl rfl (Nat.le_refl _) (by decide) rfl
 obtain ⟨v7,w7,hr,h2,h3,h4⟩ := run_append_rd (P := Tryz.prog) (X.drew.alloc (Obj.cells #[.int .i64 y] 3)) (V := I64) (fun _ => rfl) R1 27 27 3 (.int .i64 0) 8 Tryz.underlying27 infoInt rfl _ A hownA _ [y] nY (by simp;omega) (by simp;omega) (by omega)
 obtain ⟨b7,n7,c7,rfl⟩ := Rd.shape h2.rd
 have hlt := hownA.lt
 have hne : ∀ b,(Value.slice ao n cap).ownBlock = some b → b ≠ xb := fun b hb => by have := (hlt b hb).1;omega
 have hsx := Row.lt hx
 have hx7 : LineAt w7 xb (.slice ao n cap) bv := Row.grown (Row.keep hx bA) h3 (by intro e;exact hne xb e.symm rfl)
 refine ⟨b7,n7,c7,w7,hr,hx7.main,Row.frozen hx7 0,?_⟩
 rintro Y rfl
 refine ⟨Row.set hx7 0 _,h2.far (by intro e;have := (h2.lt xb e).1;omega) _,?_,?_⟩
 ·have h5 : Below xb X w7 := ((bA.mono (by omega))).grown h3 (by omega) (fun g hg => by have := (hlt g hg).1;omega)
  exact h5.setCell (Nat.le_refl _) _
 ·have := h3.size
  simp [World.setCell]
  omega
theorem at_store {w2 X : World} {gA : Nat} {v : Value} {ls : List LineD} {P : List Int} (h1 : OwnLn X (gA + 1) v ls) (h2 : Row X gA 3 (P.map I64)) (h3 : Below gA w2 X) (h4 : gA + 1 ≤ X.heap.size) (i : Nat) (x : Int) :
  OwnLn (X.setCell ⟨gA,i,none⟩ (.int .i64 x)) (gA + 1) v ls ∧ Row (X.setCell ⟨gA,i,none⟩ (.int .i64 x)) gA 3 ((P.set i x).map I64) ∧ Below gA w2 (X.setCell ⟨gA,i,none⟩ (.int .i64 x)) ∧ gA + 1 ≤ (X.setCell ⟨gA,i,none⟩ (.int .i64 x)).heap.size :=
 ⟨h1.grown (Gb.set (g := gA) (Gb.refl X (some gA)) (p := ⟨gA,i,none⟩) (.inl rfl) _) (fun k hk => by injection hk with hk;omega),h2.setV (V := I64) i x,h3.setCell (p := ⟨gA,i,none⟩) (Nat.le_refl _) _,by simpa [World.setCell] using h4⟩
attribute [local go_sem ↓] app_shut
set_option maxHeartbeats 8000000 in
set_option maxRecDepth 100000 in
theorem rexpand_own (g : GameD) (av tv mv bv : Value) (ms : List AddonM) (a b : List Int) (w : World) (h : GameR w av tv ms g) (hl : LineR w mv bv a b) (he : sysE g a b = 0) (hm : choose a.length g.main.toNat ≤ 1024) :
  Calls Tryz.prog 59 #[gameVal g av tv,lineVal mv bv] w (LinesO (expL (sortI a) (sortI b) g.main.toNat) 0 w) := by
 have cV := hide (fun X (hX : Below w.heap.size w X) => rcount15_any g av tv mv bv ms a b X (h.below hX) (hl.below hX))
 unfold sysP at cV
 rw [if_pos he] at cV
 obtain ⟨g1,g2,g3,g4,g5,g6,g7,g8⟩ := sysE_ok he
 obtain ⟨f1,f2,f3,f4,f5,f6,f7,f8,f9⟩ := sys_bounds g1
 have cA := hide (fun X (hX : Below w.heap.size w X) => sorted15_fr mv a X (hl.below hX).1 (by omega))
 have cB := hide (fun X (hX : Below w.heap.size w X) => sorted15_fr bv b X (hl.below hX).2 (by omega))
 obtain ⟨k,hk⟩ := Int.eq_ofNat_of_zero_le (show 0 ≤ g.main by omega)
 rw [hk,Int.toNat_natCast] at cV hm ⊢
 have k1 : 1 ≤ k := by omega
 have k2 : k ≤ 10 := by omega
 have k3 : k ≤ a.length := by omega
 have a14 : a.length ≤ 14 := by omega
 have b4 : b.length ≤ 4 := by omega
 obtain ⟨q,hq⟩ : ∃ q,q = choose a.length k := ⟨_,rfl⟩
 rw [← hq] at cV hm
 have hq1 : (q : Int) ≤ 1024 := by omega
 have hq0 : (0 : Int) ≤ (q : Int) := by omega
 have hq2 := hide hq
 have a14h := hide a14
 have k3h := hide k3
 have b4h := hide b4
 have kh := hide hk
 obtain ⟨SA,hSA⟩ : ∃ SA,SA = sortI a := ⟨_,rfl⟩
 obtain ⟨SB,hSB⟩ : ∃ SB,SB = sortI b := ⟨_,rfl⟩
 rw [← hSA,← hSB]
 rw [← hSA] at cA
 rw [← hSB] at cB
 have hSAl : SA.length = a.length := by rw [hSA];exact sortI_len a
 have hSBl : SB.length = b.length := by rw [hSB];exact sortI_len b
 replace hSAl := hide hSAl
 replace hSBl := hide hSBl
 replace hSA := hide hSA
 replace hSB := hide hSB
 obtain ⟨i0,hi,hz0,hz1,hz2⟩ := info_parts infoLine15
 obtain ⟨aa,ac,rfl,hal,ham⟩ := h.1.1.shape
 obtain ⟨ta,tc,rfl,htl,htm⟩ := h.2.2.shape
 obtain ⟨ma,mc,rfl,hma,hmc,-⟩ := hl.1.form
 obtain ⟨ba,bc,rfl,hba,hbc,-⟩ := hl.2.form
 clear h hl hq he g1 g2 g3 g4 g5 g6 g7 g8 f1 f2 f3 f4 f5 f6 f7 f8 f9 a14 b4 k3 hk
 unfold gameVal lineVal at cV ⊢
 go_enter Tryz.func59,Tryz.ntmps59
 go_upto_region 1 with (fail)
 obtain ⟨W,hW⟩ : ∃ W,W = ((w.alloc (Obj.cells #[.string g.name,.int .i64 g.kind,.int .i64 g.price,.int .i64 g.main,.int .i64 g.of,.int .i64 g.bonus,.int .i64 g.bonusOf,.int .i64 g.extra,.int .i64 g.draws,.int .i64 g.system,.int .i64 g.days,.int .i64 g.at_,.int .i64 g.close,.int .i64 g.cancel,.int .i64 g.expiry,.int .i64 g.pool,.int .i64 g.reserve,.int .i64 g.round,.int .i64 g.cap,.int .i64 g.rolls,(.slice aa ms.length ac),(.slice ta g.tiers.length tc)] 25)).alloc (Obj.cells #[(.slice ma a.length mc),(.slice ba b.length bc)] 58)) := ⟨_,rfl⟩
 have bW : Below w.heap.size w W := by rw [hW];exact Bel.al (Bel.al (Below.refl _ _) _) _
 have r0 : GameAt W (w.heap.size) g ((.slice aa ms.length ac)) ((.slice ta g.tiers.length tc)) := by rw [hW];exact Row.alloc (Row.new _ _ _) _
 have r1 : LineAt W (w.heap.size + 1) ((.slice ma a.length mc)) ((.slice ba b.length bc)) := by rw [hW];exact Row.at2 _ _ _ _
 have sW : w.heap.size + 1 < W.heap.size := by rw [hW];simp
 rw [← hW]
 clear hW
 go_wp2_with (first | (refine wpList_load_row rfl 25 _ rfl _ rfl _ _ _ _ r0 Tryz.underlying25 rfl (by kernel_rfl) ?_) | (refine wpList_load_row rfl 58 _ rfl _ rfl _ _ _ _ r1 Tryz.underlying58 rfl (by kernel_rfl) ?_) | fail)
 refine (cV.out _ bW).mono ?_
 rintro e w1 ⟨rfl,hb1⟩
 have B1 := Bel.to bW hb1
 have r0 := r0.keep hb1
 have r1 := r1.keep hb1
 clear hb1 bW
 have x0 := r1.main
 go_wp2_with fail
 refine (cA.out _ B1).mono ?_
 rintro e w2 ⟨u,rfl,hrdA,hfA,hb2⟩
 have B2 := Bel.to B1 hb2
 have r0 := r0.keep hb2
 have r1 := r1.keep hb2
 clear hb2 B1 x0 hfA cV cA
 obtain ⟨uo,uc,rfl,hul,hum,-⟩ := Rd.form hrdA
 have hum2 : uc ≤ 9223372036854775807 := by unfold maxLen at hum;omega
 have hSA0 : 0 < SA.length := by have := hSAl.out;have := k3h.out;omega
 obtain ⟨bm,om,rfl,hbm,hcm⟩ := hrdA.at_ hSA0
 have hSA14 : SA.length ≤ 14 := by have := hSAl.out;have := a14h.out;omega
 have hkSA : k ≤ SA.length := by have := hSAl.out;have := k3h.out;omega
 have hC : choose SA.length k = q := by rw [hSAl.out];exact hq2.out.symm
 have hcm := hide hcm
 clear hrdA
 have d3 : w2.cell? ⟨w.heap.size,3,none⟩ = some (.int .i64 (k : Int)) := by have := r0.main;rw [kh.out] at this;exact this
 have x1 := r1.bonus
 replace hC := hide hC
 obtain ⟨gA,hgA⟩ : ∃ gA,gA = w2.heap.size := ⟨_,rfl⟩
 have hwA : w.heap.size < gA := by rw [hgA];exact World.block_lt_of_cell? w2 _ d3
 go_wp2_with (with_reducible refine wpList_make_row _ rfl _ _ 27 rfl 3 (.int .i64 0) 8 Tryz.underlying27 infoInt rfl .i64 .i64 _ _ k k rfl rfl rfl rfl (Nat.le_refl _) (by omega) (by omega) ?_;intro w3 hrow3 hb3 hz3)
 rw [← hgA] at hrow3
 rw [← hgA]
 have hsz3 : w3.heap.size = gA + 1 := by rw [hz3,hgA]
 have hb3' : Below gA w2 w3 := by rw [hgA];exact hb3
 have d3' := Bel.cellOf hb3 d3
 clear hb3 hz3
 replace hgA := hide hgA
 go_wp2
 go_loopg [10] k (fun gh t wr => ∃ (i : Nat) (P : List Int),gh = k - i ∧ i ≤ k ∧ t = .int .i64 (i : Int) ∧ Row wr gA 3 (P.map I64) ∧ Hid (P.length = k) ∧ Hid (∀ j,j < i → P.getD j 0 = (j : Int)) ∧ Below gA w2 wr ∧ Hid (wr.heap.size = gA + 1))
 case atStart => exact ⟨0,List.replicate k 0,rfl,Nat.zero_le _,rfl,by rw [List.map_replicate];exact hrow3,List.length_replicate,fun j hj => by omega,hb3',hsz3⟩
 case round =>
  obtain ⟨i,P,hgh,hik,rfl,hP,hPl,hPv,hB,hsz⟩ := hrel
  replace hgh := hide hgh
  have d3w : wr.cell? ⟨w.heap.size,3,none⟩ = some (.int .i64 (k : Int)) := (hB.cell hwA).trans d3
  by_cases hlt : i < k
  ·have hlt2 := hide hlt
   have e2 := hP.cellV (i := i) (by have := hPl.out;omega)
   have e3 := hP.frozen i
   obtain ⟨y,hy⟩ : ∃ y,y = P[i]'(by have := hPl.out;omega) := ⟨_,rfl⟩
   rw [← hy] at e2
   have hP2 := hP.setV (V := I64) i (i : Int)
   have hl2 : Hid ((P.set i (i : Int)).length = k) := by show _ = _;rw [List.length_set];exact hPl.out
   have hv2 : Hid (∀ j,j < i + 1 → (P.set i (i : Int)).getD j 0 = (j : Int)) := by
    intro j hj
    have := hPl.out
    rw [List.getD_eq_getElem?_getD,List.getElem?_set]
    by_cases e : i = j
    ·subst e;rw [if_pos rfl,if_pos (by omega)];rfl
    ·rw [if_neg e,← List.getD_eq_getElem?_getD];exact hPv.out j (by omega)
   have B9 := hB.setCell (p := ⟨gA,i,none⟩) (Nat.le_refl _) (.int .i64 (i : Int))
   have s9 : Hid ((wr.setCell ⟨gA,i,none⟩ (.int .i64 (i : Int))).heap.size = gA + 1) := by show _ = _;rw [← hsz.out];simp [World.setCell]
   have i1 : (0 : Int) ≤ (i : Int) := by omega
   have i2 : (i : Int) < (k : Int) := by omega
   clear hy hP hPl hPv hB hsz
   go_wp2
   go_roundg (k - (i + 1))
   case measure => have := hgh.out;have := hlt2.out;omega
   case rel => exact ⟨i + 1,_,rfl,by have := hlt2.out;omega,by go_num,hP2,hl2,hv2,B9,s9⟩
  ·obtain rfl : i = k := by omega
   have hL0 := hide (dn_first SA.length i hkSA P hPl.out hPv.out)
   clear hlt hPv hgh
   go_wp2
   obtain ⟨wA,hwA2⟩ : ∃ wA,wA = wr := ⟨_,rfl⟩
   subst hwA2
   go_loopg [11,12,13,14,15] q (fun gh v11 v12 v13 v14 v15 wr => ∃ (r : Nat) (L : List Int) (la : Option Addr) (lc : Nat),gh = q - r ∧ r ≤ q ∧ v11 = .slice la r lc ∧ OwnLn wr (gA + 1) (.slice la r lc) ((List.range r).map fun r => (combS SA i r,SB)) ∧ Row wr gA 3 (L.map I64) ∧ Hid (L.length = i) ∧ Hid (r < q → L = dn (unrankL SA.length 1 r i)) ∧ Below gA w2 wr ∧ gA + 1 ≤ wr.heap.size)
   case atStart => exact ⟨0,P,none,0,rfl,Nat.zero_le _,rfl,OwnLn.nil _ _,hP,hPl,fun _ => hL0.out,hB,by have := hsz.out;omega⟩
   case round =>
    clear hP hPl hL0 hB hsz d3w
    obtain ⟨r,L,la,lc,hgh,hrq,rfl,hown,hLr,hLl,hLv,hB,hszr⟩ := hrel
    replace hgh := hide hgh
    obtain ⟨wo,hwo⟩ : ∃ wo,wo = wr := ⟨_,rfl⟩
    subst hwo
    by_cases hrlt : r < q
    ·have hL := hLv.out hrlt
     subst hL
     have hrC : r < choose SA.length i := by rw [hC.out];exact hrlt
     have hr1024 : r < 1024 := by omega
     have hrC := hide hrC
     have hrlt2 := hide hrlt
     have hi0 : (r : Int) < (q : Int) := by omega
     have r1o : LineAt wo (w.heap.size + 1) (.slice ma a.length mc) (.slice ba b.length bc) := (hB.block _ (by have := Row.lt r1;have := hgA.out;omega)).trans r1
     have x1 := r1o.bonus
     have Bw : Below w.heap.size w wo := Bel.to B2 (by rw [← hgA.out];exact hB)
     have hown := hown
     clear hrlt hLv r1o
     go_wp2_with fail
     refine (cB.out _ Bw).mono ?_
     rintro e w3 ⟨nv,rfl,hrd3,hfr3,hb3⟩
     obtain ⟨n1,n2,n3,rfl⟩ := Rd.shape hrd3
     go_upto_region 15 with (fail)
     obtain ⟨W4,hW4⟩ : ∃ W4,W4 = w3.alloc (Obj.cells #[.slice none 0 0,.slice n1 n2 n3] 58) := ⟨_,rfl⟩
     obtain ⟨xb,hxb⟩ : ∃ xb,xb = w3.heap.size := ⟨_,rfl⟩
     have rX : LineAt W4 xb (.slice none 0 0) (.slice n1 n2 n3) := by rw [hW4,hxb];exact Row.new _ _ _
     have b34 : Below w3.heap.size w3 W4 := by rw [hW4];exact Bel.al (Below.refl _ _) _
     have z4 : W4.heap.size = xb + 1 := by rw [hW4,hxb];simp
     rw [← hW4,← hxb]
     have hxo : wo.heap.size ≤ xb := by rw [hxb];exact hb3.size
     have b4 : Below wo.heap.size wo W4 := Bel.to hb3 b34
     have hrdT := hide (show ∀ Y,Below xb W4 Y → Rd I64 Y (.slice n1 n2 n3) SB by
      intro Y hY
      rw [hxb] at hY
      exact hrd3.below (b34.trans hY))
     have hown4 : Own I64 W4 (xb + 1) 3 (.slice none 0 0) [] := Own.nil _ _ _
     have d4 : W4.cell? ⟨w.heap.size,3,none⟩ = some (.int .i64 (i : Int)) := Bel.cellOf b4 ((hB.cell hwA).trans d3)
     replace z4 := hide z4
     replace hfr3 := hide hfr3
     clear hrd3 hb3 hW4 hxb b34
     go_wp2
     go_loopg [13] i (fun gh t wr => ∃ (j : Nat) (ao : Option Addr) (m cap : Nat),gh = i - j ∧ j ≤ i ∧ t = .int .i64 (j : Int) ∧ LineAt wr xb (.slice ao m cap) (.slice n1 n2 n3) ∧ Own I64 wr (xb + 1) 3 (.slice ao m cap) ((combS SA i r).take j) ∧ Below xb W4 wr ∧ xb + 1 ≤ wr.heap.size)
     case atStart => exact ⟨0,none,0,0,rfl,Nat.zero_le _,rfl,rX,by rw [List.take_zero];exact hown4,Below.refl _ _,by have := z4.out;omega⟩
     case round =>
      obtain ⟨j,ao,m,cap,hgj,hji,rfl,rX,hownA,hBx,hszx⟩ := hrel
      replace hgj := hide hgj
      have hL4 : Row W4 gA 3 ((dn (unrankL SA.length 1 r i)).map I64) := Row.keep hLr b4
      have hLx : Row wr gA 3 ((dn (unrankL SA.length 1 r i)).map I64) := (hBx.block _ (by omega)).trans hL4
      have d5 : wr.cell? ⟨w.heap.size,3,none⟩ = some (.int .i64 (i : Int)) := (hBx.cell (by simp only [];omega)).trans d4
      by_cases hlt : j < i
      ·have hlt2 := hide hlt
       have hjl : j < (dn (unrankL SA.length 1 r i)).length := by have := hLl.out;omega
       obtain ⟨p1,p2,p3⟩ := dn_bounds hrC.out j hjl
       have e1 := hLx.cellV hjl
       obtain ⟨y,hy⟩ := Int.eq_ofNat_of_zero_le p1
       rw [hy] at e1 p2 p3
       have hyl : y < SA.length := by omega
       have hjc : j < (combS SA i r).length := by rw [combS_len hrC.out];exact hlt
       have hz := comb_at hrC.out hjc p3.symm hyl
       have hcz : wr.cell? ⟨bm,om + y,none⟩ = some (.int .i64 (SA[y])) := by
        have h9 := hcm.out y hyl
        have h10 : wo.cell? ⟨bm,om + y,none⟩ = some (I64 SA[y]) := (hB.cell (by have := hgA.out;simp only [];omega)).trans h9
        exact (hBx.cell (by simp only [];have := hgA.out;omega)).trans (Bel.cellOf b4 h10)
       obtain ⟨z,hz2⟩ : ∃ z,z = SA[y] := ⟨_,rfl⟩
       rw [← hz2] at hz hcz
       have hsn : (combS SA i r).take (j + 1) = (combS SA i r).take j ++ [z] := by rw [take_snoc _ j hjc,hz]
       have hAl : ((combS SA i r).take j).length ≤ 100 := by rw [List.length_take];omega
       obtain ⟨b7,n7,c7,w7,hr7,q1,q2,hfin⟩ := main_step rX hownA hAl z hszx (Nat.lt_succ_self _)
       rw [← hsn] at hfin
       rw [app_shut] at hr7
       replace hfin := hide hfin
       have c8 := rX.main
       have j1 : (0 : Int) ≤ (j : Int) := by omega
       have j2 : (j : Int) < (i : Int) := by omega
       have y1 : (0 : Int) ≤ (y : Int) := by omega
       have y2 : (y : Int) < (SA.length : Int) := by omega
       have c8a := fun (o : Obj) => cell_alloc c8 o
       replace hz := hide hz
       replace hz2 := hide hz2
       replace hsn := hide hsn
       replace hy := hide hy
       clear p1 p2 p3 hAl hownA rX hLx hL4
       go_wp2
       go_region
       all_goals go_wp2
       all_goals obtain ⟨t1,t2,t3,t4⟩ := hfin.out _ rfl
       all_goals go_roundg (i - (j + 1))
       case measure => have := hgj.out;have := hlt2.out;omega
       case rel => exact ⟨j + 1,b7,n7,c7,rfl,by have := hlt2.out;omega,by go_num,t1,t2,Bel.thenAt hBx t3,t4⟩
      ·obtain rfl : j = i := by omega
       have hlenc : (combS SA j r).length = j := combS_len hrC.out
       have hownA : Own I64 wr (xb + 1) 3 (.slice ao m cap) (combS SA j r) := by
        have h9 : (combS SA j r).take j = combS SA j r := List.take_of_length_le (by omega)
        rw [h9] at hownA;exact hownA
       have hrdM := hownA.rd
       have hrdB := hrdT.out wr hBx
       have bx5 : Below wo.heap.size wo wr := b4.trans (hBx.mono hxo)
       have hownO := hown.keep bx5
       have hL5 : Row wr gA 3 ((dn (unrankL SA.length 1 r j)).map I64) := Row.keep hLr bx5
       have B5 : Below gA w2 wr := hB.trans (bx5.mono (by omega))
       have s5 := bx5.size
       have q1 := hide (ap_fr15 (v := .slice la r lc) hownA.fr (fun k hk => by have := (hown.lt k hk).2;omega))
       have q2 := hide (ap_fr15 (v := .slice la r lc) hfr3.out (fun k hk => (hown.lt k hk).2))
       have g1 := hide (hownA.fr.mono (show gA + 1 ≤ xb + 1 by omega))
       have g2 := hide (hfr3.out.mono hszr)
       have hrowlt := hide (show ∀ b,(Value.slice la r lc).ownBlock = some b → gA + 1 ≤ b from fun b hb => (hown.lt b hb).1)
       have hle5 : gA + 1 ≤ wr.heap.size := by omega
       obtain ⟨w5,hw5⟩ : ∃ w5,w5 = wr := ⟨_,rfl⟩
       subst hw5
       replace hlenc := hide hlenc
       replace hrdM := hide hrdM
       replace hrdB := hide hrdB
       have x8 := rX.main
       have x9 := rX.bonus
       clear hownA hBx hown hLr hB hszr hLx b4 bx5 hrdT hfr3 hlt d4 hszx s5 x1
       go_upto_region 20 with (first | (refine wpList_load_row rfl 58 _ rfl _ rfl _ _ _ _ rX Tryz.underlying58 rfl (by kernel_rfl) ?_) | (with_reducible refine wpList_append_ln _ rfl _ _ 48 rfl (gA + 1) (.agg #[.slice none 0 0,.slice none 0 0]) 48 Tryz.underlying48 infoLine15 lineZ15 _ ((List.range r).map fun r => (combS SA j r,SB)) rfl ?_ w5.heap.size 1 rfl (.slice ao m cap) (.slice n1 n2 n3) (combS SA j r) SB ?_ ?_ (slice_one15 _ _ _) (slice_one15 _ _ _) ?_ g1.out g2.out ?_ ?_ ?_ ?_ ?_ ?_))
       case refine_1 => exact hownO.keep (Bel.al (Below.refl _ _) _)
       case refine_2 => exact (Row.cell? (Row.new w5 58 [.slice ao m cap,.slice n1 n2 n3]) 0).trans rfl
       case refine_3 => exact (Row.cell? (Row.new w5 58 [.slice ao m cap,.slice n1 n2 n3]) 1).trans rfl
       case refine_4 => exact ⟨hrdM.out.below (Bel.al (Below.refl _ _) _),hrdB.out.below (Bel.al (Below.refl _ _) _)⟩
       case refine_5 => exact q1.out
       case refine_6 => exact q2.out
       case refine_7 => rw [List.length_map,List.length_range];omega
       case refine_8 => rw [List.length_map,List.length_range];omega
       case refine_9 => simp;omega
       intro v7 w7 hown7 hg7
       rw [← expL_step] at hown7
       have hnz : w5.heap.size ≤ (w5.alloc (Obj.cells #[.slice ao m cap,.slice n1 n2 n3] 58)).heap.size := by simp
       have hL7 : Row w7 gA 3 ((dn (unrankL SA.length 1 r j)).map I64) := Row.grown (Row.alloc hL5 _) hg7 (by intro e;have := hrowlt.out gA e.symm;omega)
       have B7 : Below gA w2 w7 := (B5.alloc (by omega) _).grown hg7 (by omega) (fun b hb => by have := hrowlt.out b hb;omega)
       have s7 : gA + 1 ≤ w7.heap.size := by have := hg7.size;omega
       obtain ⟨la7,lc7,rfl⟩ := hown7.shape
       rw [List.length_map,List.length_range] at hown7 ⊢
       have d7 : w7.cell? ⟨w.heap.size,3,none⟩ = some (.int .i64 (j : Int)) := (B7.cell hwA).trans d3
       clear hg7 hnz hownO hL5 B5 hle5 hrowlt q1 q2 g1 g2 hrdM hrdB x8 x9 rX d5
       go_wp2
       go_loopg [14] (j - 1) (fun gh t wr => ∃ (x : Nat),gh = x ∧ x < j ∧ t = .int .i64 (x : Int) ∧ Hid (SrchI (unrankL SA.length 1 r j) SA.length j x) ∧ OwnLn wr (gA + 1) (.slice la7 (r + 1) lc7) ((List.range (r + 1)).map fun r => (combS SA j r,SB)) ∧ Row wr gA 3 ((dn (unrankL SA.length 1 r j)).map I64) ∧ Below gA w2 wr ∧ gA + 1 ≤ wr.heap.size)
       case atStart => exact ⟨j - 1,rfl,by omega,by go_num,srch_start _ _ _ k1,hown7,hL7,B7,s7⟩
       case round =>
        clear hown7 hL7 B7 s7 d7
        obtain ⟨x,hgx,hxj,rfl,hsr,hown7,hL7,B7,s7⟩ := hrel
        replace hgx := hide hgx
        have d7 : wr.cell? ⟨w.heap.size,3,none⟩ = some (.int .i64 (j : Int)) := (B7.cell hwA).trans d3
        have hxl : x < (dn (unrankL SA.length 1 r j)).length := by have := hLl.out;omega
        obtain ⟨p1,p2,p3⟩ := dn_bounds hrC.out x hxl
        have e1 := hL7.cellV hxl
        have e3 := hL7.frozen x
        have hLx0 : (dn (unrankL SA.length 1 r j)).getD x 0 = (dn (unrankL SA.length 1 r j))[x] := by rw [List.getD_eq_getElem?_getD,List.getElem?_eq_getElem hxl];rfl
        obtain ⟨y,hy⟩ := Int.eq_ofNat_of_zero_le p1
        rw [hy] at e1 p2 p3 hLx0
        have hmid : midP (dn (unrankL SA.length 1 r j)) x (x + 1) ((dn (unrankL SA.length 1 r j)).set x ((y : Int) + 1)) := by
         have h0 : midP (dn (unrankL SA.length 1 r j)) x x (dn (unrankL SA.length 1 r j)) := ⟨rfl,fun t _ _ => by rw [if_neg (by omega)]⟩
         have := midP_set h0 (Nat.le_refl x) hxl
         rw [hLx0,Int.sub_self,Int.add_zero] at this
         exact this
        have y1 : (y : Int) ≤ 14 := by omega
        have y0 : (0 : Int) ≤ (y : Int) := by omega
        have j1 : (0 : Int) ≤ (x : Int) := by omega
        have j2 : (x : Int) < (j : Int) := by omega
        have v1 : IntKind.i64.wrap ((SA.length : Int) - (j : Int)) = (SA.length : Int) - (j : Int) := IntWalk.i64_in _ (by omega)
        have v2 : IntKind.i64.wrap ((SA.length : Int) - (j : Int) + (x : Int)) = (SA.length : Int) - (j : Int) + (x : Int) := IntWalk.i64_in _ (by omega)
        replace hLx0 := hide hLx0
        replace hmid := hide hmid
        replace hy := hide hy
        by_cases hx0 : x = 0
        ·subst hx0
         have hst := hide (srch_end hsr.out (.inl rfl))
         clear p1 p2 p3 hsr
         go_wp2
         go_quiet (fail)
         go_wp2
         have oo := hide (fun (n : Nat) => at_store (hown7.keep (Bel.drN (Below.refl _ wr) n)) (hL7.drewN n) (Bel.drNAt B7 n) s7 0 ((y : Int) + 1))
         clear hown7 hL7 B7 s7 d7 e1 e3
         go_loopg [15] (j - (0 + 1)) (fun gh t wr => ∃ (m : Nat) (P : List Int),gh = j - m ∧ 0 + 1 ≤ m ∧ m ≤ j ∧ t = .int .i64 (m : Int) ∧ Hid (midP (dn (unrankL SA.length 1 r j)) 0 m P) ∧ OwnLn wr (gA + 1) (.slice la7 (r + 1) lc7) ((List.range (r + 1)).map fun r => (combS SA j r,SB)) ∧ Row wr gA 3 (P.map I64) ∧ Below gA w2 wr ∧ gA + 1 ≤ wr.heap.size)
         case atStart => exact ⟨0 + 1,_,rfl,Nat.le_refl _,by omega,by go_num,hmid,(oo.out _).1,(oo.out _).2.1,(oo.out _).2.2.1,(oo.out _).2.2.2⟩
         case round =>
          clear oo hmid
          obtain ⟨m,P,hgm,hm1,hm2,rfl,hmid,hown8,hP,B8,s8⟩ := hrel
          replace hgm := hide hgm
          have d8 : wr.cell? ⟨w.heap.size,3,none⟩ = some (.int .i64 (j : Int)) := (B8.cell hwA).trans d3
          have hPl := hmid.out.1
          have hLl2 := hLl.out
          by_cases hmj : m < j
          ·have hmj2 := hide hmj
           have hj3 : m - 1 < P.length := by omega
           have hj4 : m < P.length := by omega
           have e1 := hP.cellV hj3
           have e2 := hP.cellV hj4
           have e3 := hP.frozen m
           have hval := hmid.out.2 (m - 1) hj3 (by omega)
           rw [if_pos (by omega),hLx0.out] at hval
           obtain ⟨z,hz⟩ : ∃ z,z = P[m - 1] := ⟨_,rfl⟩
           rw [← hz] at e1 hval
           have hz1 : z ≤ 200 := by omega
           have hz2 : 0 ≤ z := by omega
           have hset := midP_set hmid.out (by omega : 0 ≤ m) (by omega)
           rw [hLx0.out,show (y : Int) + 1 + ((m : Int) - ((0 : Nat) : Int)) = z + 1 by omega] at hset
           replace hset := hide hset
           obtain ⟨o1,o2,o3,o4⟩ := at_store hown8 hP B8 s8 m (z + 1)
           have m1 : (m : Int) < (j : Int) := by omega
           have m0 : (1 : Int) ≤ (m : Int) := by omega
           have mt : ((m : Int) - 1).toNat = m - 1 := by omega
           clear hz hval hPl hLl2 hown8 hP B8 s8 hmid
           go_wp2
           go_roundg (j - (m + 1))
           case measure => have := hgm.out;have := hmj2.out;omega
           case rel => exact ⟨m + 1,_,rfl,by omega,by have := hmj2.out;omega,by go_num,hset,o1,o2,o3,o4⟩
          ·obtain rfl : m = j := by omega
           have hnx := step_next (n := SA.length) hkSA (by omega) hrC.out hxj hst.out hmid.out
           obtain ⟨n5,n6⟩ := hnx
           replace n5 := hide n5
           replace n6 := hide n6
           clear hPl hLl2 hmid hmj
           go_wp2
           go_roundg (q - (r + 1))
           case measure => have := hgh.out;have := hrlt2.out;omega
           case rel => exact ⟨r + 1,P,la7,lc7,rfl,by have := hrlt2.out;omega,rfl,hown8,hP,n5,fun h => n6.out (by rw [hC.out];exact h),B8,s8⟩
        ·have x1 : (0 : Int) < (x : Int) := by omega
         have xg : decide ((0 : Int) < (x : Int)) = true := decide_eq_true x1
         have xg2 : decide (0 < x) = true := decide_eq_true (by omega)
         by_cases hyx : (y : Int) = (SA.length : Int) - (j : Int) + (x : Int)
         ·have hd : ((y : Int) == (SA.length : Int) - (j : Int) + (x : Int)) = true := by simpa using hyx
          have hst := hide (srch_step hsr.out (by omega) (by omega))
          replace hyx := hide hyx
          replace hx0 := hide hx0
          have hownD := hide (fun n => hown7.keep (Bel.drN (Below.refl _ wr) n))
          have BD := hide (fun n => Bel.drNAt B7 n)
          clear p1 p2 p3 hsr
          go_wp2
          go_quiet (fail)
          go_wp2
          go_roundg (x - 1)
          case measure => have := hgx.out;have := hx0.out;omega
          case rel => exact ⟨x - 1,rfl,by omega,by have := hx0.out;go_num,hst,hownD.out _,hL7.drewN _,BD.out _,s7⟩
         ·have hd : ((y : Int) == (SA.length : Int) - (j : Int) + (x : Int)) = false := by simpa using hyx
          have hst := hide (srch_end hsr.out (.inr (by omega)))
          replace hyx := hide hyx
          replace hx0 := hide hx0
          clear p1 p2 p3 hsr
          go_wp2
          go_quiet (fail)
          go_wp2
          have oo := hide (fun (n : Nat) => at_store (hown7.keep (Bel.drN (Below.refl _ wr) n)) (hL7.drewN n) (Bel.drNAt B7 n) s7 x ((y : Int) + 1))
          clear hown7 hL7 B7 s7 d7 e1 e3
          go_loopg [15] (j - (x + 1)) (fun gh t wr => ∃ (m : Nat) (P : List Int),gh = j - m ∧ x + 1 ≤ m ∧ m ≤ j ∧ t = .int .i64 (m : Int) ∧ Hid (midP (dn (unrankL SA.length 1 r j)) x m P) ∧ OwnLn wr (gA + 1) (.slice la7 (r + 1) lc7) ((List.range (r + 1)).map fun r => (combS SA j r,SB)) ∧ Row wr gA 3 (P.map I64) ∧ Below gA w2 wr ∧ gA + 1 ≤ wr.heap.size)
          case atStart => exact ⟨x + 1,_,rfl,Nat.le_refl _,by omega,by go_num,hmid,(oo.out _).1,(oo.out _).2.1,(oo.out _).2.2.1,(oo.out _).2.2.2⟩
          case round =>
           clear oo hmid
           obtain ⟨m,P,hgm,hm1,hm2,rfl,hmid,hown8,hP,B8,s8⟩ := hrel
           replace hgm := hide hgm
           have d8 : wr.cell? ⟨w.heap.size,3,none⟩ = some (.int .i64 (j : Int)) := (B8.cell hwA).trans d3
           have hPl := hmid.out.1
           have hLl2 := hLl.out
           by_cases hmj : m < j
           ·have hmj2 := hide hmj
            have hj3 : m - 1 < P.length := by omega
            have hj4 : m < P.length := by omega
            have e1 := hP.cellV hj3
            have e2 := hP.cellV hj4
            have e3 := hP.frozen m
            have hval := hmid.out.2 (m - 1) hj3 (by omega)
            rw [if_pos (by omega),hLx0.out] at hval
            obtain ⟨z,hz⟩ : ∃ z,z = P[m - 1] := ⟨_,rfl⟩
            rw [← hz] at e1 hval
            have hz1 : z ≤ 200 := by omega
            have hz2 : 0 ≤ z := by omega
            have hset := midP_set hmid.out (by omega : x ≤ m) (by omega)
            rw [hLx0.out,show (y : Int) + 1 + ((m : Int) - (x : Int)) = z + 1 by omega] at hset
            replace hset := hide hset
            obtain ⟨o1,o2,o3,o4⟩ := at_store hown8 hP B8 s8 m (z + 1)
            have m1 : (m : Int) < (j : Int) := by omega
            have m0 : (1 : Int) ≤ (m : Int) := by omega
            have mt : ((m : Int) - 1).toNat = m - 1 := by omega
            clear hz hval hPl hLl2 hown8 hP B8 s8 hmid
            go_wp2
            go_roundg (j - (m + 1))
            case measure => have := hgm.out;have := hmj2.out;omega
            case rel => exact ⟨m + 1,_,rfl,by omega,by have := hmj2.out;omega,by go_num,hset,o1,o2,o3,o4⟩
           ·obtain rfl : m = j := by omega
            have hnx := step_next (n := SA.length) hkSA (by omega) hrC.out hxj hst.out hmid.out
            obtain ⟨n5,n6⟩ := hnx
            replace n5 := hide n5
            replace n6 := hide n6
            clear hPl hLl2 hmid hmj
            go_wp2
            go_roundg (q - (r + 1))
            case measure => have := hgh.out;have := hrlt2.out;omega
            case rel => exact ⟨r + 1,P,la7,lc7,rfl,by have := hrlt2.out;omega,rfl,hown8,hP,n5,fun h => n6.out (by rw [hC.out];exact h),B8,s8⟩
    ·obtain rfl : r = q := by omega
     have hx : (List.range r).map (fun r => (combS SA i r,SB)) = expL SA SB i := by rw [← hC.out];rfl
     rw [hx] at hown
     have hrd := hown.lower (show w.heap.size ≤ gA + 1 by omega)
     have Bw : Below w.heap.size w wo := Bel.to B2 (by rw [← hgA.out];exact hB)
     clear hown hLr hLv hrlt hgh hx
     go_wp2
     go_ret2
     exact ⟨_,rfl,hrd,Bw⟩
theorem wp_append_lnR {P : Program} {w : World} {o : Oper} {a : Act} {K : Act → World → Prop} {Q : Exit → Act → World → Prop} (s x : Operand) (t : TypeId)
  (ho : o.op = .call { callee := .builtin .append,args := #[s,x],argTypes := #[t,t] })
  (base : Nat) (z : Value) (bytes : Nat) (ht : P.underlying t = some (.slice 58)) (hi : (P.info? 58).map (fun i => (i.zero,i.size,i.bytes)) = some (some z,2,bytes)) (hzs : z.cells.size = 2)
  (v : Value) (ls : List LineD) (hs : a.eval s = v) (hown : OwnLn w base v ls) (h : Nat) (c : Nat) (hx : a.eval x = .slice (some ⟨h,0,none⟩) 1 c) (mv bv : Value) (p q : List Int) (hc0 : w.cell? ⟨h,0,none⟩ = some mv) (hc1 : w.cell? ⟨h,1,none⟩ = some bv)
  (hm1 : mv.oneCell' = true) (hb1 : bv.oneCell' = true)
  (hl : LineR w mv bv p q) (f1 : Fr base mv p) (f2 : Fr base bv q) (p1 : Ap mv v p) (p2 : Ap bv v q)
  (h63 : ls.length + 1 ≤ 9223372036854775807) (hbytes : (ls.length + 1) * bytes ≤ 140737488355328) (hbase : base ≤ w.heap.size)
  (h : ∀ v' w',OwnLn w' base v' (ls ++ [(p,q)]) → w.grownBy w' v.ownBlock → K (a.put o.dst v') w') : o.wp P a w K Q := by
 obtain ⟨v',w',hr,h2,h3⟩ := run_append_ln (P := P) w base t o.type z bytes ht hi hzs v ls hown _ c mv bv p q hc0 hc1 hm1 hb1 hl f1 f2 p1 p2 h63 hbytes hbase
 unfold Oper.wp execOp
 simp only [ho,resolve,invoke,builtin,Sem.run_bind,Sem.run_pure,Result.andThen_ok,List.map_toArray,List.map_cons,List.map_nil,hs,hx,hr]
 exact h v' w' h2 h3
set_option maxHeartbeats 2000000 in
set_option maxRecDepth 100000 in
theorem r16lines_bad (g : GameD) (av tv lv : Value) (ms : List AddonM) (B : BetD) (w : World) (hg : GameR w av tv ms g) (hl : LinesR w lv B.lines) (hc : (betP g B).2 ≠ 0) :
  Calls Tryz.prog 27 #[gameVal g av tv,betVal lv B] w (LinesO [] (betP g B).2 w) := by
 have cC := hide (fun X (hX : Below w.heap.size w X) => r16check_any g av tv lv ms B X (hg.below hX) (hl.below hX))
 obtain ⟨c,hR⟩ : ∃ c,c = (betP g B).2 := ⟨_,rfl⟩
 rw [← hR] at cC hc ⊢
 obtain ⟨aa,ac,rfl,hal,ham⟩ := hg.1.1.shape
 obtain ⟨ta,tc,rfl,htl,htm⟩ := hg.2.2.shape
 obtain ⟨la,lc,rfl,hlc,hlm⟩ := hl.shape
 clear hg hl hR
 have hcb : (c != 0) = true := by simpa using hc
 replace hc := hide hc
 unfold gameVal betVal at cC ⊢
 go_enter Tryz.func27,Tryz.ntmps27
 go_upto_region 1 with (fail)
 obtain ⟨W,hW⟩ : ∃ W,W = ((w.alloc (Obj.cells #[.string g.name,.int .i64 g.kind,.int .i64 g.price,.int .i64 g.main,.int .i64 g.of,.int .i64 g.bonus,.int .i64 g.bonusOf,.int .i64 g.extra,.int .i64 g.draws,.int .i64 g.system,.int .i64 g.days,.int .i64 g.at_,.int .i64 g.close,.int .i64 g.cancel,.int .i64 g.expiry,.int .i64 g.pool,.int .i64 g.reserve,.int .i64 g.round,.int .i64 g.cap,.int .i64 g.rolls,(.slice aa ms.length ac),(.slice ta g.tiers.length tc)] 25)).alloc (Obj.cells #[(.slice la B.lines.length lc),.bool B.sys,.int .i64 B.draws,.int .i64 B.addons] 50)) := ⟨_,rfl⟩
 have bW : Below w.heap.size w W := by rw [hW];exact Bel.al (Bel.al (Below.refl _ _) _) _
 have r0 : GameAt W (w.heap.size) g ((.slice aa ms.length ac)) ((.slice ta g.tiers.length tc)) := by rw [hW];exact Row.alloc (Row.new _ _ _) _
 have r1 : Row W ((w.heap.size + 1)) 50 [(.slice la B.lines.length lc),.bool B.sys,.int .i64 B.draws,.int .i64 B.addons] := by rw [hW];exact Row.at2 _ _ _ _
 have sW : w.heap.size + 1 < W.heap.size := by rw [hW];simp
 rw [← hW]
 clear hW
 go_wp2_with (first | (refine wpList_load_row rfl 25 _ rfl _ rfl _ _ _ _ r0 Tryz.underlying25 rfl (by kernel_rfl) ?_) | (refine wpList_load_row rfl 50 _ rfl _ rfl _ _ _ _ r1 Tryz.underlying50 rfl (by kernel_rfl) ?_) | fail)
 refine (cC.out _ bW).mono ?_
 rintro e w1 ⟨rfl,hb1⟩
 go_wp2
 go_ret2
 exact ⟨.slice none 0 0,rfl,OwnLn.nil _ _,Bel.to bW hb1⟩
set_option maxHeartbeats 8000000 in
set_option maxRecDepth 100000 in
theorem r16lines_ok (g : GameD) (av tv lv : Value) (ms : List AddonM) (B : BetD) (w : World) (hg : GameR w av tv ms g) (hl : LinesR w lv B.lines) (hc : (betP g B).2 = 0) :
  Calls Tryz.prog 27 #[gameVal g av tv,betVal lv B] w (LinesO (linesB g B) 0 w) := by
 have cC := hide (fun X (hX : Below w.heap.size w X) => r16check_any g av tv lv ms B X (hg.below hX) (hl.below hX))
 obtain ⟨p1,p2,p3,p4,p5,p6,p7,p8,p9,p10⟩ := betP_ok hc
 rw [hc] at cC
 have cE := hide (fun X (mv bv : Value) (l : LineD) (hX : Below w.heap.size w X) (hl : LineR X mv bv l.1 l.2) (he : sysE g l.1 l.2 = 0) (hm : choose l.1.length g.main.toNat ≤ 1024) => rexpand_own g av tv mv bv ms l.1 l.2 X (hg.below hX) hl he hm)
 have cF := hide (fun X (mv bv : Value) (l : LineD) (hX : Below w.heap.size w X) (hl : LineR X mv bv l.1 l.2) (ha : l.1.length ≤ 1000) (hb : l.2.length ≤ 1000) => rform_any g av tv mv bv ms l X (hg.below hX) hl ha hb)
 have hll := hide (fun X (hX : Below w.heap.size w X) => hl.below hX)
 obtain ⟨N,hN⟩ : ∃ N,N = (linesB g B).length := ⟨_,rfl⟩
 rw [← hN] at p5
 have hN2 := hide (show N = (B.lines.flatMap (lineB g B.sys)).length from hN)
 obtain ⟨T,hT⟩ : ∃ T,T = linesB g B := ⟨_,rfl⟩
 rw [← hT]
 have hT2 := hide (show T = B.lines.flatMap (lineB g B.sys) from hT)
 obtain ⟨n,hnn⟩ : ∃ n,n = B.lines.length := ⟨_,rfl⟩
 obtain ⟨aa,ac,rfl,hal,ham⟩ := hg.1.1.shape
 obtain ⟨ta,tc,rfl,htl,htm⟩ := hg.2.2.shape
 obtain ⟨la0,lc,rfl,hlc,hlm⟩ := hl.shape
 rw [← hnn] at p2 p3 hlc hll
 obtain ⟨b0,off0,p,q,rfl,-⟩ := (hll.out w (Below.refl _ _)).at_ (i := 0) (by rw [← hnn];omega)
 have n1 : (1 : Int) ≤ (n : Int) := by omega
 have n2 : (n : Int) ≤ 16 := by omega
 have p10 := hide p10
 replace hnn := hide hnn
 clear hg hl hc p1 p4 p6 p7 p8 p9 hN hT p q
 unfold gameVal betVal at cC
 unfold gameVal at cE cF
 unfold gameVal betVal
 rw [← hnn.out] at cC ⊢
 go_enter Tryz.func27,Tryz.ntmps27
 go_upto_region 1 with (fail)
 obtain ⟨W,hW⟩ : ∃ W,W = ((w.alloc (Obj.cells #[.string g.name,.int .i64 g.kind,.int .i64 g.price,.int .i64 g.main,.int .i64 g.of,.int .i64 g.bonus,.int .i64 g.bonusOf,.int .i64 g.extra,.int .i64 g.draws,.int .i64 g.system,.int .i64 g.days,.int .i64 g.at_,.int .i64 g.close,.int .i64 g.cancel,.int .i64 g.expiry,.int .i64 g.pool,.int .i64 g.reserve,.int .i64 g.round,.int .i64 g.cap,.int .i64 g.rolls,(.slice aa ms.length ac),(.slice ta g.tiers.length tc)] 25)).alloc (Obj.cells #[(.slice (some ⟨b0,off0,none⟩) n lc),.bool B.sys,.int .i64 B.draws,.int .i64 B.addons] 50)) := ⟨_,rfl⟩
 have bW : Below w.heap.size w W := by rw [hW];exact Bel.al (Bel.al (Below.refl _ _) _) _
 have r0 : GameAt W (w.heap.size) g ((.slice aa ms.length ac)) ((.slice ta g.tiers.length tc)) := by rw [hW];exact Row.alloc (Row.new _ _ _) _
 have r1 : Row W ((w.heap.size + 1)) 50 [(.slice (some ⟨b0,off0,none⟩) n lc),.bool B.sys,.int .i64 B.draws,.int .i64 B.addons] := by rw [hW];exact Row.at2 _ _ _ _
 have sW : w.heap.size + 1 < W.heap.size := by rw [hW];simp
 rw [← hW]
 clear hW
 go_wp2_with (first | (refine wpList_load_row rfl 25 _ rfl _ rfl _ _ _ _ r0 Tryz.underlying25 rfl (by kernel_rfl) ?_) | (refine wpList_load_row rfl 50 _ rfl _ rfl _ _ _ _ r1 Tryz.underlying50 rfl (by kernel_rfl) ?_) | fail)
 refine (cC.out _ bW).mono ?_
 rintro e w1 ⟨rfl,hb1⟩
 have B1 := Bel.to bW hb1
 have R0 := r0.keep hb1
 have R1 := Row.keep r1 hb1
 have hs1 : w.heap.size + 1 < w1.heap.size := R1.lt
 clear hb1 bW cC r0 r1
 go_wp2
 go_loopg [7,8,9,10] n (fun gh t7 t8 _ _ wr => ∃ (k : Nat) (E : List LineD) (ea : Option Addr) (em ec : Nat),gh = n - k ∧ k ≤ n ∧ t8 = .int .i64 (k : Int) ∧ t7 = .slice ea em ec ∧ OwnLn wr w1.heap.size (.slice ea em ec) E ∧ Hid (E = (B.lines.take k).flatMap (lineB g B.sys)) ∧ Below w1.heap.size w1 wr)
 case atStart => exact ⟨0,[],none,0,0,rfl,Nat.zero_le _,rfl,rfl,OwnLn.nil _ _,rfl,Below.refl _ _⟩
 case round =>
  obtain ⟨k,E,ea,em,ec,hgh,hk,rfl,rfl,hown,hE,hB⟩ := hrel
  replace hgh := hide hgh
  have r0 := R0.keep hB
  have r1 := Row.keep R1 hB
  have c0 : wr.cell? ⟨w.heap.size + 1,0,none⟩ = some (.slice (some ⟨b0,off0,none⟩) n lc) := (r1.cell? 0).trans rfl
  have cb : wr.cell? ⟨w.heap.size + 1,1,none⟩ = some (.bool B.sys) := (r1.cell? 1).trans rfl
  have BW := Bel.to B1 hB
  by_cases hlt : k < n
  ·have hlt2 := hide hlt
   have hlk : k < B.lines.length := by rw [← hnn.out];exact hlt
   obtain ⟨bq,offq,p,q,hla2,hb0,x1,y1,hl⟩ := (hll.out w1 B1).at_ hlk
   injection hla2 with hla2
   injection hla2 with e1 e2
   subst e1 e2
   have hsz := p10.out B.lines[k] (List.getElem_mem hlk)
   have hE2 : Hid (E ++ lineB g B.sys B.lines[k] = (B.lines.take (k + 1)).flatMap (lineB g B.sys)) := by show _ = _;rw [flat_take _ _ _ hlk,hE.out]
   have hlen : (E ++ lineB g B.sys B.lines[k]).length ≤ N := by rw [hE2.out,hN2.out];exact flat_le _ _ _
   obtain ⟨l,hl0⟩ : ∃ l,l = B.lines[k] := ⟨_,rfl⟩
   rw [← hl0] at hl hsz hE2 hlen
   clear hl0
   rw [List.length_append] at hlen
   obtain ⟨s1,m1,k1,rfl⟩ := Rd.shape hl.1
   obtain ⟨s2,m2,k2,rfl⟩ := Rd.shape hl.2
   have hrange1 : w1.rangeAt b0 (off0 + k * 2) [.slice s1 m1 k1,.slice s2 m2 k2] := by
    intro j v hv
    match j,hv with
    | 0,hv => simp at hv;subst hv;exact x1
    | 1,hv => simp at hv;subst hv;exact y1
   have hrange := rangeAt_keep15 hrange1 hB
   have j1 : (0 : Int) ≤ (k : Int) := by omega
   have j2 : (k : Int) < (n : Int) := by omega
   have bd : Below wr.heap.size wr wr.drew := Below.drewSelf _
   obtain ⟨ha,hb⟩ := size_small hsz
   have hlr0 := (hl.below hB).below bd
   clear x1 y1 hb0 hl
   rcases Bool.eq_false_or_eq_true B.sys with hsys | hsys
   rotate_left
   ·skip
    have hE3 := hE2.out
    rw [hsys] at cb hlen hE3
    have hlB : lineB g false l = [formG g l] := rfl
    rw [hlB] at hlen hE3
    have cF1 := hide (cF.out wr.drew _ _ l (Bel.to BW bd) hlr0 ha hb)
    obtain ⟨fl,hfl⟩ : ∃ fl,fl = formG g l := ⟨_,rfl⟩
    rw [← hfl] at cF1 hlen hE3
    unfold lineVal at cF1
    replace hfl := hide hfl
    have hsysh := hide hsys
    clear hlB hsz hlr0 hsys hE2
    rw [List.length_singleton] at hlen
    replace hE3 : Hid (E ++ [fl] = (B.lines.take (k + 1)).flatMap (lineB g false)) := hE3
    go_upto_region 9 with (fail)
    refine wp_region_held_drew (S := fun X => Rng X [(w.heap.size,gameCells g (.slice aa ms.length ac) (.slice ta g.tiers.length tc)),(w.heap.size + 1,[.slice (some ⟨b0,off0,none⟩) n lc,.bool B.sys,.int .i64 B.draws,.int .i64 B.addons])] ∧ X.rangeAt b0 (off0 + k * 2) [.slice s1 m1 k1,.slice s2 m2 k2]) (by kernel_rfl) (⟨Rng.drew (Rng.cons r0 (Rng.cons r1 (Rng.nil _))),hrange⟩) (fun hHeld => ?_)
    refine' wpAnyH_take (i := 0) (oi := _) (v := .slice ea em ec) rfl (by kernel_rfl) (by kernel_rfl) (by kernel_rfl) (fun _ _ _ h => h) (Or.inl ⟨by first | (go_simp;done) | rfl,fun X _ => by go_simp⟩) hHeld ?_
    try simp only [Act.put,zsA,zsB,zsC]
    refine' wpAnyH_take (i := 1) (oi := _) (v := _) rfl (by kernel_rfl) (by kernel_rfl) (by kernel_rfl) (fun _ _ _ h => h) (yieldsIf_load_mid (by first | (go_simp;done) | rfl) 25 _ rfl (w.heap.size) (0) rfl (gameCells g (.slice aa ms.length ac) (.slice ta g.tiers.length tc)) _ (fun X h => Rng.at0 h.1) Tryz.underlying25 rfl (by kernel_rfl)) hHeld ?_
    try simp only [Act.put,zsA,zsB,zsC]
    refine' wpAnyH_take (i := 2) (oi := _) (v := .pointer (some ⟨w.heap.size + 1,0,none⟩)) rfl (by kernel_rfl) (by kernel_rfl) (by kernel_rfl) (fun _ _ _ h => h) (Or.inl ⟨by first | (go_simp;done) | rfl,fun X _ => by go_simp⟩) hHeld ?_
    try simp only [Act.put,zsA,zsB,zsC]
    refine' wpAnyH_take (i := 3) (oi := _) (v := .slice (some ⟨b0,off0,none⟩) n lc) rfl (by kernel_rfl) (by kernel_rfl) (by kernel_rfl) (fun _ _ _ h => h) (Or.inl ⟨by first | (go_simp;done) | rfl,fun X hX => by have cX := Rng.cell1 hX.1 0 _ rfl;go_simp⟩) hHeld ?_
    try simp only [Act.put,zsA,zsB,zsC]
    refine' wpAnyH_take (i := 4) (oi := _) (v := .int .i64 (k : Int)) rfl (by kernel_rfl) (by kernel_rfl) (by kernel_rfl) (fun _ _ _ h => h) (Or.inl ⟨by first | (go_simp;done) | rfl,fun X _ => by go_simp⟩) hHeld ?_
    try simp only [Act.put,zsA,zsB,zsC]
    refine' wpAnyH_take (i := 5) (oi := _) (v := .pointer (some ⟨b0,off0 + k * 2,none⟩)) rfl (by kernel_rfl) (by kernel_rfl) (by kernel_rfl) (fun _ _ _ h => h) (Or.inl ⟨by first | (go_simp;done) | rfl,fun X _ => by go_simp⟩) hHeld ?_
    try simp only [Act.put,zsA,zsB,zsC]
    refine' wpAnyH_take (i := 6) (oi := _) (v := .agg #[.slice s1 m1 k1,.slice s2 m2 k2]) rfl (by kernel_rfl) (by kernel_rfl) (by kernel_rfl) (fun _ _ _ h => h) (by refine (yieldsIf_load_mid ?_ 58 (.tmp 32) rfl b0 (off0 + k * 2) ?_ ([.slice s1 m1 k1,.slice s2 m2 k2]) _ (fun X h => h.2) Tryz.underlying58 rfl (by kernel_rfl)) <;> go_simp) hHeld ?_
    try simp only [Act.put,zsA,zsB,zsC]
    refine wpAnyH_ready (rs := [7]) (by kernel_rfl) (by simp) ?_
    refine AllReadyH.cons (o := _) rfl (fun K hK => ?_) AllReadyH.nil
    go_simp
    refine (cF1.out).mono ?_
    rintro e w6 ⟨fu,fv,rfl,hlr,ffu,ffv,hb6⟩
    obtain ⟨u1,u2,u3,rfl⟩ := Rd.shape hlr.1
    obtain ⟨v1,v2,v3,rfl⟩ := Rd.shape hlr.2
    unfold lineVal
    go_wp2_with fail
    refine hK.out _ _ (⟨Rng.keep hHeld.1 hb6,rangeAt_keep15 hHeld.2 hb6⟩) (fun hHeld => ?_)
    clear hK K
    try simp only [Act.put,zsA,zsB,zsC]
    have bo := Bel.to bd hb6
    have hown6 := hown.keep bo
    have q1 := ap_fr15 (v := .slice ea em ec) ffu (fun b hb => Nat.lt_of_lt_of_le (hown.lt b hb).2 bd.size)
    have q2 := ap_fr15 (v := .slice ea em ec) ffv (fun b hb => Nat.lt_of_lt_of_le (hown.lt b hb).2 bd.size)
    have f1 := ffu.mono (Nat.le_trans hB.size bd.size)
    have f2 := ffv.mono (Nat.le_trans hB.size bd.size)
    have hBo6 := Bel.to hB bo
    refine wpAnyH_ready (rs := [8]) (by kernel_rfl) (by simp) ?_
    refine AllReadyH.cons (o := _) rfl (fun K hK => ?_) AllReadyH.nil
    go_simp
    obtain ⟨W7,hW7⟩ : ∃ Y,Y = w6.alloc (.cells #[.slice u1 u2 u3,.slice v1 v2 v3] 58) := ⟨_,rfl⟩
    have rC : Row W7 w6.heap.size 58 [.slice u1 u2 u3,.slice v1 v2 v3] := by rw [hW7];exact Row.newOf _ rfl
    have b7 : Below w6.heap.size w6 W7 := by rw [hW7];exact Bel.al (Below.refl _ _) _
    rw [← hW7]
    clear hW7
    refine hK.out _ _ (⟨Rng.keep hHeld.1 b7,rangeAt_keep15 hHeld.2 b7⟩) (fun hHeld => ?_)
    clear hK K
    try simp only [Act.put,zsA,zsB,zsC]
    have hown7 := hown6.keep b7
    have hBo7 := Bel.to hBo6 b7
    refine wpAnyH_ready (rs := [9]) (by kernel_rfl) (by simp) ?_
    refine AllReadyH.cons (o := _) rfl (fun K hK => ?_) AllReadyH.nil
    refine wp_append_lnR _ _ 48 rfl w1.heap.size (.agg #[.slice none 0 0,.slice none 0 0]) 48 Tryz.underlying48 infoLine15 lineZ15 _ E rfl hown7 w6.heap.size 1 rfl (.slice u1 u2 u3) (.slice v1 v2 v3) fl.1 fl.2 ((rC.cell? 0).trans rfl) ((rC.cell? 1).trans rfl) (slice_one15 _ _ _) (slice_one15 _ _ _) (hlr.below b7) f1 f2 q1 q2 (by omega) (by omega) hBo7.size ?_
    intro v9 w9 hown9 hg9
    have B9 : Below w1.heap.size w1 w9 := hBo7.grown hg9 hBo7.size (fun b hb => (hown7.lt b hb).1)
    obtain ⟨a9,c9,rfl⟩ := hown9.shape
    have BE9 := Bel.to B1 B9
    refine hK.out _ _ (⟨Rng.cons (R0.keep B9) (Rng.cons (Row.keep R1 B9) (Rng.nil _)),rangeAt_keep15 hrange1 B9⟩) (fun hHeld => ?_)
    clear hK K
    try simp only [Act.put,zsA,zsB,zsC]
    refine' wpAnyH_take (i := 10) (oi := _) (v := .slice a9 (E ++ [(fl.1,fl.2)]).length c9) rfl (by kernel_rfl) (by kernel_rfl) (by kernel_rfl) (fun _ _ _ h => h) (Or.inl ⟨by first | (go_simp;done) | rfl,fun X _ => by go_simp⟩) hHeld ?_
    try simp only [Act.put,zsA,zsB,zsC]
    refine wpAnyH_done (by kernel_rfl) ?_ _
    go_simp
    clear hHeld hlr rC b7 bo hown6 hown7 hg9 hBo6 hBo7 q1 q2 f1 f2 ffu ffv hb6
    go_wp2
    go_roundg (n - (k + 1))
    case measure => have := hgh.out;have := hlt2.out;omega
    case rel => exact ⟨k + 1,E ++ [(fl.1,fl.2)],a9,_,c9,rfl,by have := hlt2.out;omega,by go_num,rfl,by rw [List.length_append] at hown9;exact hown9,by rw [hsysh.out];exact hE3,B9⟩
   ·skip
    have hE3 := hE2.out
    rw [hsys] at cb hlen hsz hE3
    have hlB : lineB g true l = expL (sortI l.1) (sortI l.2) g.main.toNat := rfl
    have hse := size_sys hsz
    have hle2 := expL_len (sortI l.1) (sortI l.2) g.main.toNat
    rw [sortI_len] at hle2
    rw [hlB] at hlen hE3
    have hne := hide (exp_ne hse)
    have cE1 := hide (cE.out wr.drew _ _ l (Bel.to BW bd) hlr0 hse (by omega))
    obtain ⟨X,hX⟩ : ∃ X,X = expL (sortI l.1) (sortI l.2) g.main.toNat := ⟨_,rfl⟩
    rw [← hX] at cE1 hlen hne hE3
    unfold lineVal at cE1
    have hsysh := hide hsys
    clear hlB ha hb hsz hX hse hle2 hlr0 hsys hE2
    replace hE3 : Hid (E ++ X = (B.lines.take (k + 1)).flatMap (lineB g true)) := hE3
    go_upto_region 10 with (fail)
    refine wp_region_held_drew (S := fun X => Rng X [(w.heap.size,gameCells g (.slice aa ms.length ac) (.slice ta g.tiers.length tc)),(w.heap.size + 1,[.slice (some ⟨b0,off0,none⟩) n lc,.bool B.sys,.int .i64 B.draws,.int .i64 B.addons])] ∧ X.rangeAt b0 (off0 + k * 2) [.slice s1 m1 k1,.slice s2 m2 k2]) (by kernel_rfl) (⟨Rng.drew (Rng.cons r0 (Rng.cons r1 (Rng.nil _))),hrange⟩) (fun hHeld => ?_)
    refine' wpAnyH_take (i := 0) (oi := _) (v := _) rfl (by kernel_rfl) (by kernel_rfl) (by kernel_rfl) (fun _ _ _ h => h) (yieldsIf_load_mid (by first | (go_simp;done) | rfl) 25 _ rfl (w.heap.size) (0) rfl (gameCells g (.slice aa ms.length ac) (.slice ta g.tiers.length tc)) _ (fun X h => Rng.at0 h.1) Tryz.underlying25 rfl (by kernel_rfl)) hHeld ?_
    try simp only [Act.put,zsA,zsB,zsC]
    refine' wpAnyH_take (i := 1) (oi := _) (v := .pointer (some ⟨w.heap.size + 1,0,none⟩)) rfl (by kernel_rfl) (by kernel_rfl) (by kernel_rfl) (fun _ _ _ h => h) (Or.inl ⟨by first | (go_simp;done) | rfl,fun X _ => by go_simp⟩) hHeld ?_
    try simp only [Act.put,zsA,zsB,zsC]
    refine' wpAnyH_take (i := 2) (oi := _) (v := .slice (some ⟨b0,off0,none⟩) n lc) rfl (by kernel_rfl) (by kernel_rfl) (by kernel_rfl) (fun _ _ _ h => h) (Or.inl ⟨by first | (go_simp;done) | rfl,fun X hX => by have cX := Rng.cell1 hX.1 0 _ rfl;go_simp⟩) hHeld ?_
    try simp only [Act.put,zsA,zsB,zsC]
    refine' wpAnyH_take (i := 3) (oi := _) (v := .int .i64 (k : Int)) rfl (by kernel_rfl) (by kernel_rfl) (by kernel_rfl) (fun _ _ _ h => h) (Or.inl ⟨by first | (go_simp;done) | rfl,fun X _ => by go_simp⟩) hHeld ?_
    try simp only [Act.put,zsA,zsB,zsC]
    refine' wpAnyH_take (i := 4) (oi := _) (v := .pointer (some ⟨b0,off0 + k * 2,none⟩)) rfl (by kernel_rfl) (by kernel_rfl) (by kernel_rfl) (fun _ _ _ h => h) (Or.inl ⟨by first | (go_simp;done) | rfl,fun X _ => by go_simp⟩) hHeld ?_
    try simp only [Act.put,zsA,zsB,zsC]
    refine' wpAnyH_take (i := 5) (oi := _) (v := .agg #[.slice s1 m1 k1,.slice s2 m2 k2]) rfl (by kernel_rfl) (by kernel_rfl) (by kernel_rfl) (fun _ _ _ h => h) (by refine (yieldsIf_load_mid ?_ 58 (.tmp 42) rfl b0 (off0 + k * 2) ?_ ([.slice s1 m1 k1,.slice s2 m2 k2]) _ (fun X h => h.2) Tryz.underlying58 rfl (by kernel_rfl)) <;> go_simp) hHeld ?_
    try simp only [Act.put,zsA,zsB,zsC]
    refine wpAnyH_ready (rs := [6]) (by kernel_rfl) (by simp) ?_
    refine AllReadyH.cons (o := _) rfl (fun K hK => ?_) AllReadyH.nil
    go_simp
    refine (cE1.out).mono ?_
    rintro e w6 ⟨eu,rfl,hu,hb6⟩
    obtain ⟨u1,u2,rfl⟩ := hu.shape
    go_wp2_with fail
    refine hK.out _ _ (⟨Rng.keep hHeld.1 hb6,rangeAt_keep15 hHeld.2 hb6⟩) (fun hHeld => ?_)
    clear hK K
    try simp only [Act.put,zsA,zsB,zsC]
    refine' wpAnyH_take (i := 7) (oi := _) (v := .tuple #[.slice u1 X.length u2,.int .i64 0]) rfl (by kernel_rfl) (by kernel_rfl) (by kernel_rfl) (fun _ _ _ h => h) (Or.inl ⟨by first | (go_simp;done) | rfl,fun X _ => by go_simp⟩) hHeld ?_
    try simp only [Act.put,zsA,zsB,zsC]
    refine' wpAnyH_take (i := 8) (oi := _) (v := .slice u1 X.length u2) rfl (by kernel_rfl) (by kernel_rfl) (by kernel_rfl) (fun _ _ _ h => h) (Or.inl ⟨by first | (go_simp;done) | rfl,fun X _ => by go_simp⟩) hHeld ?_
    try simp only [Act.put,zsA,zsB,zsC]
    refine' wpAnyH_take (i := 9) (oi := _) (v := .int .i64 0) rfl (by kernel_rfl) (by kernel_rfl) (by kernel_rfl) (fun _ _ _ h => h) (Or.inl ⟨by first | (go_simp;done) | rfl,fun X _ => by go_simp⟩) hHeld ?_
    try simp only [Act.put,zsA,zsB,zsC]
    refine' wpAnyH_take (i := 10) (oi := _) (v := .slice u1 X.length u2) rfl (by kernel_rfl) (by kernel_rfl) (by kernel_rfl) (fun _ _ _ h => h) (Or.inl ⟨by first | (go_simp;done) | rfl,fun X _ => by go_simp⟩) hHeld ?_
    try simp only [Act.put,zsA,zsB,zsC]
    refine' wpAnyH_take (i := 11) (oi := _) (v := .int .i64 0) rfl (by kernel_rfl) (by kernel_rfl) (by kernel_rfl) (fun _ _ _ h => h) (Or.inl ⟨by first | (go_simp;done) | rfl,fun X _ => by go_simp⟩) hHeld ?_
    try simp only [Act.put,zsA,zsB,zsC]
    refine wpAnyH_done (by kernel_rfl) ?_ _
    go_simp
    clear hHeld
    have bo := Bel.to bd hb6
    have hown6 := hown.keep bo
    have hBo6 := Bel.to hB bo
    have hlow2 := hide (fun b hb => Nat.lt_of_lt_of_le (hown.lt b hb).2 bd.size)
    have hsz6 := Nat.le_trans hB.size bd.size
    clear cE1 hown hb6 r0 r1 cb c0 hrange bo hrange1
    go_wp2_with (first | (refine wpList_append_lns _ rfl _ _ 48 rfl w1.heap.size wr.drew.heap.size (.agg #[.slice none 0 0,.slice none 0 0]) 48 Tryz.underlying48 infoLine15 lineZ15 _ E rfl hown6 _ X rfl hu hne.out hsz6 hlow2.out (by omega) (by omega) ?_ ?_))
    case refine_1 => exact hBo6.size
    intro v9 w9 hown9 hg9
    have B9 : Below w1.heap.size w1 w9 := hBo6.grown hg9 hBo6.size (fun b hb => (hown6.lt b hb).1)
    obtain ⟨a9,c9,rfl⟩ := hown9.shape
    clear hg9 hown6 hu
    go_wp2
    go_roundg (n - (k + 1))
    case measure => have := hgh.out;have := hlt2.out;omega
    case rel => exact ⟨k + 1,E ++ X,a9,_,c9,rfl,by have := hlt2.out;omega,by go_num,rfl,hown9,by rw [hsysh.out];exact hE3,B9⟩
  ·have hkn : k = B.lines.length := by have := hnn.out;omega
   have hEx := hE.out
   rw [hkn,List.take_length,← hT2.out] at hEx
   subst hEx
   have hlow := hown.lower (show w.heap.size ≤ w1.heap.size by omega)
   have j2 : ¬ (k : Int) < (n : Int) := by omega
   replace hkn := hide hkn
   clear hown hB r0 r1 hE
   go_wp2
   go_ret2
   exact ⟨_,rfl,hlow,BW⟩
theorem r16lines_own (g : GameD) (av tv lv : Value) (ms : List AddonM) (B : BetD) (w : World) (hg : GameR w av tv ms g) (hl : LinesR w lv B.lines) :
  Calls Tryz.prog 27 #[gameVal g av tv,betVal lv B] w (LinesO (linesP16 g B).1 (linesP16 g B).2 w) := by
 unfold linesP16
 by_cases hc : (betP g B).2 = 0
 ·rw [if_pos hc,hc];exact r16lines_ok g av tv lv ms B w hg hl hc
 ·rw [if_neg hc];exact r16lines_bad g av tv lv ms B w hg hl hc
end Go.Proofs.YtfggjlekcdpmmaaGreat
end

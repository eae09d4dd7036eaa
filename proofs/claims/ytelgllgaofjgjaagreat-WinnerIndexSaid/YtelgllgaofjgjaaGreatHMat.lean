/- Lemmas, merged out of smaller texts (wip/tools/mergedce.py). No condition. -/
import Derived.Test.YtelgllgaofjgjaaGreatHLine
import Derived.Test.YtelgllgaofjgjaaGreatHNat
import Derived.Test.YtelgllgaofjgjaaGreatHRef
import Derived.Test.YtelgllgaofjgjaaGreatHCore
section
open Go.RowKit
set_option linter.unusedVariables false
set_option linter.unusedSimpArgs false
namespace Go.Proofs.YtelgllgaofjgjaaGreat
theorem mcount_any (g : GameD) (av tv : Value) (ms : List AddonM) (w : World) (h : GameR w av tv ms g) :
  Calls Tryz.prog 22 #[gameVal g av tv] w (IntC (countP g).1 (countP g).2 w) := by
 unfold countP
 by_cases he : gameE g = 0
 ·rw [if_pos he];exact mcount_ok g av tv ms w h he
 ·rw [if_neg he];exact mcount_bad g av tv ms w h he
def LineC (a b : List Int) (c : Int) (w : World) (e : Ending) (w' : World) : Prop := ∃ u v,e = .returned (.tuple #[lineVal u v,.int .i64 c]) ∧ LineR w' u v a b ∧ Below w.heap.size w w'
set_option maxHeartbeats 2000000 in
set_option maxRecDepth 100000 in
theorem munrank_bad (g : GameD) (av tv : Value) (ms : List AddonM) (r : Int) (w : World) (h : GameR w av tv ms g) (he : gameE g ≠ 0) :
  Calls Tryz.prog 33 #[gameVal g av tv,.int .i64 r] w (LineC [] [] (gameE g) w) := by
 have hc := hide (fun X (hX : GameR X av tv ms g) => mcount_any g av tv ms X hX)
 have hcp : countP g = (0,gameE g) := if_neg he
 rw [hcp] at hc
 have hh := hide h
 obtain ⟨aa,ac,rfl,hal,ham⟩ := h.1.1.shape
 obtain ⟨ta,tc,rfl,htl,htm⟩ := h.2.2.shape
 clear h
 obtain ⟨c,hcc⟩ : ∃ c,c = gameE g := ⟨_,rfl⟩
 rw [← hcc] at hc he ⊢
 clear hcc hcp
 have hcb : (c != 0) = true := by simpa using he
 replace he := hide he
 unfold gameVal
 go_enter Tryz.func33,Tryz.ntmps33
 go_upto_region 1 with (fail)
 obtain ⟨W,hW⟩ : ∃ W,W = ((w.alloc (Obj.cells #[.string g.name,.int .i64 g.kind,.int .i64 g.price,.int .i64 g.main,.int .i64 g.of,.int .i64 g.bonus,.int .i64 g.bonusOf,.int .i64 g.extra,.int .i64 g.draws,.int .i64 g.system,.int .i64 g.days,.int .i64 g.at_,.int .i64 g.close,.int .i64 g.cancel,.int .i64 g.expiry,.int .i64 g.pool,.int .i64 g.reserve,.int .i64 g.round,.int .i64 g.cap,.int .i64 g.rolls,(.slice aa ms.length ac),(.slice ta g.tiers.length tc)] 25)).alloc (Obj.cells #[(.slice none 0 0),(.slice none 0 0)] 53)) := ⟨_,rfl⟩
 have bW : Below w.heap.size w W := by rw [hW];exact Bel.al (Bel.al (Below.refl _ _) _) _
 have r0 : GameAt W (w.heap.size) g ((.slice aa ms.length ac)) ((.slice ta g.tiers.length tc)) := by rw [hW];exact Row.alloc (Row.new _ _ _) _
 have r1 : LineAt W (w.heap.size + 1) ((.slice none 0 0)) ((.slice none 0 0)) := by rw [hW];exact Row.at2 _ _ _ _
 have sW : w.heap.size + 1 < W.heap.size := by rw [hW];simp
 rw [← hW]
 clear hW
 go_wp2_with (first | (refine wpList_load_row rfl 25 _ rfl _ rfl _ _ _ _ r0 Tryz.underlying25 rfl (by kernel_rfl) ?_) | fail)
 refine (hc.out _ (hh.out.below bW)).mono ?_
 rintro e w1 ⟨rfl,hb1⟩
 have B1 := Bel.to bW hb1
 have r0 := r0.keep hb1
 have r1 := r1.keep hb1
 have z1 : w.heap.size + 1 < w1.heap.size := by have := hb1.size;omega
 clear hb1
 have x0 := LineAt.main r1
 have x1 := LineAt.bonus r1
 have x2 := Row.frozen r1 0
 have x3 := Row.frozen r1 1
 have rL : LineAt ((w1.setCell ⟨w.heap.size + 1,0,none⟩ (.slice none 0 0)).setCell ⟨w.heap.size + 1,1,none⟩ (.slice none 0 0)) (w.heap.size + 1) (.slice none 0 0) (.slice none 0 0) := LineAt.store r1 _ _
 have y0 := hide rL.main
 have y1 := hide rL.bonus
 have B9 := Bel.st (Bel.st B1 (p := ⟨w.heap.size + 1,0,none⟩) (by simp) (.slice none 0 0)) (p := ⟨w.heap.size + 1,1,none⟩) (by simp) (.slice none 0 0)
 clear rL
 go_wp2
 exact bodyPost_ret (v := .tuple #[.agg #[.slice none 0 0,.slice none 0 0],.int .i64 c]) (by simp [results,Tryz.results33,go_sem,y0.out,y1.out]) rfl ⟨_,_,rfl,⟨Rd.nil,Rd.nil⟩,B9⟩
set_option maxHeartbeats 2000000 in
set_option maxRecDepth 100000 in
theorem munrank_range (g : GameD) (av tv : Value) (ms : List AddonM) (r : Int) (w : World) (h : GameR w av tv ms g) (he : gameE g = 0) (hr : r < 0 ∨ (countG g : Int) ≤ r) :
  Calls Tryz.prog 33 #[gameVal g av tv,.int .i64 r] w (LineC [] [] 2 w) := by
 have hc := hide (fun X (hX : GameR X av tv ms g) => mcount_any g av tv ms X hX)
 have hcp : countP g = ((countG g : Int),0) := if_pos he
 rw [hcp] at hc
 have hh := hide h
 obtain ⟨aa,ac,rfl,hal,ham⟩ := h.1.1.shape
 obtain ⟨ta,tc,rfl,htl,htm⟩ := h.2.2.shape
 clear h
 obtain ⟨c,hcc⟩ : ∃ c,c = countG g := ⟨_,rfl⟩
 rw [← hcc] at hc hr
 clear hcc hcp he
 have hcase : r < 0 ∨ (¬ r < 0 ∧ (c : Int) ≤ r) := by omega
 clear hr
 rcases hcase with hr | ⟨hr,hr2⟩
 all_goals
  unfold gameVal
  go_enter Tryz.func33,Tryz.ntmps33
  go_upto_region 1 with (fail)
  obtain ⟨W,hW⟩ : ∃ W,W = ((w.alloc (Obj.cells #[.string g.name,.int .i64 g.kind,.int .i64 g.price,.int .i64 g.main,.int .i64 g.of,.int .i64 g.bonus,.int .i64 g.bonusOf,.int .i64 g.extra,.int .i64 g.draws,.int .i64 g.system,.int .i64 g.days,.int .i64 g.at_,.int .i64 g.close,.int .i64 g.cancel,.int .i64 g.expiry,.int .i64 g.pool,.int .i64 g.reserve,.int .i64 g.round,.int .i64 g.cap,.int .i64 g.rolls,(.slice aa ms.length ac),(.slice ta g.tiers.length tc)] 25)).alloc (Obj.cells #[(.slice none 0 0),(.slice none 0 0)] 53)) := ⟨_,rfl⟩
  have bW : Below w.heap.size w W := by rw [hW];exact Bel.al (Bel.al (Below.refl _ _) _) _
  have r0 : GameAt W (w.heap.size) g ((.slice aa ms.length ac)) ((.slice ta g.tiers.length tc)) := by rw [hW];exact Row.alloc (Row.new _ _ _) _
  have r1 : LineAt W (w.heap.size + 1) ((.slice none 0 0)) ((.slice none 0 0)) := by rw [hW];exact Row.at2 _ _ _ _
  have sW : w.heap.size + 1 < W.heap.size := by rw [hW];simp
  rw [← hW]
  clear hW
  go_wp2_with (first | (refine wpList_load_row rfl 25 _ rfl _ rfl _ _ _ _ r0 Tryz.underlying25 rfl (by kernel_rfl) ?_) | fail)
  refine (hc.out _ (hh.out.below bW)).mono ?_
  rintro e w1 ⟨rfl,hb1⟩
  have B1 := Bel.to bW hb1
  have r0 := r0.keep hb1
  have r1 := r1.keep hb1
  have z1 : w.heap.size + 1 < w1.heap.size := by have := hb1.size;omega
  clear hb1
  have x0 := LineAt.main r1
  have x1 := LineAt.bonus r1
  have x2 := Row.frozen r1 0
  have x3 := Row.frozen r1 1
  have rL : LineAt ((w1.setCell ⟨w.heap.size + 1,0,none⟩ (.slice none 0 0)).setCell ⟨w.heap.size + 1,1,none⟩ (.slice none 0 0)) (w.heap.size + 1) (.slice none 0 0) (.slice none 0 0) := LineAt.store r1 _ _
  have y0 := hide rL.main
  have y1 := hide rL.bonus
  have B9 := Bel.st (Bel.st B1 (p := ⟨w.heap.size + 1,0,none⟩) (by simp) (.slice none 0 0)) (p := ⟨w.heap.size + 1,1,none⟩) (by simp) (.slice none 0 0)
  clear rL
  go_wp2
  exact bodyPost_ret (v := .tuple #[.agg #[.slice none 0 0,.slice none 0 0],.int .i64 2]) (by simp [results,Tryz.results33,go_sem,y0.out,y1.out]) rfl ⟨_,_,rfl,⟨Rd.nil,Rd.nil⟩,B9⟩
set_option maxHeartbeats 4000000 in
set_option maxRecDepth 100000 in
theorem munrank_digits (g : GameD) (av tv : Value) (ms : List AddonM) (r : Nat) (w : World) (h : GameR w av tv ms g) (he : gameE g = 0) (hk : g.kind = 2) (hr : r < countG g) :
  Calls Tryz.prog 33 #[gameVal g av tv,.int .i64 (r : Int)] w (LineC (digitsL g.of.toNat g.main.toNat r) [] 0 w) := by
 have hc := hide (fun X (hX : GameR X av tv ms g) => mcount_any g av tv ms X hX)
 have hcp : countP g = ((countG g : Int),0) := if_pos he
 rw [hcp] at hc
 have hh := hide h
 obtain ⟨aa,ac,rfl,hal,ham⟩ := h.1.1.shape
 obtain ⟨ta,tc,rfl,htl,htm⟩ := h.2.2.shape
 clear h
 have hf := mat_facts (game_mat he)
 obtain ⟨f1,f2,f3,f4,f5,f6,f7,f8,f9,f10,f11⟩ := hf
 obtain ⟨e1,e2⟩ := f7 hk
 have hcg : countG g ≤ 10000000000 := by
  have : countG g = g.of.toNat ^ g.main.toNat := if_pos hk
  rw [this]
  exact pow_ten (by omega) (by omega)
 obtain ⟨c,hcc⟩ : ∃ c,c = countG g := ⟨_,rfl⟩
 rw [← hcc] at hc hr hcg
 have hkb : (g.kind == 2) = true := by simpa using hk
 obtain ⟨n,hn⟩ : ∃ n : Nat,g.main = n := ⟨g.main.toNat,by omega⟩
 obtain ⟨q,hq⟩ : ∃ n : Nat,g.of = n := ⟨g.of.toNat,by omega⟩
 rw [hn,hq,Int.toNat_natCast,Int.toNat_natCast]
 have hq2 : 2 ≤ q := by omega
 have hq10 : q ≤ 10 := by omega
 have hn1 : 1 ≤ n := by omega
 have hn10 : n ≤ 10 := by omega
 have hrc : (r : Int) < (c : Int) := by omega
 replace hn := hide hn
 replace hq := hide hq
 replace hk := hide hk
 clear hcc hcp he f1 f2 f3 f4 f5 f6 f7 f8 f9 f10 f11 e1 e2
 unfold gameVal
 go_enter Tryz.func33,Tryz.ntmps33
 go_upto_region 1 with (fail)
 obtain ⟨W,hW⟩ : ∃ W,W = ((w.alloc (Obj.cells #[.string g.name,.int .i64 g.kind,.int .i64 g.price,.int .i64 g.main,.int .i64 g.of,.int .i64 g.bonus,.int .i64 g.bonusOf,.int .i64 g.extra,.int .i64 g.draws,.int .i64 g.system,.int .i64 g.days,.int .i64 g.at_,.int .i64 g.close,.int .i64 g.cancel,.int .i64 g.expiry,.int .i64 g.pool,.int .i64 g.reserve,.int .i64 g.round,.int .i64 g.cap,.int .i64 g.rolls,(.slice aa ms.length ac),(.slice ta g.tiers.length tc)] 25)).alloc (Obj.cells #[(.slice none 0 0),(.slice none 0 0)] 53)) := ⟨_,rfl⟩
 have bW : Below w.heap.size w W := by rw [hW];exact Bel.al (Bel.al (Below.refl _ _) _) _
 have r0 : GameAt W (w.heap.size) g ((.slice aa ms.length ac)) ((.slice ta g.tiers.length tc)) := by rw [hW];exact Row.alloc (Row.new _ _ _) _
 have r1 : LineAt W (w.heap.size + 1) ((.slice none 0 0)) ((.slice none 0 0)) := by rw [hW];exact Row.at2 _ _ _ _
 have sW : w.heap.size + 1 < W.heap.size := by rw [hW];simp
 rw [← hW]
 clear hW
 go_wp2_with (first | (refine wpList_load_row rfl 25 _ rfl _ rfl _ _ _ _ r0 Tryz.underlying25 rfl (by kernel_rfl) ?_) | fail)
 refine (hc.out _ (hh.out.below bW)).mono ?_
 rintro e w1 ⟨rfl,hb1⟩
 have B1 := Bel.to bW hb1
 have r0 := r0.keep hb1
 have r1 := r1.keep hb1
 have z1 : w.heap.size + 1 < w1.heap.size := by have := hb1.size;omega
 clear hb1
 have d1 := r0.kind
 have d3 := r0.main
 have d4 := r0.of
 rw [hn.out] at d3
 rw [hq.out] at d4
 clear r0 bW hh hc
 go_wp2_with (with_reducible refine wpList_make_row _ rfl _ _ 27 rfl 3 (.int .i64 0) 8 Tryz.underlying27 infoInt rfl .i64 .i64 _ _ n n rfl rfl rfl rfl (Nat.le_refl _) (by omega) (by omega) ?_;intro w2 hrow hb2 hz2;have d4 := Bel.cellOf hb2 d4;have d3 := Bel.cellOf hb2 d3)
 have r1 := r1.keep hb2
 have B2 := Bel.to B1 hb2
 have hrow0 : Row w2 w1.heap.size 3 ((List.replicate n (0 : Int) ++ []).map I64) := by
  rw [List.append_nil,List.map_replicate];exact hrow
 have z2 : w1.heap.size < w2.heap.size := by omega
 have hG0 := Gb.refl w2 (some w1.heap.size)
 obtain ⟨gb,hgb⟩ : ∃ gb,gb = w1.heap.size := ⟨_,rfl⟩
 rw [← hgb] at hrow0 hG0 z1 z2 ⊢
 have hgw : w.heap.size ≤ gb := by omega
 clear hrow hb2 hz2 B1 hgb d1
 go_wp2
 go_loopg [1,9] (n + 1) (fun gh rr t wr => ∃ (k R : Nat) (D : List Int) (x : Int),gh = k + 1 ∧ k ≤ n ∧ rr = .int .i64 (R : Int) ∧ t = .int .i64 x ∧ R ≤ 10000000000 ∧ w2.grownBy wr (some gb) ∧ Row wr gb 3 ((List.replicate k (0 : Int) ++ D).map I64) ∧ Hid (x = (k : Int) - 1) ∧ Hid (digitsL q k R ++ D = digitsL q n r))
 case atStart =>
  refine ⟨n,r,[],(n : Int) - 1,rfl,Nat.le_refl _,rfl,rfl,by omega,hG0,hrow0,rfl,?_⟩
  show _ = _
  rw [List.append_nil]
 case round =>
  obtain ⟨k,R,D,x,hg,hkn,rfl,rfl,hR,hgr,hrow,hx,hD⟩ := hrel
  replace hg := hide hg
  have d4 := Gb.cellOf hgr d4 (by omega)
  cases k with
  | zero =>
   have hx0 : x = -1 := by have := hx.out;omega
   subst hx0
   have hD0 : D = digitsL q n r := by have := hD.out;rw [digitsL,List.nil_append] at this;exact this
   have hrd : Rd I64 wr (.slice (some ⟨gb,0,none⟩) n n) D := by
    rw [List.replicate_zero,List.nil_append] at hrow
    exact hrow.rdAll (by rw [hD0,digitsL_len]) (Nat.le_refl _) (by omega)
   have r1 := Row.grown r1 hgr (by intro e;injection e with e;omega)
   have B3 := Gb.bel B2 hgr hgw
   replace hD0 := hide hD0
   replace hD := hide hD
   have x0 := LineAt.main r1
   have x1 := LineAt.bonus r1
   have x2 := Row.frozen r1 0
   have x3 := Row.frozen r1 1
   have rL : LineAt ((wr.setCell ⟨w.heap.size + 1,0,none⟩ (.slice (some ⟨gb,0,none⟩) n n)).setCell ⟨w.heap.size + 1,1,none⟩ (.slice none 0 0)) (w.heap.size + 1) (.slice (some ⟨gb,0,none⟩) n n) (.slice none 0 0) := LineAt.store r1 _ _
   have y0 := hide rL.main
   have y1 := hide rL.bonus
   have B9 := Bel.st (Bel.st B3 (p := ⟨w.heap.size + 1,0,none⟩) (by simp) (.slice (some ⟨gb,0,none⟩) n n)) (p := ⟨w.heap.size + 1,1,none⟩) (by simp) (.slice none 0 0)
   clear rL
   go_wp2
   have hrd2 := (hrd.setCell (p := ⟨w.heap.size + 1,0,none⟩) (by simp [Value.ownBlock];omega) (.slice (some ⟨gb,0,none⟩) n n)).setCell (p := ⟨w.heap.size + 1,1,none⟩) (by simp [Value.ownBlock];omega) (.slice none 0 0)
   rw [hD0.out] at hrd2
   exact bodyPost_ret (v := .tuple #[.agg #[.slice (some ⟨gb,0,none⟩) n n,.slice none 0 0],.int .i64 0]) (by simp [results,Tryz.results33,go_sem,y0.out,y1.out]) rfl ⟨_,_,rfl,⟨hrd2,Rd.nil⟩,B9⟩
  | succ j =>
   have hxj : x = (j : Int) := by have := hx.out;omega
   subst hxj
   have hD1 : digitsL q j (R / q) ++ (((R % q : Nat) : Int) :: D) = digitsL q n r := by
    have := hD.out;rw [digitsL,List.append_assoc] at this;exact this
   have hset : (List.replicate (j + 1) (0 : Int) ++ D).set j ((R % q : Nat) : Int) = List.replicate j 0 ++ (((R % q : Nat) : Int) :: D) := by
    rw [List.replicate_succ',List.append_assoc,List.set_append_right _ _ (by simp)]
    simp
   have hrow2 := hrow.setV j (((R % q : Nat) : Int))
   rw [hset] at hrow2
   have hgr2 := Gb.set (g := gb) hgr (p := ⟨gb,j,none⟩) (.inl rfl) (I64 ((R % q : Nat) : Int))
   have hlen : ((List.replicate (j + 1) (0 : Int) ++ D).map I64).length = n := by
    have := congrArg List.length hD.out
    rw [List.length_append,digitsL_len,digitsL_len] at this
    rw [List.length_map,List.length_append,List.length_replicate];exact this
   have ce := Row.cell hrow (i := j) (by omega)
   have cf := Row.frozen hrow j
   have j1 : (0 : Int) ≤ (j : Int) := by omega
   have j2 : (j : Int) < (n : Int) := by omega
   have m1 : (R : Int) % (q : Int) = ((R % q : Nat) : Int) := by simp
   have m2 : (R : Int) / (q : Int) = ((R / q : Nat) : Int) := by simp
   have m3 : R / q ≤ 10000000000 := Nat.le_trans (Nat.div_le_self _ _) hR
   obtain ⟨R2,hR2⟩ : ∃ R2,R2 = R / q := ⟨_,rfl⟩
   rw [← hR2] at m2 m3 hD1
   have q0 : ((q : Int) == 0) = false := by simp;omega
   have q1 : (q : Int) ≠ 0 := by omega
   rw [show I64 ((R % q : Nat) : Int) = .int .i64 ((R : Int) % (q : Int)) by rw [m1]] at hrow2 hgr2
   replace m1 := hide m1
   replace m2 := hide m2
   replace hR2 := hide hR2
   replace m3 := hide m3
   replace hD1 := hide hD1
   replace hset := hide hset
   replace hlen := hide hlen
   go_wp2
   go_roundg (j + 1)
   case measure => have := hg.out;omega
   case rel => exact ⟨j,R2,_ :: D,(j : Int) - 1,rfl,by omega,by rw [m2.out];first | rfl | (rw [IntWalk.wrap64_in _ (by have := m3.out;omega)]),rfl,m3.out,hgr2,hrow2,rfl,hD1⟩
theorem unrank_facts {g : GameD} {r : Nat} (he : gameE g = 0) (hk : g.kind ≠ 2) (hr : r < countG g) :
  0 < bonusN g ∧ bonusN g ≤ 1581580 ∧ r / bonusN g < choose g.of.toNat g.main.toNat ∧ r % bonusN g < bonusN g ∧ choose g.of.toNat g.main.toNat ≤ 1646492110120 ∧
  g.of = ((g.of.toNat : Nat) : Int) ∧ g.main = ((g.main.toNat : Nat) : Int) ∧ g.bonusOf = ((g.bonusOf.toNat : Nat) : Int) ∧ g.bonus = ((g.bonus.toNat : Nat) : Int) ∧
  g.of.toNat ≤ 80 ∧ g.bonusOf.toNat ≤ 80 ∧ g.main.toNat ≤ g.of.toNat ∧ g.bonus.toNat ≤ g.bonusOf.toNat ∧ r ≤ 2604058991523589600 := by
 have hf := mat_facts (game_mat he)
 have hc : countG g = choose g.of.toNat g.main.toNat * bonusN g := if_neg hk
 rw [hc] at hr
 have hN : 0 < bonusN g := choose_pos (by omega)
 have b1 : choose g.of.toNat g.main.toNat ≤ 1646492110120 := choose_main (by omega) (by omega)
 have b2 : bonusN g ≤ 1581580 := choose_bonus (by omega) (by omega)
 have b3 := Nat.mul_le_mul b1 b2
 refine ⟨hN,b2,?_,Nat.mod_lt _ hN,b1,by omega,by omega,by omega,by omega,by omega,by omega,by omega,by omega,by omega⟩
 exact Nat.div_lt_of_lt_mul (by rw [Nat.mul_comm];exact hr)
theorem unrankV_in {r n k : Nat} (hn : n ≤ 80) (hk : k ≤ n) (hx : choose n k ≤ 9223372036854775807) (hr : r < choose n k) (x a b : Int) (e1 : x = r) (e2 : a = n) (e3 : b = k) : unrankV x a b = (unrankL n 1 r k,0) := by
 subst e1 e2 e3
 unfold unrankV
 rw [if_pos ⟨by omega,by omega,by omega,by omega⟩]
 simp only [Int.toNat_natCast]
 rw [if_pos hx,if_pos ⟨by omega,by omega⟩]
set_option maxHeartbeats 4000000 in
set_option maxRecDepth 100000 in
theorem munrank_choose (g : GameD) (av tv : Value) (ms : List AddonM) (r : Nat) (w : World) (h : GameR w av tv ms g) (he : gameE g = 0) (hk : g.kind ≠ 2) (hr : r < countG g) :
  Calls Tryz.prog 33 #[gameVal g av tv,.int .i64 (r : Int)] w (LineC (unrankG g r).1 (unrankG g r).2 0 w) := by
 have hc := hide (fun X (hX : GameR X av tv ms g) => mcount_any g av tv ms X hX)
 have hcp : countP g = ((countG g : Int),0) := if_pos he
 rw [hcp] at hc
 have hh := hide h
 obtain ⟨aa,ac,rfl,hal,ham⟩ := h.1.1.shape
 obtain ⟨ta,tc,rfl,htl,htm⟩ := h.2.2.shape
 clear h
 obtain ⟨n1,n2,f1,f2,f3,o1,o2,o3,o4,m1,m2,m3,m4,hrb⟩ := unrank_facts he hk hr
 have hug : unrankG g r = (unrankL g.of.toNat 1 (r / bonusN g) g.main.toNat,unrankL g.bonusOf.toNat 1 (r % bonusN g) g.bonus.toNat) := if_neg hk
 rw [hug]
 have cN := hide (count_any g.bonusOf g.bonus)
 rw [countV_fit o3 o4 m2 (Nat.le_trans n2 (by omega))] at cN
 obtain ⟨N,hN⟩ : ∃ N,N = bonusN g := ⟨_,rfl⟩
 rw [show choose g.bonusOf.toNat g.bonus.toNat = N from hN.symm] at cN
 rw [← hN] at n1 n2 f1 f2 ⊢
 obtain ⟨a,ha⟩ : ∃ a,a = r / N := ⟨_,rfl⟩
 obtain ⟨b,hb⟩ : ∃ b,b = r % N := ⟨_,rfl⟩
 rw [← ha] at f1 ⊢
 rw [← hb] at f2 ⊢
 have cU := hide (unrank_any (a : Int) g.of g.main)
 rw [unrankV_in m1 m3 (by omega) f1 _ _ _ rfl o1 o2] at cU
 have cV := hide (unrank_any (b : Int) g.bonusOf g.bonus)
 rw [unrankV_in m2 m4 (show choose g.bonusOf.toNat g.bonus.toNat ≤ 9223372036854775807 by rw [show choose g.bonusOf.toNat g.bonus.toNat = N from hN.symm];omega) (by rw [show choose g.bonusOf.toNat g.bonus.toNat = N from hN.symm];exact f2) _ _ _ rfl o3 o4] at cV
 have t1 : Int.tdiv (r : Int) (N : Int) = (a : Int) := by rw [Int.tdiv_eq_ediv_of_nonneg (by omega),ha];simp
 have t2 : Int.tmod (r : Int) (N : Int) = (b : Int) := by rw [Int.tmod_eq_emod_of_nonneg (by omega),hb];simp
 have t3 : (r : Int) / (N : Int) = (a : Int) := by rw [ha];simp
 have t4 : (r : Int) % (N : Int) = (b : Int) := by rw [hb];simp
 have ba : a ≤ 1646492110120 := by omega
 have bb : b ≤ 1581580 := by omega
 have q0 : ((N : Int) == 0) = false := by simp;omega
 have q1 : (N : Int) ≠ 0 := by omega
 have q2 : N ≠ 0 := by omega
 have q3 : (N == 0) = false := by simp;omega
 have t5 : IntKind.i64.wrap (a : Int) = (a : Int) := IntWalk.i64_in _ (by omega)
 have t6 : IntKind.i64.wrap (b : Int) = (b : Int) := IntWalk.i64_in _ (by omega)
 obtain ⟨c,hcc⟩ : ∃ c,c = countG g := ⟨_,rfl⟩
 rw [← hcc] at hc hr
 have hrc : (r : Int) < (c : Int) := by omega
 have hkb : (g.kind == 2) = false := by simpa using hk
 obtain ⟨L1,hL1⟩ : ∃ L,L = unrankL g.of.toNat 1 a g.main.toNat := ⟨_,rfl⟩
 obtain ⟨L2,hL2⟩ : ∃ L,L = unrankL g.bonusOf.toNat 1 b g.bonus.toNat := ⟨_,rfl⟩
 rw [← hL1] at cU ⊢
 rw [← hL2] at cV ⊢
 replace hk := hide hk
 clear hcc hcp he hN ha hb hL1 hL2 o1 o2 o3 o4 m1 m2 m3 m4 f1 f2 f3 hug
 unfold gameVal
 go_enter Tryz.func33,Tryz.ntmps33
 go_upto_region 1 with (fail)
 obtain ⟨W,hW⟩ : ∃ W,W = ((w.alloc (Obj.cells #[.string g.name,.int .i64 g.kind,.int .i64 g.price,.int .i64 g.main,.int .i64 g.of,.int .i64 g.bonus,.int .i64 g.bonusOf,.int .i64 g.extra,.int .i64 g.draws,.int .i64 g.system,.int .i64 g.days,.int .i64 g.at_,.int .i64 g.close,.int .i64 g.cancel,.int .i64 g.expiry,.int .i64 g.pool,.int .i64 g.reserve,.int .i64 g.round,.int .i64 g.cap,.int .i64 g.rolls,(.slice aa ms.length ac),(.slice ta g.tiers.length tc)] 25)).alloc (Obj.cells #[(.slice none 0 0),(.slice none 0 0)] 53)) := ⟨_,rfl⟩
 have bW : Below w.heap.size w W := by rw [hW];exact Bel.al (Bel.al (Below.refl _ _) _) _
 have r0 : GameAt W (w.heap.size) g ((.slice aa ms.length ac)) ((.slice ta g.tiers.length tc)) := by rw [hW];exact Row.alloc (Row.new _ _ _) _
 have r1 : LineAt W (w.heap.size + 1) ((.slice none 0 0)) ((.slice none 0 0)) := by rw [hW];exact Row.at2 _ _ _ _
 have sW : w.heap.size + 1 < W.heap.size := by rw [hW];simp
 rw [← hW]
 clear hW
 go_wp2_with (first | (refine wpList_load_row rfl 25 _ rfl _ rfl _ _ _ _ r0 Tryz.underlying25 rfl (by kernel_rfl) ?_) | fail)
 refine (hc.out _ (hh.out.below bW)).mono ?_
 rintro e w1 ⟨rfl,hb1⟩
 have B1 := Bel.to bW hb1
 have r0 := r0.keep hb1
 have r1 := r1.keep hb1
 have d1 := r0.kind
 have d3 := r0.main
 have d4 := r0.of
 have d5 := r0.bonus
 have d6 := r0.bonusOf
 clear hb1 hh hc bW
 go_wp2_with fail
 refine (cN.out _).mono ?_
 rintro e w2 ⟨rfl,hb2⟩
 have B2 := Bel.to B1 hb2
 have r1 := r1.keep hb2
 have d3 := Bel.cellOf hb2 d3
 have d4 := Bel.cellOf hb2 d4
 have d5 := Bel.cellOf hb2 d5
 have d6 := Bel.cellOf hb2 d6
 clear hb2 B1 d1 r0
 go_wp2
 go_region_held3 (fun X => X.cell? ⟨w.heap.size,4,none⟩ = some (.int .i64 g.of) ∧ X.cell? ⟨w.heap.size,3,none⟩ = some (.int .i64 g.main)) (go_keep) (first
  | (go_at_call 60;(with_reducible refine (cU.out _).mono ?_);rintro e w3 ⟨u1,rfl,hu1,hb3⟩;obtain ⟨s1,k1,p1,rfl⟩ := Rd.shape hu1;have d3 : w3.cell? ⟨w.heap.size,3,none⟩ = some (.int .i64 g.main) := Bel.cellOf hb3 d3;have d4 : w3.cell? ⟨w.heap.size,4,none⟩ = some (.int .i64 g.of) := Bel.cellOf hb3 d4))
 have B3 := Bel.to B2 (Bel.to (Below.drew (Below.refl _ _)) hb3)
 have d5 : w3.cell? ⟨w.heap.size,5,none⟩ = some (.int .i64 g.bonus) := Bel.cellOf hb3 d5
 have d6 : w3.cell? ⟨w.heap.size,6,none⟩ = some (.int .i64 g.bonusOf) := Bel.cellOf hb3 d6
 have r1 : LineAt w3 (w.heap.size + 1) (.slice none 0 0) (.slice none 0 0) := (show LineAt w2.drew _ _ _ from r1).keep hb3
 clear hb3 B2
 go_wp2
 go_region_held3 (fun X => X.cell? ⟨w.heap.size,6,none⟩ = some (.int .i64 g.bonusOf) ∧ X.cell? ⟨w.heap.size,5,none⟩ = some (.int .i64 g.bonus)) (go_keep) (first
  | (go_at_call 60;(with_reducible refine (cV.out _).mono ?_);rintro e w4 ⟨u2,rfl,hu2,hb4⟩;obtain ⟨s2,k2,p2,rfl⟩ := Rd.shape hu2;have d5 : w4.cell? ⟨w.heap.size,5,none⟩ = some (.int .i64 g.bonus) := Bel.cellOf hb4 d5;have d6 : w4.cell? ⟨w.heap.size,6,none⟩ = some (.int .i64 g.bonusOf) := Bel.cellOf hb4 d6))
 have B4 := Bel.to B3 (Bel.to (Below.drew (Below.refl _ _)) hb4)
 have r1 : LineAt w4 (w.heap.size + 1) (.slice none 0 0) (.slice none 0 0) := (show LineAt w3.drew _ _ _ from r1).keep hb4
 have hu1 := Rd.below (Rd.drew hu1) hb4
 clear hb4 B3 d3 d4 d5 d6
 have x0 := LineAt.main r1
 have x1 := LineAt.bonus r1
 have x2 := Row.frozen r1 0
 have x3 := Row.frozen r1 1
 have rL : LineAt ((w4.setCell ⟨w.heap.size + 1,0,none⟩ (.slice s1 k1 p1)).setCell ⟨w.heap.size + 1,1,none⟩ (.slice s2 k2 p2)) (w.heap.size + 1) (.slice s1 k1 p1) (.slice s2 k2 p2) := LineAt.store r1 _ _
 have y0 := hide rL.main
 have y1 := hide rL.bonus
 have B9 := Bel.st (Bel.st B4 (p := ⟨w.heap.size + 1,0,none⟩) (by simp) (.slice s1 k1 p1)) (p := ⟨w.heap.size + 1,1,none⟩) (by simp) (.slice s2 k2 p2)
 have hv1 := (hu1.setNe x0 (fun _ h => by cases h) (.slice s1 k1 p1)).setNe (p := ⟨w.heap.size + 1,1,none⟩) (c := .slice none 0 0) (by go_simp) (fun _ h => by cases h) (.slice s2 k2 p2)
 have hv2 := (hu2.setNe x0 (fun _ h => by cases h) (.slice s1 k1 p1)).setNe (p := ⟨w.heap.size + 1,1,none⟩) (c := .slice none 0 0) (by go_simp) (fun _ h => by cases h) (.slice s2 k2 p2)
 clear rL
 go_wp2
 exact bodyPost_ret (v := .tuple #[.agg #[.slice s1 k1 p1,.slice s2 k2 p2],.int .i64 0]) (by simp [results,Tryz.results33,go_sem,y0.out,y1.out]) rfl ⟨_,_,rfl,⟨hv1,hv2⟩,B9⟩
theorem munrank_any (g : GameD) (av tv : Value) (ms : List AddonM) (r : Int) (w : World) (h : GameR w av tv ms g) :
  Calls Tryz.prog 33 #[gameVal g av tv,.int .i64 r] w (LineC (unrankP g r).1.1 (unrankP g r).1.2 (unrankP g r).2 w) := by
 unfold unrankP
 by_cases he : gameE g = 0
 ·rw [if_neg (by simpa using he)]
  by_cases hr : r < 0 ∨ (countG g : Int) ≤ r
  ·rw [if_pos hr]
   exact munrank_range g av tv ms r w h he hr
  ·rw [if_neg hr]
   obtain ⟨R,rfl⟩ := Int.eq_ofNat_of_zero_le (show 0 ≤ r by omega)
   rw [Int.toNat_natCast]
   by_cases hk : g.kind = 2
   ·have := munrank_digits g av tv ms R w h he hk (by omega)
    have e : unrankG g R = (digitsL g.of.toNat g.main.toNat R,[]) := if_pos hk
    rw [e];exact this
   ·exact munrank_choose g av tv ms R w h he hk (by omega)
 ·rw [if_pos (by simpa using he)]
  exact munrank_bad g av tv ms r w h he
end Go.Proofs.YtelgllgaofjgjaaGreat
end
section
set_option linter.unusedVariables false
set_option linter.unusedSimpArgs false
namespace Go.Proofs.YtelgllgaofjgjaaGreat
theorem mat_digits {g : GameD} (h : matB g = true) (hk : g.kind = 2) : g.bonus = 0 := by
 unfold matB at h
 simp only [Bool.and_eq_true] at h
 obtain ⟨⟨⟨⟨⟨⟨⟨h1,h2⟩,h3⟩,h4⟩,h5⟩,h6⟩,h7⟩,h8⟩ := h
 rw [if_pos hk] at h4
 have := inB_iff.1 h4
 omega
theorem unrank_choose_eq {g : GameD} {r : Nat} (hk : g.kind ≠ 2) : unrankG g r = (unrankL g.of.toNat 1 (r / bonusN g) g.main.toNat,unrankL g.bonusOf.toNat 1 (r % bonusN g) g.bonus.toNat) := if_neg hk
theorem unrank_digits_eq {g : GameD} {r : Nat} (hk : g.kind = 2) : unrankG g r = (digitsL g.of.toNat g.main.toNat r,[]) := if_pos hk
theorem unrank_line {g : GameD} {r : Nat} (he : gameE g = 0) (hr : r < countG g) : lineE g (unrankG g r).1 (unrankG g r).2 = 0 := by
 have hf := mat_facts (game_mat he)
 rw [lineE_ok]
 by_cases hk : g.kind = 2
 ·have hb := mat_digits (game_mat he) hk
  rw [unrank_digits_eq hk]
  refine ⟨he,?_,?_,?_,?_,fun h => absurd hk h,List.nodup_nil⟩
  ·rw [digitsL_len];omega
  ·rw [hb];rfl
  ·intro x hx
   have := digitsL_mem (q := g.of.toNat) (by omega) x hx
   unfold lowG highG
   rw [if_pos hk,if_pos hk]
   omega
  ·intro x hx;cases hx
 ·obtain ⟨n1,n2,f1,f2,f3,o1,o2,o3,o4,m1,m2,m3,m4,hrb⟩ := unrank_facts he hk hr
  rw [unrank_choose_eq hk]
  have c1 := check_unrankL (n := g.of.toNat) (m := g.of.toNat) (w := 1) (by omega) (by omega) f1 0 (by omega)
  have c2 := check_unrankL (n := g.bonusOf.toNat) (m := g.bonusOf.toNat) (w := 1) (r := r % bonusN g) (j := g.bonus.toNat) (by omega) (by omega) f2 0 (by omega)
  obtain ⟨s1,s2⟩ := checkL_pair c1
  obtain ⟨s3,s4⟩ := checkL_pair c2
  refine ⟨he,?_,?_,?_,?_,fun _ => lt_nodup s1,lt_nodup s3⟩
  ·rw [unrankL_len f1];omega
  ·rw [unrankL_len (show r % bonusN g < choose g.bonusOf.toNat g.bonus.toNat from f2)];omega
  ·intro x hx
   have := s2 x hx
   unfold lowG highG
   rw [if_neg hk,if_neg hk]
   omega
  ·intro x hx
   have := s4 x hx
   omega
end Go.Proofs.YtelgllgaofjgjaaGreat
end

/- Lemmas, merged out of smaller texts (wip/tools/mergedce.py). No condition. -/
import Derived.Test.YtldikghldcefcaaGreatHL
import Derived.Test.YtldikghldcefcaaGreatHE
import Derived.Test.YtldikghldcefcaaGreatHB
section
set_option linter.unusedVariables false
set_option linter.unusedSimpArgs false
namespace Go.Proofs.YtldikghldcefcaaGreat
open Go.RowKit
theorem pow_limbs {d n : Nat} (hd : d ≤ 10) (hn : n ≤ 20) : (limbs (d ^ n)).length ≤ 3 := by
 have h2 : d ^ n ≤ 10 ^ n := Nat.pow_le_pow_left hd _
 have h3 : 10 ^ n ≤ 10 ^ 20 := Nat.pow_le_pow_right (by omega) (by omega)
 have e1 : (10 : Nat) ^ 20 = 100000000000000000000 := by decide
 have e2 : (4294967296 : Nat) ^ 3 = 79228162514264337593543950336 := by decide
 exact length_limbs_lt.1 (by omega)
set_option maxHeartbeats 8000000 in
set_option maxRecDepth 100000 in
theorem opairs_any (c : CondD) (g : GameD) (av tv : Value) (ms : List AddonM) (d m : Nat) (w : World) (hr : GameR w av tv ms g) (hm : g.main = (m : Int)) (hd : g.of = (d : Int)) (hm10 : m ≤ 10) (hd10 : d ≤ 10) (hcf : c.front ≤ 10) (hcb : c.back ≤ 10) :
  Calls Tryz.prog 99 #[condVal c,gameVal g av tv] w (NatC (pairsN d m c) 0 w) := by
 obtain ⟨P,hP⟩ : ∃ P,P = pairsN d m c := ⟨_,rfl⟩
 rw [← hP]
 obtain ⟨cf,cb,cx⟩ := c
 simp only [] at hcf hcb
 obtain ⟨s,hs⟩ : ∃ s,s = cf + cb := ⟨_,rfl⟩
 obtain ⟨ag,hag⟩ : ∃ ag,ag = min m s := ⟨_,rfl⟩
 obtain ⟨lf,hlf⟩ : ∃ lf,lf = m - ag := ⟨_,rfl⟩
 obtain ⟨l2,hl2⟩ : ∃ l2,l2 = 2 * lf := ⟨_,rfl⟩
 unfold pairsN at hP
 simp only [] at hP
 rw [← hs,← hag,← hlf,← hl2] at hP
 replace hP := hide hP
 have ws : IntKind.i64.wrap ((cf : Int) + (cb : Int)) = (s : Int) := by rw [IntKind.wrap_i64];omega
 have wl : IntKind.i64.wrap ((m : Int) - (ag : Int)) = (lf : Int) := by rw [IntKind.wrap_i64];omega
 have w2 : IntKind.i64.wrap (2 * (lf : Int)) = (l2 : Int) := by rw [IntKind.wrap_i64];omega
 have hag10 := hide (show ag ≤ 10 by omega)
 have hlf10 := hide (show lf ≤ 10 by omega)
 have hl20 := hide (show l2 ≤ 20 by omega)
 have emin := hide (show min (m : Int) (s : Int) = (ag : Int) by omega)
 replace hs := hide hs
 replace hlf := hide hlf
 replace hl2 := hide hl2
 replace hag := hide hag
 replace hd10 := hide hd10
 replace hm10 := hide hm10
 obtain ⟨aa,ac,rfl,hal,ham⟩ := hr.1.1.shape
 obtain ⟨ta,tc,rfl,htl,htm⟩ := hr.2.2.shape
 obtain ⟨an,han⟩ : ∃ an,an = ms.length := ⟨_,rfl⟩
 obtain ⟨tn,htn⟩ : ∃ tn,tn = g.tiers.length := ⟨_,rfl⟩
 rw [← han,← htn]
 replace hm := hide hm
 replace hd := hide hd
 clear hr hal htl ham htm han htn
 unfold gameVal condVal
 go_enter Tryz.func99,Tryz.ntmps99
 go_upto_region 1 with (fail)
 obtain ⟨W,hW⟩ : ∃ W,W = ((w.alloc (Obj.cells #[.int .i64 (cf : Int),.int .i64 (cb : Int),.bool cx] 122)).alloc (Obj.cells #[.string g.name,.int .i64 g.kind,.int .i64 g.price,.int .i64 g.main,.int .i64 g.of,.int .i64 g.bonus,.int .i64 g.bonusOf,.int .i64 g.extra,.int .i64 g.draws,.int .i64 g.system,.int .i64 g.days,.int .i64 g.at_,.int .i64 g.close,.int .i64 g.cancel,.int .i64 g.expiry,.int .i64 g.pool,.int .i64 g.reserve,.int .i64 g.round,.int .i64 g.cap,.int .i64 g.rolls,(.slice aa an ac),(.slice ta tn tc)] 25)).alloc (Obj.cells #[.slice none 0 0] 30) := ⟨_,rfl⟩
 have bel : Below w.heap.size w W := by rw [hW];exact Bel.al (Bel.al (Bel.al (Below.refl _ _) _) _) _
 have rc : Row W w.heap.size 122 [.int .i64 (cf : Int),.int .i64 (cb : Int),.bool cx] := by rw [hW];exact Row.alloc (Row.alloc (Row.new _ _ _) _) _
 have rg : GameAt W (w.heap.size + 1) g (.slice aa an ac) (.slice ta tn tc) := by rw [hW];exact Row.alloc (Row.at2 _ _ _ _) _
 have rR : Row W (w.heap.size + 1 + 1) 30 [.slice none 0 0] := by rw [hW];exact Row.at3 _ _ _ _ _
 rw [← hW]
 clear hW
 have p0 := rc.cell? 0
 have p1 := rc.cell? 1
 have cm := rg.main
 rw [hm.out] at cm
 simp only [List.getElem?_cons_zero,List.getElem?_cons_succ] at p0 p1
 go_cut [6] (fun p X => p = .int .i64 (ag : Int) ∧ X = W)
 case first =>
  go_wp2_with fail
  go_meet
  exact ⟨by rw [emin.out],rfl⟩
 case rest =>
  obtain ⟨rfl,hX⟩ := hcut
  rw [hX]
  clear hX p0 p1
  have co := rg.of
  rw [hd.out] at co
  have cW := hide (fun (n : Nat) X (hn : n ≤ 60) => opow_any d n X (by have := hd10.out;omega) hn)
  go_wp2_with fail
  refine (cW.out ag _ (by have := hag10.out;omega)).mono ?_
  rintro e w3 ⟨u,rfl,hs,hb3⟩
  obtain ⟨sa,sl,sc,rfl⟩ := Rd.shape hs
  replace rg := rg.keep hb3
  replace rc := Row.keep rc hb3
  replace rR := Row.keep rR hb3
  replace bel := Bel.to bel hb3
  clear hb3 cm co
  go_upto_region 4 with (fail)
  have hRlt := rR.lt
  obtain ⟨b8,hb8⟩ : ∃ b,b = w3.heap.size := ⟨_,rfl⟩
  obtain ⟨w4,hw4⟩ : ∃ X,X = w3.alloc (.cells #[.slice sa sl sc] 30) := ⟨_,rfl⟩
  have bw4 : Below w3.heap.size w3 w4 := by rw [hw4];exact Bel.al (Below.refl _ _) _
  have r8 : Row w4 b8 30 [.slice sa sl sc] := by rw [hw4,hb8];exact Row.newOf _ rfl
  rw [← hw4,← hb8]
  clear hw4
  replace rg := rg.keep bw4
  replace rc := Row.keep rc bw4
  replace rR := Row.keep rR bw4
  replace bel := Bel.to bel bw4
  replace hs := Rd.below hs bw4
  clear bw4
  have h8 : w.heap.size + 1 + 1 < b8 := by rw [hb8];exact hRlt
  clear hb8 hRlt
  have co := rg.of
  rw [hd.out] at co
  go_wp2_with fail
  refine (cW.out l2 _ (by have := hl20.out;omega)).mono ?_
  rintro e w5 ⟨u,rfl,ho,hb5⟩
  obtain ⟨oa,ol,oc,rfl⟩ := Rd.shape ho
  replace rg := rg.keep hb5
  replace rc := Row.keep rc hb5
  replace rR := Row.keep rR hb5
  replace bel := Bel.to bel hb5
  replace r8 := Row.keep r8 hb5
  replace hs := Rd.below hs hb5
  clear hb5 co cW
  go_upto_region 7 with (fail)
  have r8lt := r8.lt
  obtain ⟨b10,hb10⟩ : ∃ b,b = w5.heap.size := ⟨_,rfl⟩
  obtain ⟨w6,hw6⟩ : ∃ X,X = w5.alloc (.cells #[.slice oa ol oc] 30) := ⟨_,rfl⟩
  have bw6 : Below w5.heap.size w5 w6 := by rw [hw6];exact Bel.al (Below.refl _ _) _
  have r10 : Row w6 b10 30 [.slice oa ol oc] := by rw [hw6,hb10];exact Row.newOf _ rfl
  rw [← hw6,← hb10]
  clear hw6
  replace rg := rg.keep bw6
  replace rc := Row.keep rc bw6
  replace rR := Row.keep rR bw6
  replace bel := Bel.to bel bw6
  replace r8 := Row.keep r8 bw6
  replace hs := Rd.below hs bw6
  replace ho := Rd.below ho bw6
  clear bw6
  have h10 : b8 < b10 := by rw [hb10];exact r8lt
  clear hb10 r8lt
  have p2 := rc.cell? 2
  simp only [List.getElem?_cons_zero,List.getElem?_cons_succ] at p2
  obtain ⟨x,hx⟩ : ∃ x,x = d ^ ag := ⟨_,rfl⟩
  have hxl : (limbs x).length ≤ 3 := by rw [hx];exact pow_limbs hd10.out (by have := hag10.out;omega)
  rw [← hx] at hs
  cases cx
  ·obtain ⟨y,hy⟩ : ∃ y,y = d ^ l2 := ⟨_,rfl⟩
   have hyl : (limbs y).length ≤ 3 := by rw [hy];exact pow_limbs hd10.out hl20.out
   rw [← hy] at ho
   have hxy : x * y = P := by rw [hP.out,hx,hy,if_neg (by decide)]
   have hlv : limS [x,y] ≤ 63 := by simp [limS];omega
   clear hx hy hxl hyl
   have cPr : Hid (∀ (X : World) {b : Nat},NatsR X (.slice (some ⟨b,0,none⟩) 2 2) [(.slice sa sl sc,x),(.slice oa ol oc,y)] → Calls Tryz.prog 40 #[.slice (some ⟨b,0,none⟩) 2 2] X (NatC P 0 X)) := fun X b hX => by
    have h := oprod_any _ _ X hX (by simpa using hlv) (by simp)
    rw [show prodL (([(.slice sa sl sc,x),(.slice oa ol oc,y)] : List NatM).map (fun p : NatM => p.2)) = P from by simp only [List.map_cons,List.map_nil,prodL,Nat.mul_one];exact hxy] at h
    exact h
   have c8 := r8.cell? 0
   have c10 := r10.cell? 0
   simp only [List.getElem?_cons_zero] at c8 c10
   replace hlv := hide hlv
   replace hxy := hide hxy
   go_wp2_with fail
   refine (cPr.out _ (Row.nats (n := 2) (ps := [(.slice sa sl sc,x),(.slice oa ol oc,y)]) (Row.newOf 30 rfl) rfl (by decide) (fun p hp => by
    simp only [List.mem_cons,List.not_mem_nil,or_false] at hp
    rcases hp with rfl | rfl
    ·exact Rd.alloc hs _
    ·exact Rd.alloc ho _))).mono ?_
   rintro e w9 ⟨u,rfl,hp,hb9⟩
   obtain ⟨pa,pn,pc,rfl⟩ := Rd.shape hp
   have hb9' := Bel.one _ hb9
   replace rR := Row.keep rR hb9'
   replace bel := Bel.to bel hb9'
   clear hb9 hb9' cPr hs ho r8 r10 c8 c10
   have cR := rR.cell? 0
   have fR := rR.frozen 0
   simp only [List.getElem?_cons_zero] at cR
   have hf := Rd.setNe hp cR (fun _ h => by cases h) (.slice pa pn pc)
   have belf := Bel.st bel (p := ⟨w.heap.size + 1 + 1,0,none⟩) (by simp only [];omega) (.slice pa pn pc)
   go_wp2
   exact bodyPost_ret (v := .tuple #[.agg #[(.slice pa pn pc)],.int .i64 0]) (by simp [results,Tryz.results99,go_sem,cR]) rfl ⟨_,rfl,hf,belf⟩
  ·have co := rg.of
   rw [hd.out] at co
   obtain ⟨y,hy⟩ : ∃ y,y = bxP d lf := ⟨_,rfl⟩
   have hyl : (limbs y).length ≤ 3 := by rw [hy];exact bxP_limbs hd10.out hlf10.out
   have hxy : x * y = P := by rw [hP.out,hx,hy,if_pos rfl]
   have hlv : limS [x,y] ≤ 63 := by simp [limS];omega
   have cB := hide (fun X => obox_any d lf X hd10.out hlf10.out)
   rw [← hy] at cB
   clear hx hy hxl hyl ho
   replace hlv := hide hlv
   replace hxy := hide hxy
   go_wp2_with fail
   refine (cB.out _).mono ?_
   rintro e w7 ⟨u,rfl,hv,hb7⟩
   obtain ⟨va,vl,vc,rfl⟩ := Rd.shape hv
   replace rg := rg.keep hb7
   replace rc := Row.keep rc hb7
   replace rR := Row.keep rR hb7
   replace bel := Bel.to bel hb7
   replace r8 := Row.keep r8 hb7
   replace r10 := Row.keep r10 hb7
   replace hs := Rd.below hs hb7
   clear hb7 co cB
   have c10 := r10.cell? 0
   have f10 := r10.frozen 0
   simp only [List.getElem?_cons_zero] at c10
   go_upto_region 9 with (fail)
   obtain ⟨w8,hw8⟩ : ∃ X,X = w7.setCell ⟨b10,0,none⟩ (.slice va vl vc) := ⟨_,rfl⟩
   have hs' : NV w8 (.slice sa sl sc) x := by rw [hw8];exact Rd.setNe hs c10 (fun _ h => by cases h) _
   have hv' : NV w8 (.slice va vl vc) y := by rw [hw8];exact Rd.setNe hv c10 (fun _ h => by cases h) _
   have r8' : Row w8 b8 30 [.slice sa sl sc] := by rw [hw8];exact Row.far r8 (p := ⟨b10,0,none⟩) (by simp only [];omega) _
   have r10' : Row w8 b10 30 [.slice va vl vc] := by rw [hw8];exact Row.set r10 0 _
   have rR' : Row w8 (w.heap.size + 1 + 1) 30 [.slice none 0 0] := by rw [hw8];exact Row.far rR (p := ⟨b10,0,none⟩) (by simp only [];omega) _
   have bel' : Below w.heap.size w w8 := by rw [hw8];exact Bel.st bel (p := ⟨b10,0,none⟩) (by simp only [];omega) _
   rw [← hw8]
   clear hw8 hs hv r8 r10 rR bel rc rg c10 f10
   have cPr : Hid (∀ (X : World) {b : Nat},NatsR X (.slice (some ⟨b,0,none⟩) 2 2) [(.slice sa sl sc,x),(.slice va vl vc,y)] → Calls Tryz.prog 40 #[.slice (some ⟨b,0,none⟩) 2 2] X (NatC P 0 X)) := fun X b hX => by
    have h := oprod_any _ _ X hX (by simpa using hlv.out) (by simp)
    rw [show prodL (([(.slice sa sl sc,x),(.slice va vl vc,y)] : List NatM).map (fun p : NatM => p.2)) = P from by simp only [List.map_cons,List.map_nil,prodL,Nat.mul_one];exact hxy.out] at h
    exact h
   have c8 := r8'.cell? 0
   have c10 := r10'.cell? 0
   simp only [List.getElem?_cons_zero] at c8 c10
   go_wp2_with fail
   refine (cPr.out _ (Row.nats (n := 2) (ps := [(.slice sa sl sc,x),(.slice va vl vc,y)]) (Row.newOf 30 rfl) rfl (by decide) (fun p hp => by
    simp only [List.mem_cons,List.not_mem_nil,or_false] at hp
    rcases hp with rfl | rfl
    ·exact Rd.alloc hs' _
    ·exact Rd.alloc hv' _))).mono ?_
   rintro e w9 ⟨u,rfl,hp,hb9⟩
   obtain ⟨pa,pn,pc,rfl⟩ := Rd.shape hp
   have hb9' := Bel.one _ hb9
   have rR := Row.keep rR' hb9'
   have bel := Bel.to bel' hb9'
   clear hb9 hb9' cPr hs' hv' r8' r10' c8 c10
   have cR := rR.cell? 0
   have fR := rR.frozen 0
   simp only [List.getElem?_cons_zero] at cR
   have hf := Rd.setNe hp cR (fun _ h => by cases h) (.slice pa pn pc)
   have belf := Bel.st bel (p := ⟨w.heap.size + 1 + 1,0,none⟩) (by simp only [];omega) (.slice pa pn pc)
   go_wp2
   exact bodyPost_ret (v := .tuple #[.agg #[(.slice pa pn pc)],.int .i64 0]) (by simp [results,Tryz.results99,go_sem,cR]) rfl ⟨_,rfl,hf,belf⟩
def condC (c : CondD) : List Value := [.int .i64 (c.front : Int),.int .i64 (c.back : Int),.bool c.box]
theorem condC_len (c : CondD) : (condC c).length = 3 := rfl
theorem infoCd : (Tryz.prog.info? 122).map (fun i => (i.zero,i.size,i.bytes)) = some (some (.agg #[.int .i64 0,.int .i64 0,.bool false]),3,24) := by kernel_rfl
abbrev COwn (w : World) (base : Nat) (v : Value) (l : List CondD) : Prop := OwnS 3 condC (fun _ _ => True) w base 122 v l
def CondsC (l : List CondD) (w : World) (e : Ending) (w' : World) : Prop := ∃ v,e = .returned v ∧ RdS 3 condC w' v l ∧ Below w.heap.size w w'
theorem earlyS_snoc (L : List CondD) (c : CondD) : earlyS (L ++ [c]) = earlyF (earlyS L) c := by unfold earlyS;rw [List.foldl_append];rfl
theorem early_step {m i : Nat} {l : List TierD} {t : TierD} {s : Nat × Nat × Bool} (hi : l[i]? = some t) (hs : s = earlyS ((l.take i).map (condOf m))) : earlyF s (condOf m t) = earlyS ((l.take (i + 1)).map (condOf m)) := by
 rw [List.take_add_one,hi,Option.toList_some,List.map_append,List.map_cons,List.map_nil,earlyS_snoc,hs]
theorem wpList_append_cond (w : World) {ops : Array Oper} {rest : List Oper} {o : Oper} {a : Act} {Q : Exit → Act → World → Prop} (hgd : o.guard = none) (s x : Operand)
  (ho : o.op = .call { callee := .builtin .append,args := #[s,x],argTypes := #[118,118] })
  (base : Nat) (v : Value) (l : List CondD) (hs : a.eval s = v) (X : World) (hown : COwn X base v l) (hX : Below X.heap.size X w) (h : Nat) (c : CondD) (hx : a.eval x = .slice (some ⟨h,0,none⟩) 1 1) (tt : TypeId) (hr : Row w h tt (condC c))
  (hl : l.length ≤ 100) (hbase : base ≤ X.heap.size)
  (hk : ∀ v' w',COwn w' base v' (l ++ [c]) → Below base X w' → wpList Tryz.prog ops Q rest (a.put o.dst v') w') : wpList Tryz.prog ops Q (o :: rest) a w := by
 have hown2 := hown.keep hX
 refine wpList_appendS w hgd s x 118 ho condC_len base 122 _ 24 Tryz.underlying118 infoCd (by decide) (by decide) v l hs hown2 _ [c] hx (rdS_one (V := condC) w hr (Nat.le_refl 1) (by unfold maxLen;omega)) (fun _ _ _ _ => trivial) (fun y hy u hu => ?_) (by simp;omega) (by simp;omega) (Nat.le_trans hbase hX.size) (fun v' w' h1 h2 _ => hk v' w' h1 (Below.grown (hX.mono hbase) h2 (Nat.le_trans hbase hX.size) (fun k hk => (hown2.lt k hk).1)))
 obtain rfl := List.mem_singleton.1 hy
 simp [condC] at hu
 rcases hu with rfl | rfl | rfl <;> rfl
theorem wpList_cut_to {P : Program} {w : World} {ops : Array Oper} {rest : List Oper} {o : Oper} {a : Act} {Q : Exit → Act → World → Prop} (hg : o.guard = none) (x hi : Operand) (t : TypeId) (hop : o.op = .slice t x none (some hi) none) (ht : P.underlying t = some (.slice (P.elem t))) (sz : Nat) (hs : ∀ w,(sizeOf (P.elem t)).run P w = .ok sz w)
  (ao : Option Addr) (n cap : Nat) (hx : a.eval x = .slice ao n cap) (m : Nat) (hm : a.eval hi = .int .i64 (m : Int)) (hmc : m ≤ cap)
  (h : wpList P ops Q rest (a.put o.dst (.slice ao m cap)) w) : wpList P ops Q (o :: rest) a w := by
 refine wpList_plain hg fun K hK => ?_
 have hrun := run_slice_h (P := P) (w := w) t ao n cap ht .i64 m (by omega) (by omega)
 have hrun' := (run_sliceAt_slice (P := P) (w := w) t (.slice ao n cap) none (some (.int .i64 m)) none ht).trans hrun
 have e : sliced ao 0 m cap sz = .slice ao m cap := by
  unfold sliced
  have : (ao.map fun x => x.add (0 * sz)) = ao := by cases ao <;> simp [Addr.add]
  split
  ·simp
  ·rw [this];simp
 unfold Oper.wp
 simp [execOp,hop,hx,hm,hrun',hs,Result.andThen,e]
 exact hK _ _ h
set_option maxHeartbeats 16000000 in
set_option maxRecDepth 100000 in
theorem oearlier_any (g : GameD) (av tv : Value) (ms : List AddonM) (m t : Nat) (w : World) (rg : GameR w av tv ms g) (hm : g.main = (m : Int)) (ht : t ≤ g.tiers.length) (hpos : ∀ x ∈ g.tiers,0 ≤ x.main) :
  Calls Tryz.prog 96 #[gameVal g av tv,.int .i64 (t : Int)] w (CondsC (earlyL (earlyS ((g.tiers.take t).map (condOf m)))) w) := by
 obtain ⟨E,hE⟩ : ∃ E,E = earlyL (earlyS ((g.tiers.take t).map (condOf m))) := ⟨_,rfl⟩
 rw [← hE]
 replace hE := hide hE
 have hT := hide rg.2.2
 have hpos2 := hide hpos
 have cC := hide (fun (ta : Option Addr) (tn tc n : Nat) (x : TierD) X (hx : x.main = (n : Int)) => fun (aa : Option Addr) (an ac : Nat) => ocond_any g aa an ac ta tn tc m n x X hm hx)
 obtain ⟨aa,ac,rfl,hal,ham⟩ := rg.1.1.shape
 obtain ⟨ta,tc,rfl,htl,htm⟩ := rg.2.2.shape
 obtain ⟨an,han⟩ : ∃ an,an = ms.length := ⟨_,rfl⟩
 obtain ⟨tn,htn⟩ : ∃ tn,tn = g.tiers.length := ⟨_,rfl⟩
 rw [← htn] at hT htl ht
 rw [← han,← htn]
 have htc : t ≤ tc := by omega
 have htb : t ≤ 9223372036854775807 := by unfold maxLen at htm;omega
 have htbi : (t : Int) ≤ 9223372036854775807 := by omega
 have ht2 := hide ht
 replace htn := hide htn
 clear rg hal ham htl htm han hpos hm ht
 unfold gameVal at cC ⊢
 go_enter Tryz.func96,Tryz.ntmps96
 go_upto_region 1 with (fail)
 obtain ⟨W,hW⟩ : ∃ W,W = w.alloc (Obj.cells #[.string g.name,.int .i64 g.kind,.int .i64 g.price,.int .i64 g.main,.int .i64 g.of,.int .i64 g.bonus,.int .i64 g.bonusOf,.int .i64 g.extra,.int .i64 g.draws,.int .i64 g.system,.int .i64 g.days,.int .i64 g.at_,.int .i64 g.close,.int .i64 g.cancel,.int .i64 g.expiry,.int .i64 g.pool,.int .i64 g.reserve,.int .i64 g.round,.int .i64 g.cap,.int .i64 g.rolls,(.slice aa an ac),(.slice ta tn tc)] 25) := ⟨_,rfl⟩
 have bW : Below w.heap.size w W := by rw [hW];exact Bel.al (Below.refl _ _) _
 have r0 : GameAt W w.heap.size g (.slice aa an ac) (.slice ta tn tc) := by rw [hW];exact Row.new _ _ _
 rw [← hW]
 clear hW
 have ct := r0.tiers
 have hs0 : Hid (((0,0,false) : Nat × Nat × Bool) = earlyS ((g.tiers.take 0).map (condOf m))) := rfl
 go_upto_region 3 with (first | (refine wpList_cut_to rfl _ _ 23 rfl Tryz.underlying23 6 (fun w => by kernel_rfl) ta tn tc rfl t rfl htc ?_) | fail)
 clear ct
 go_loopg [5,6,7,17] t (fun gh sf sb so ti wr => ∃ (i f b : Nat) (o : Bool),gh = t - i ∧ i ≤ t ∧ sf = .int .i64 (f : Int) ∧ sb = .int .i64 (b : Int) ∧ so = .bool o ∧ ti = .int .i64 (i : Int) ∧ Hid ((f,b,o) = earlyS ((g.tiers.take i).map (condOf m))) ∧ Below W.heap.size W wr)
 case atStart => exact ⟨0,0,0,false,rfl,Nat.zero_le _,rfl,rfl,rfl,rfl,hs0,Below.refl _ _⟩
 case round =>
  clear hs0
  obtain ⟨i,f,b',o,hgi,hi,rfl,rfl,rfl,rfl,hs,hB⟩ := hrel
  replace hgi := hide hgi
  by_cases hlt : i < t
  ·have hlt2 := hide hlt
   have hil : i < g.tiers.length := by have := htn.out;have := ht2.out;omega
   obtain ⟨b,off,rfl,hbb,hcell⟩ := (hT.out.below (Bel.to bW hB)).at_ hil
   have i2 : (i : Int) < (t : Int) := by omega
   have i3 : (i : Int) < (tn : Int) := by have := ht2.out;omega
   have hil2 := hide hil
   clear hlt
   obtain ⟨t0,ht⟩ : ∃ t,t = g.tiers[i] := ⟨_,rfl⟩
   have hti : g.tiers[i]? = some t0 := by rw [ht];exact List.getElem?_eq_getElem hil
   have hrange : wr.rangeAt b (off + i * 6) (tierCells t0) := fun j u hu => hcell i t0 hti j u hu
   have hst := hide (early_step (m := m) hti hs.out)
   have htp := hpos2.out t0 (by rw [ht];exact List.getElem_mem hil2.out)
   clear hcell hti ht
   obtain ⟨tm,tb,tx,tmode,tkind,tvalue⟩ := t0
   unfold tierCells at hrange
   simp only [] at hrange
   have hthere := hide (show (wr.alloc (.cells #[.int .i64 0,.int .i64 0,.int .i64 0,.int .i64 0,.int .i64 0,.int .i64 0] 73)).there wr.heap.size 0 6 from Row.there (Row.newOf (cs := [.int .i64 0,.int .i64 0,.int .i64 0,.int .i64 0,.int .i64 0,.int .i64 0]) _ rfl))
   have i1 : (0 : Int) ≤ (i : Int) := by omega
   go_upto_region 5 with (first | (refine wpList_load_mid rfl 73 _ rfl b (off + i * 6) rfl [.int .i64 tm,.int .i64 tb,.int .i64 tx,.int .i64 tmode,.int .i64 tkind,.int .i64 tvalue] _ hrange Tryz.underlying73 rfl (by kernel_rfl) ?_) | (refine wpList_store_mid rfl 73 _ _ rfl wr.heap.size 0 _ rfl rfl hthere.out (by kernel_rfl) (by rfl) ?_) | fail)
   obtain ⟨W1,hW1⟩ : ∃ W1,W1 = wr.alloc (.cells #[.int .i64 tm,.int .i64 tb,.int .i64 tx,.int .i64 tmode,.int .i64 tkind,.int .i64 tvalue] 73) := ⟨_,rfl⟩
   have hb1 : Below wr.heap.size wr W1 := by rw [hW1];exact Bel.al (Below.refl _ _) _
   have hw1 : Row W1 wr.heap.size 73 [.int .i64 tm,.int .i64 tb,.int .i64 tx,.int .i64 tmode,.int .i64 tkind,.int .i64 tvalue] := by rw [hW1];exact Row.newOf _ rfl
   rw [← hW1]
   clear hW1 hthere hrange
   have q0 : W1.cell? ⟨wr.heap.size,0,none⟩ = some (.int .i64 tm) := (hw1.cell? 0).trans rfl
   have q1 : W1.cell? ⟨wr.heap.size,1,none⟩ = some (.int .i64 tb) := (hw1.cell? 1).trans rfl
   have q2 : W1.cell? ⟨wr.heap.size,2,none⟩ = some (.int .i64 tx) := (hw1.cell? 2).trans rfl
   have q3 : W1.cell? ⟨wr.heap.size,3,none⟩ = some (.int .i64 tmode) := (hw1.cell? 3).trans rfl
   clear q0 q1 q2 q3
   have r1 := r0.keep (Bel.to hB hb1)
   simp only [] at htp
   obtain ⟨n,hn⟩ : ∃ n : Nat,tm = (n : Int) := ⟨tm.toNat,by omega⟩
   have cC2 := hide (cC.out (some ⟨b,off,none⟩) tn tc n ⟨tm,tb,tx,tmode,tkind,tvalue⟩ W1 hn aa an ac)
   obtain ⟨⟨cf,cb,cx⟩,hcd⟩ : ∃ c,c = condOf m ⟨tm,tb,tx,tmode,tkind,tvalue⟩ := ⟨_,rfl⟩
   rw [← hcd] at hst cC2
   unfold tierCells at cC2
   simp only [] at cC2
   replace hn := hide hn
   replace hcd := hide hcd
   clear htp
   go_wp2_with (first | (refine wpList_load_row rfl 25 _ rfl _ rfl _ _ _ _ r1 Tryz.underlying25 rfl (by kernel_rfl) ?_) | (refine wpList_load_row rfl 73 _ rfl _ rfl _ _ _ _ hw1 Tryz.underlying73 rfl (by kernel_rfl) ?_) | fail)
   refine cC2.out.mono ?_
   rintro e w5 ⟨rfl,hb5⟩
   have bel := Bel.to (Bel.to hB hb1) hb5
   unfold condVal
   simp only []
   clear cC2 hB hb1 hb5 hw1 r1 hs
   go_upto_region 6 with (fail)
   obtain ⟨w6,hw6⟩ : ∃ X,X = w5.alloc (.cells #[.int .i64 (cf : Int),.int .i64 (cb : Int),.bool cx] 122) := ⟨_,rfl⟩
   have b6 : Below w5.heap.size w5 w6 := by rw [hw6];exact Bel.al (Below.refl _ _) _
   have r6 : Row w6 w5.heap.size 122 [.int .i64 (cf : Int),.int .i64 (cb : Int),.bool cx] := by rw [hw6];exact Row.newOf _ rfl
   rw [← hw6]
   clear hw6
   replace bel := Bel.to bel b6
   have c0 := r6.cell? 0
   have c1 := r6.cell? 1
   have c2 := r6.cell? 2
   simp only [List.getElem?_cons_zero,List.getElem?_cons_succ] at c0 c1 c2
   clear r6 b6
   by_cases ha0 : cf = 0
   ·skip
    have ea1 : ¬ (0 : Int) < (cf : Int) := by omega
    have ea2 : ¬ 0 < cf := by omega
    by_cases hb0 : cb = 0
    ·skip
     have eb1 : ¬ (0 : Int) < (cb : Int) := by omega
     have eb2 : ¬ 0 < cb := by omega
     cases o
     ·cases cx
      ·skip
       skip
       have hs2 : Hid ((f,b',false) = earlyS ((g.tiers.take (i + 1)).map (condOf m))) := by
        show _ = _
        rw [← hst.out]
        unfold earlyF
        simp only []
        simp [ea2,eb2]
       go_wp2
       go_roundg (t - (i + 1))
       case measure => have := hgi.out;have := hlt2.out;omega
       case rel => exact ⟨i + 1,f,b',false,rfl,by have := hlt2.out;omega,rfl,rfl,rfl,by go_num,hs2,bel⟩
      ·skip
       skip
       have hs2 : Hid ((f,b',true) = earlyS ((g.tiers.take (i + 1)).map (condOf m))) := by
        show _ = _
        rw [← hst.out]
        unfold earlyF
        simp only []
        simp [ea2,eb2]
       go_wp2
       go_roundg (t - (i + 1))
       case measure => have := hgi.out;have := hlt2.out;omega
       case rel => exact ⟨i + 1,f,b',true,rfl,by have := hlt2.out;omega,rfl,rfl,rfl,by go_num,hs2,bel⟩
     ·skip
      skip
      have hs2 : Hid ((f,b',true) = earlyS ((g.tiers.take (i + 1)).map (condOf m))) := by
       show _ = _
       rw [← hst.out]
       unfold earlyF
       simp only []
       simp [ea2,eb2]
      go_wp2
      go_roundg (t - (i + 1))
      case measure => have := hgi.out;have := hlt2.out;omega
      case rel => exact ⟨i + 1,f,b',true,rfl,by have := hlt2.out;omega,rfl,rfl,rfl,by go_num,hs2,bel⟩
    ·skip
     by_cases hb1 : b' = 0
     ·skip
      have eb1 : (0 : Int) < (cb : Int) := by omega
      have eb2 : 0 < cb := by omega
      have eb3 : ((b' : Int) == 0) = true := by simp;omega
      have eb4 : b' = 0 := by omega
      cases o
      ·cases cx
       ·skip
        skip
        have hs2 : Hid ((f,cb,false) = earlyS ((g.tiers.take (i + 1)).map (condOf m))) := by
         show _ = _
         rw [← hst.out]
         unfold earlyF
         simp only []
         simp [ea2,eb2,eb4]
        go_wp2
        go_roundg (t - (i + 1))
        case measure => have := hgi.out;have := hlt2.out;omega
        case rel => exact ⟨i + 1,f,cb,false,rfl,by have := hlt2.out;omega,rfl,rfl,rfl,by go_num,hs2,bel⟩
       ·skip
        skip
        have hs2 : Hid ((f,cb,true) = earlyS ((g.tiers.take (i + 1)).map (condOf m))) := by
         show _ = _
         rw [← hst.out]
         unfold earlyF
         simp only []
         simp [ea2,eb2,eb4]
        go_wp2
        go_roundg (t - (i + 1))
        case measure => have := hgi.out;have := hlt2.out;omega
        case rel => exact ⟨i + 1,f,cb,true,rfl,by have := hlt2.out;omega,rfl,rfl,rfl,by go_num,hs2,bel⟩
      ·skip
       skip
       have hs2 : Hid ((f,cb,true) = earlyS ((g.tiers.take (i + 1)).map (condOf m))) := by
        show _ = _
        rw [← hst.out]
        unfold earlyF
        simp only []
        simp [ea2,eb2,eb4]
       go_wp2
       go_roundg (t - (i + 1))
       case measure => have := hgi.out;have := hlt2.out;omega
       case rel => exact ⟨i + 1,f,cb,true,rfl,by have := hlt2.out;omega,rfl,rfl,rfl,by go_num,hs2,bel⟩
     ·skip
      by_cases hb2 : cb < b'
      ·skip
       have eb1 : (0 : Int) < (cb : Int) := by omega
       have eb2 : 0 < cb := by omega
       have eb3 : ((b' : Int) == 0) = false := by simp;omega
       have eb4 : ¬ b' = 0 := by omega
       have eb5 : (cb : Int) < (b' : Int) := by omega
       have eb6 : cb < b' := by omega
       cases o
       ·cases cx
        ·skip
         skip
         have hs2 : Hid ((f,cb,false) = earlyS ((g.tiers.take (i + 1)).map (condOf m))) := by
          show _ = _
          rw [← hst.out]
          unfold earlyF
          simp only []
          simp [ea2,eb2,eb4,eb6]
         go_wp2
         go_roundg (t - (i + 1))
         case measure => have := hgi.out;have := hlt2.out;omega
         case rel => exact ⟨i + 1,f,cb,false,rfl,by have := hlt2.out;omega,rfl,rfl,rfl,by go_num,hs2,bel⟩
        ·skip
         skip
         have hs2 : Hid ((f,cb,true) = earlyS ((g.tiers.take (i + 1)).map (condOf m))) := by
          show _ = _
          rw [← hst.out]
          unfold earlyF
          simp only []
          simp [ea2,eb2,eb4,eb6]
         go_wp2
         go_roundg (t - (i + 1))
         case measure => have := hgi.out;have := hlt2.out;omega
         case rel => exact ⟨i + 1,f,cb,true,rfl,by have := hlt2.out;omega,rfl,rfl,rfl,by go_num,hs2,bel⟩
       ·skip
        skip
        have hs2 : Hid ((f,cb,true) = earlyS ((g.tiers.take (i + 1)).map (condOf m))) := by
         show _ = _
         rw [← hst.out]
         unfold earlyF
         simp only []
         simp [ea2,eb2,eb4,eb6]
        go_wp2
        go_roundg (t - (i + 1))
        case measure => have := hgi.out;have := hlt2.out;omega
        case rel => exact ⟨i + 1,f,cb,true,rfl,by have := hlt2.out;omega,rfl,rfl,rfl,by go_num,hs2,bel⟩
      ·skip
       have eb1 : (0 : Int) < (cb : Int) := by omega
       have eb2 : 0 < cb := by omega
       have eb3 : ((b' : Int) == 0) = false := by simp;omega
       have eb4 : ¬ b' = 0 := by omega
       have eb5 : ¬ (cb : Int) < (b' : Int) := by omega
       have eb6 : ¬ cb < b' := by omega
       cases o
       ·cases cx
        ·skip
         skip
         have hs2 : Hid ((f,b',false) = earlyS ((g.tiers.take (i + 1)).map (condOf m))) := by
          show _ = _
          rw [← hst.out]
          unfold earlyF
          simp only []
          simp [ea2,eb2,eb4,eb6]
         go_wp2
         go_roundg (t - (i + 1))
         case measure => have := hgi.out;have := hlt2.out;omega
         case rel => exact ⟨i + 1,f,b',false,rfl,by have := hlt2.out;omega,rfl,rfl,rfl,by go_num,hs2,bel⟩
        ·skip
         skip
         have hs2 : Hid ((f,b',true) = earlyS ((g.tiers.take (i + 1)).map (condOf m))) := by
          show _ = _
          rw [← hst.out]
          unfold earlyF
          simp only []
          simp [ea2,eb2,eb4,eb6]
         go_wp2
         go_roundg (t - (i + 1))
         case measure => have := hgi.out;have := hlt2.out;omega
         case rel => exact ⟨i + 1,f,b',true,rfl,by have := hlt2.out;omega,rfl,rfl,rfl,by go_num,hs2,bel⟩
       ·skip
        skip
        have hs2 : Hid ((f,b',true) = earlyS ((g.tiers.take (i + 1)).map (condOf m))) := by
         show _ = _
         rw [← hst.out]
         unfold earlyF
         simp only []
         simp [ea2,eb2,eb4,eb6]
        go_wp2
        go_roundg (t - (i + 1))
        case measure => have := hgi.out;have := hlt2.out;omega
        case rel => exact ⟨i + 1,f,b',true,rfl,by have := hlt2.out;omega,rfl,rfl,rfl,by go_num,hs2,bel⟩
   ·skip
    by_cases ha1 : f = 0
    ·skip
     have ea1 : (0 : Int) < (cf : Int) := by omega
     have ea2 : 0 < cf := by omega
     have ea3 : ((f : Int) == 0) = true := by simp;omega
     have ea4 : f = 0 := by omega
     by_cases hb0 : cb = 0
     ·skip
      have eb1 : ¬ (0 : Int) < (cb : Int) := by omega
      have eb2 : ¬ 0 < cb := by omega
      cases o
      ·cases cx
       ·skip
        skip
        have hs2 : Hid ((cf,b',false) = earlyS ((g.tiers.take (i + 1)).map (condOf m))) := by
         show _ = _
         rw [← hst.out]
         unfold earlyF
         simp only []
         simp [ea2,ea4,eb2]
        go_wp2
        go_roundg (t - (i + 1))
        case measure => have := hgi.out;have := hlt2.out;omega
        case rel => exact ⟨i + 1,cf,b',false,rfl,by have := hlt2.out;omega,rfl,rfl,rfl,by go_num,hs2,bel⟩
       ·skip
        skip
        have hs2 : Hid ((cf,b',true) = earlyS ((g.tiers.take (i + 1)).map (condOf m))) := by
         show _ = _
         rw [← hst.out]
         unfold earlyF
         simp only []
         simp [ea2,ea4,eb2]
        go_wp2
        go_roundg (t - (i + 1))
        case measure => have := hgi.out;have := hlt2.out;omega
        case rel => exact ⟨i + 1,cf,b',true,rfl,by have := hlt2.out;omega,rfl,rfl,rfl,by go_num,hs2,bel⟩
      ·skip
       skip
       have hs2 : Hid ((cf,b',true) = earlyS ((g.tiers.take (i + 1)).map (condOf m))) := by
        show _ = _
        rw [← hst.out]
        unfold earlyF
        simp only []
        simp [ea2,ea4,eb2]
       go_wp2
       go_roundg (t - (i + 1))
       case measure => have := hgi.out;have := hlt2.out;omega
       case rel => exact ⟨i + 1,cf,b',true,rfl,by have := hlt2.out;omega,rfl,rfl,rfl,by go_num,hs2,bel⟩
     ·skip
      by_cases hb1 : b' = 0
      ·skip
       have eb1 : (0 : Int) < (cb : Int) := by omega
       have eb2 : 0 < cb := by omega
       have eb3 : ((b' : Int) == 0) = true := by simp;omega
       have eb4 : b' = 0 := by omega
       cases o
       ·cases cx
        ·skip
         skip
         have hs2 : Hid ((cf,cb,false) = earlyS ((g.tiers.take (i + 1)).map (condOf m))) := by
          show _ = _
          rw [← hst.out]
          unfold earlyF
          simp only []
          simp [ea2,ea4,eb2,eb4]
         go_wp2
         go_roundg (t - (i + 1))
         case measure => have := hgi.out;have := hlt2.out;omega
         case rel => exact ⟨i + 1,cf,cb,false,rfl,by have := hlt2.out;omega,rfl,rfl,rfl,by go_num,hs2,bel⟩
        ·skip
         skip
         have hs2 : Hid ((cf,cb,true) = earlyS ((g.tiers.take (i + 1)).map (condOf m))) := by
          show _ = _
          rw [← hst.out]
          unfold earlyF
          simp only []
          simp [ea2,ea4,eb2,eb4]
         go_wp2
         go_roundg (t - (i + 1))
         case measure => have := hgi.out;have := hlt2.out;omega
         case rel => exact ⟨i + 1,cf,cb,true,rfl,by have := hlt2.out;omega,rfl,rfl,rfl,by go_num,hs2,bel⟩
       ·skip
        skip
        have hs2 : Hid ((cf,cb,true) = earlyS ((g.tiers.take (i + 1)).map (condOf m))) := by
         show _ = _
         rw [← hst.out]
         unfold earlyF
         simp only []
         simp [ea2,ea4,eb2,eb4]
        go_wp2
        go_roundg (t - (i + 1))
        case measure => have := hgi.out;have := hlt2.out;omega
        case rel => exact ⟨i + 1,cf,cb,true,rfl,by have := hlt2.out;omega,rfl,rfl,rfl,by go_num,hs2,bel⟩
      ·skip
       by_cases hb2 : cb < b'
       ·skip
        have eb1 : (0 : Int) < (cb : Int) := by omega
        have eb2 : 0 < cb := by omega
        have eb3 : ((b' : Int) == 0) = false := by simp;omega
        have eb4 : ¬ b' = 0 := by omega
        have eb5 : (cb : Int) < (b' : Int) := by omega
        have eb6 : cb < b' := by omega
        cases o
        ·cases cx
         ·skip
          skip
          have hs2 : Hid ((cf,cb,false) = earlyS ((g.tiers.take (i + 1)).map (condOf m))) := by
           show _ = _
           rw [← hst.out]
           unfold earlyF
           simp only []
           simp [ea2,ea4,eb2,eb4,eb6]
          go_wp2
          go_roundg (t - (i + 1))
          case measure => have := hgi.out;have := hlt2.out;omega
          case rel => exact ⟨i + 1,cf,cb,false,rfl,by have := hlt2.out;omega,rfl,rfl,rfl,by go_num,hs2,bel⟩
         ·skip
          skip
          have hs2 : Hid ((cf,cb,true) = earlyS ((g.tiers.take (i + 1)).map (condOf m))) := by
           show _ = _
           rw [← hst.out]
           unfold earlyF
           simp only []
           simp [ea2,ea4,eb2,eb4,eb6]
          go_wp2
          go_roundg (t - (i + 1))
          case measure => have := hgi.out;have := hlt2.out;omega
          case rel => exact ⟨i + 1,cf,cb,true,rfl,by have := hlt2.out;omega,rfl,rfl,rfl,by go_num,hs2,bel⟩
        ·skip
         skip
         have hs2 : Hid ((cf,cb,true) = earlyS ((g.tiers.take (i + 1)).map (condOf m))) := by
          show _ = _
          rw [← hst.out]
          unfold earlyF
          simp only []
          simp [ea2,ea4,eb2,eb4,eb6]
         go_wp2
         go_roundg (t - (i + 1))
         case measure => have := hgi.out;have := hlt2.out;omega
         case rel => exact ⟨i + 1,cf,cb,true,rfl,by have := hlt2.out;omega,rfl,rfl,rfl,by go_num,hs2,bel⟩
       ·skip
        have eb1 : (0 : Int) < (cb : Int) := by omega
        have eb2 : 0 < cb := by omega
        have eb3 : ((b' : Int) == 0) = false := by simp;omega
        have eb4 : ¬ b' = 0 := by omega
        have eb5 : ¬ (cb : Int) < (b' : Int) := by omega
        have eb6 : ¬ cb < b' := by omega
        cases o
        ·cases cx
         ·skip
          skip
          have hs2 : Hid ((cf,b',false) = earlyS ((g.tiers.take (i + 1)).map (condOf m))) := by
           show _ = _
           rw [← hst.out]
           unfold earlyF
           simp only []
           simp [ea2,ea4,eb2,eb4,eb6]
          go_wp2
          go_roundg (t - (i + 1))
          case measure => have := hgi.out;have := hlt2.out;omega
          case rel => exact ⟨i + 1,cf,b',false,rfl,by have := hlt2.out;omega,rfl,rfl,rfl,by go_num,hs2,bel⟩
         ·skip
          skip
          have hs2 : Hid ((cf,b',true) = earlyS ((g.tiers.take (i + 1)).map (condOf m))) := by
           show _ = _
           rw [← hst.out]
           unfold earlyF
           simp only []
           simp [ea2,ea4,eb2,eb4,eb6]
          go_wp2
          go_roundg (t - (i + 1))
          case measure => have := hgi.out;have := hlt2.out;omega
          case rel => exact ⟨i + 1,cf,b',true,rfl,by have := hlt2.out;omega,rfl,rfl,rfl,by go_num,hs2,bel⟩
        ·skip
         skip
         have hs2 : Hid ((cf,b',true) = earlyS ((g.tiers.take (i + 1)).map (condOf m))) := by
          show _ = _
          rw [← hst.out]
          unfold earlyF
          simp only []
          simp [ea2,ea4,eb2,eb4,eb6]
         go_wp2
         go_roundg (t - (i + 1))
         case measure => have := hgi.out;have := hlt2.out;omega
         case rel => exact ⟨i + 1,cf,b',true,rfl,by have := hlt2.out;omega,rfl,rfl,rfl,by go_num,hs2,bel⟩
    ·skip
     by_cases ha2 : cf < f
     ·skip
      have ea1 : (0 : Int) < (cf : Int) := by omega
      have ea2 : 0 < cf := by omega
      have ea3 : ((f : Int) == 0) = false := by simp;omega
      have ea4 : ¬ f = 0 := by omega
      have ea5 : (cf : Int) < (f : Int) := by omega
      have ea6 : cf < f := by omega
      by_cases hb0 : cb = 0
      ·skip
       have eb1 : ¬ (0 : Int) < (cb : Int) := by omega
       have eb2 : ¬ 0 < cb := by omega
       cases o
       ·cases cx
        ·skip
         skip
         have hs2 : Hid ((cf,b',false) = earlyS ((g.tiers.take (i + 1)).map (condOf m))) := by
          show _ = _
          rw [← hst.out]
          unfold earlyF
          simp only []
          simp [ea2,ea4,ea6,eb2]
         go_wp2
         go_roundg (t - (i + 1))
         case measure => have := hgi.out;have := hlt2.out;omega
         case rel => exact ⟨i + 1,cf,b',false,rfl,by have := hlt2.out;omega,rfl,rfl,rfl,by go_num,hs2,bel⟩
        ·skip
         skip
         have hs2 : Hid ((cf,b',true) = earlyS ((g.tiers.take (i + 1)).map (condOf m))) := by
          show _ = _
          rw [← hst.out]
          unfold earlyF
          simp only []
          simp [ea2,ea4,ea6,eb2]
         go_wp2
         go_roundg (t - (i + 1))
         case measure => have := hgi.out;have := hlt2.out;omega
         case rel => exact ⟨i + 1,cf,b',true,rfl,by have := hlt2.out;omega,rfl,rfl,rfl,by go_num,hs2,bel⟩
       ·skip
        skip
        have hs2 : Hid ((cf,b',true) = earlyS ((g.tiers.take (i + 1)).map (condOf m))) := by
         show _ = _
         rw [← hst.out]
         unfold earlyF
         simp only []
         simp [ea2,ea4,ea6,eb2]
        go_wp2
        go_roundg (t - (i + 1))
        case measure => have := hgi.out;have := hlt2.out;omega
        case rel => exact ⟨i + 1,cf,b',true,rfl,by have := hlt2.out;omega,rfl,rfl,rfl,by go_num,hs2,bel⟩
      ·skip
       by_cases hb1 : b' = 0
       ·skip
        have eb1 : (0 : Int) < (cb : Int) := by omega
        have eb2 : 0 < cb := by omega
        have eb3 : ((b' : Int) == 0) = true := by simp;omega
        have eb4 : b' = 0 := by omega
        cases o
        ·cases cx
         ·skip
          skip
          have hs2 : Hid ((cf,cb,false) = earlyS ((g.tiers.take (i + 1)).map (condOf m))) := by
           show _ = _
           rw [← hst.out]
           unfold earlyF
           simp only []
           simp [ea2,ea4,ea6,eb2,eb4]
          go_wp2
          go_roundg (t - (i + 1))
          case measure => have := hgi.out;have := hlt2.out;omega
          case rel => exact ⟨i + 1,cf,cb,false,rfl,by have := hlt2.out;omega,rfl,rfl,rfl,by go_num,hs2,bel⟩
         ·skip
          skip
          have hs2 : Hid ((cf,cb,true) = earlyS ((g.tiers.take (i + 1)).map (condOf m))) := by
           show _ = _
           rw [← hst.out]
           unfold earlyF
           simp only []
           simp [ea2,ea4,ea6,eb2,eb4]
          go_wp2
          go_roundg (t - (i + 1))
          case measure => have := hgi.out;have := hlt2.out;omega
          case rel => exact ⟨i + 1,cf,cb,true,rfl,by have := hlt2.out;omega,rfl,rfl,rfl,by go_num,hs2,bel⟩
        ·skip
         skip
         have hs2 : Hid ((cf,cb,true) = earlyS ((g.tiers.take (i + 1)).map (condOf m))) := by
          show _ = _
          rw [← hst.out]
          unfold earlyF
          simp only []
          simp [ea2,ea4,ea6,eb2,eb4]
         go_wp2
         go_roundg (t - (i + 1))
         case measure => have := hgi.out;have := hlt2.out;omega
         case rel => exact ⟨i + 1,cf,cb,true,rfl,by have := hlt2.out;omega,rfl,rfl,rfl,by go_num,hs2,bel⟩
       ·skip
        by_cases hb2 : cb < b'
        ·skip
         have eb1 : (0 : Int) < (cb : Int) := by omega
         have eb2 : 0 < cb := by omega
         have eb3 : ((b' : Int) == 0) = false := by simp;omega
         have eb4 : ¬ b' = 0 := by omega
         have eb5 : (cb : Int) < (b' : Int) := by omega
         have eb6 : cb < b' := by omega
         cases o
         ·cases cx
          ·skip
           skip
           have hs2 : Hid ((cf,cb,false) = earlyS ((g.tiers.take (i + 1)).map (condOf m))) := by
            show _ = _
            rw [← hst.out]
            unfold earlyF
            simp only []
            simp [ea2,ea4,ea6,eb2,eb4,eb6]
           go_wp2
           go_roundg (t - (i + 1))
           case measure => have := hgi.out;have := hlt2.out;omega
           case rel => exact ⟨i + 1,cf,cb,false,rfl,by have := hlt2.out;omega,rfl,rfl,rfl,by go_num,hs2,bel⟩
          ·skip
           skip
           have hs2 : Hid ((cf,cb,true) = earlyS ((g.tiers.take (i + 1)).map (condOf m))) := by
            show _ = _
            rw [← hst.out]
            unfold earlyF
            simp only []
            simp [ea2,ea4,ea6,eb2,eb4,eb6]
           go_wp2
           go_roundg (t - (i + 1))
           case measure => have := hgi.out;have := hlt2.out;omega
           case rel => exact ⟨i + 1,cf,cb,true,rfl,by have := hlt2.out;omega,rfl,rfl,rfl,by go_num,hs2,bel⟩
         ·skip
          skip
          have hs2 : Hid ((cf,cb,true) = earlyS ((g.tiers.take (i + 1)).map (condOf m))) := by
           show _ = _
           rw [← hst.out]
           unfold earlyF
           simp only []
           simp [ea2,ea4,ea6,eb2,eb4,eb6]
          go_wp2
          go_roundg (t - (i + 1))
          case measure => have := hgi.out;have := hlt2.out;omega
          case rel => exact ⟨i + 1,cf,cb,true,rfl,by have := hlt2.out;omega,rfl,rfl,rfl,by go_num,hs2,bel⟩
        ·skip
         have eb1 : (0 : Int) < (cb : Int) := by omega
         have eb2 : 0 < cb := by omega
         have eb3 : ((b' : Int) == 0) = false := by simp;omega
         have eb4 : ¬ b' = 0 := by omega
         have eb5 : ¬ (cb : Int) < (b' : Int) := by omega
         have eb6 : ¬ cb < b' := by omega
         cases o
         ·cases cx
          ·skip
           skip
           have hs2 : Hid ((cf,b',false) = earlyS ((g.tiers.take (i + 1)).map (condOf m))) := by
            show _ = _
            rw [← hst.out]
            unfold earlyF
            simp only []
            simp [ea2,ea4,ea6,eb2,eb4,eb6]
           go_wp2
           go_roundg (t - (i + 1))
           case measure => have := hgi.out;have := hlt2.out;omega
           case rel => exact ⟨i + 1,cf,b',false,rfl,by have := hlt2.out;omega,rfl,rfl,rfl,by go_num,hs2,bel⟩
          ·skip
           skip
           have hs2 : Hid ((cf,b',true) = earlyS ((g.tiers.take (i + 1)).map (condOf m))) := by
            show _ = _
            rw [← hst.out]
            unfold earlyF
            simp only []
            simp [ea2,ea4,ea6,eb2,eb4,eb6]
           go_wp2
           go_roundg (t - (i + 1))
           case measure => have := hgi.out;have := hlt2.out;omega
           case rel => exact ⟨i + 1,cf,b',true,rfl,by have := hlt2.out;omega,rfl,rfl,rfl,by go_num,hs2,bel⟩
         ·skip
          skip
          have hs2 : Hid ((cf,b',true) = earlyS ((g.tiers.take (i + 1)).map (condOf m))) := by
           show _ = _
           rw [← hst.out]
           unfold earlyF
           simp only []
           simp [ea2,ea4,ea6,eb2,eb4,eb6]
          go_wp2
          go_roundg (t - (i + 1))
          case measure => have := hgi.out;have := hlt2.out;omega
          case rel => exact ⟨i + 1,cf,b',true,rfl,by have := hlt2.out;omega,rfl,rfl,rfl,by go_num,hs2,bel⟩
     ·skip
      have ea1 : (0 : Int) < (cf : Int) := by omega
      have ea2 : 0 < cf := by omega
      have ea3 : ((f : Int) == 0) = false := by simp;omega
      have ea4 : ¬ f = 0 := by omega
      have ea5 : ¬ (cf : Int) < (f : Int) := by omega
      have ea6 : ¬ cf < f := by omega
      by_cases hb0 : cb = 0
      ·skip
       have eb1 : ¬ (0 : Int) < (cb : Int) := by omega
       have eb2 : ¬ 0 < cb := by omega
       cases o
       ·cases cx
        ·skip
         skip
         have hs2 : Hid ((f,b',false) = earlyS ((g.tiers.take (i + 1)).map (condOf m))) := by
          show _ = _
          rw [← hst.out]
          unfold earlyF
          simp only []
          simp [ea2,ea4,ea6,eb2]
         go_wp2
         go_roundg (t - (i + 1))
         case measure => have := hgi.out;have := hlt2.out;omega
         case rel => exact ⟨i + 1,f,b',false,rfl,by have := hlt2.out;omega,rfl,rfl,rfl,by go_num,hs2,bel⟩
        ·skip
         skip
         have hs2 : Hid ((f,b',true) = earlyS ((g.tiers.take (i + 1)).map (condOf m))) := by
          show _ = _
          rw [← hst.out]
          unfold earlyF
          simp only []
          simp [ea2,ea4,ea6,eb2]
         go_wp2
         go_roundg (t - (i + 1))
         case measure => have := hgi.out;have := hlt2.out;omega
         case rel => exact ⟨i + 1,f,b',true,rfl,by have := hlt2.out;omega,rfl,rfl,rfl,by go_num,hs2,bel⟩
       ·skip
        skip
        have hs2 : Hid ((f,b',true) = earlyS ((g.tiers.take (i + 1)).map (condOf m))) := by
         show _ = _
         rw [← hst.out]
         unfold earlyF
         simp only []
         simp [ea2,ea4,ea6,eb2]
        go_wp2
        go_roundg (t - (i + 1))
        case measure => have := hgi.out;have := hlt2.out;omega
        case rel => exact ⟨i + 1,f,b',true,rfl,by have := hlt2.out;omega,rfl,rfl,rfl,by go_num,hs2,bel⟩
      ·skip
       by_cases hb1 : b' = 0
       ·skip
        have eb1 : (0 : Int) < (cb : Int) := by omega
        have eb2 : 0 < cb := by omega
        have eb3 : ((b' : Int) == 0) = true := by simp;omega
        have eb4 : b' = 0 := by omega
        cases o
        ·cases cx
         ·skip
          skip
          have hs2 : Hid ((f,cb,false) = earlyS ((g.tiers.take (i + 1)).map (condOf m))) := by
           show _ = _
           rw [← hst.out]
           unfold earlyF
           simp only []
           simp [ea2,ea4,ea6,eb2,eb4]
          go_wp2
          go_roundg (t - (i + 1))
          case measure => have := hgi.out;have := hlt2.out;omega
          case rel => exact ⟨i + 1,f,cb,false,rfl,by have := hlt2.out;omega,rfl,rfl,rfl,by go_num,hs2,bel⟩
         ·skip
          skip
          have hs2 : Hid ((f,cb,true) = earlyS ((g.tiers.take (i + 1)).map (condOf m))) := by
           show _ = _
           rw [← hst.out]
           unfold earlyF
           simp only []
           simp [ea2,ea4,ea6,eb2,eb4]
          go_wp2
          go_roundg (t - (i + 1))
          case measure => have := hgi.out;have := hlt2.out;omega
          case rel => exact ⟨i + 1,f,cb,true,rfl,by have := hlt2.out;omega,rfl,rfl,rfl,by go_num,hs2,bel⟩
        ·skip
         skip
         have hs2 : Hid ((f,cb,true) = earlyS ((g.tiers.take (i + 1)).map (condOf m))) := by
          show _ = _
          rw [← hst.out]
          unfold earlyF
          simp only []
          simp [ea2,ea4,ea6,eb2,eb4]
         go_wp2
         go_roundg (t - (i + 1))
         case measure => have := hgi.out;have := hlt2.out;omega
         case rel => exact ⟨i + 1,f,cb,true,rfl,by have := hlt2.out;omega,rfl,rfl,rfl,by go_num,hs2,bel⟩
       ·skip
        by_cases hb2 : cb < b'
        ·skip
         have eb1 : (0 : Int) < (cb : Int) := by omega
         have eb2 : 0 < cb := by omega
         have eb3 : ((b' : Int) == 0) = false := by simp;omega
         have eb4 : ¬ b' = 0 := by omega
         have eb5 : (cb : Int) < (b' : Int) := by omega
         have eb6 : cb < b' := by omega
         cases o
         ·cases cx
          ·skip
           skip
           have hs2 : Hid ((f,cb,false) = earlyS ((g.tiers.take (i + 1)).map (condOf m))) := by
            show _ = _
            rw [← hst.out]
            unfold earlyF
            simp only []
            simp [ea2,ea4,ea6,eb2,eb4,eb6]
           go_wp2
           go_roundg (t - (i + 1))
           case measure => have := hgi.out;have := hlt2.out;omega
           case rel => exact ⟨i + 1,f,cb,false,rfl,by have := hlt2.out;omega,rfl,rfl,rfl,by go_num,hs2,bel⟩
          ·skip
           skip
           have hs2 : Hid ((f,cb,true) = earlyS ((g.tiers.take (i + 1)).map (condOf m))) := by
            show _ = _
            rw [← hst.out]
            unfold earlyF
            simp only []
            simp [ea2,ea4,ea6,eb2,eb4,eb6]
           go_wp2
           go_roundg (t - (i + 1))
           case measure => have := hgi.out;have := hlt2.out;omega
           case rel => exact ⟨i + 1,f,cb,true,rfl,by have := hlt2.out;omega,rfl,rfl,rfl,by go_num,hs2,bel⟩
         ·skip
          skip
          have hs2 : Hid ((f,cb,true) = earlyS ((g.tiers.take (i + 1)).map (condOf m))) := by
           show _ = _
           rw [← hst.out]
           unfold earlyF
           simp only []
           simp [ea2,ea4,ea6,eb2,eb4,eb6]
          go_wp2
          go_roundg (t - (i + 1))
          case measure => have := hgi.out;have := hlt2.out;omega
          case rel => exact ⟨i + 1,f,cb,true,rfl,by have := hlt2.out;omega,rfl,rfl,rfl,by go_num,hs2,bel⟩
        ·skip
         have eb1 : (0 : Int) < (cb : Int) := by omega
         have eb2 : 0 < cb := by omega
         have eb3 : ((b' : Int) == 0) = false := by simp;omega
         have eb4 : ¬ b' = 0 := by omega
         have eb5 : ¬ (cb : Int) < (b' : Int) := by omega
         have eb6 : ¬ cb < b' := by omega
         cases o
         ·cases cx
          ·skip
           skip
           have hs2 : Hid ((f,b',false) = earlyS ((g.tiers.take (i + 1)).map (condOf m))) := by
            show _ = _
            rw [← hst.out]
            unfold earlyF
            simp only []
            simp [ea2,ea4,ea6,eb2,eb4,eb6]
           go_wp2
           go_roundg (t - (i + 1))
           case measure => have := hgi.out;have := hlt2.out;omega
           case rel => exact ⟨i + 1,f,b',false,rfl,by have := hlt2.out;omega,rfl,rfl,rfl,by go_num,hs2,bel⟩
          ·skip
           skip
           have hs2 : Hid ((f,b',true) = earlyS ((g.tiers.take (i + 1)).map (condOf m))) := by
            show _ = _
            rw [← hst.out]
            unfold earlyF
            simp only []
            simp [ea2,ea4,ea6,eb2,eb4,eb6]
           go_wp2
           go_roundg (t - (i + 1))
           case measure => have := hgi.out;have := hlt2.out;omega
           case rel => exact ⟨i + 1,f,b',true,rfl,by have := hlt2.out;omega,rfl,rfl,rfl,by go_num,hs2,bel⟩
         ·skip
          skip
          have hs2 : Hid ((f,b',true) = earlyS ((g.tiers.take (i + 1)).map (condOf m))) := by
           show _ = _
           rw [← hst.out]
           unfold earlyF
           simp only []
           simp [ea2,ea4,ea6,eb2,eb4,eb6]
          go_wp2
          go_roundg (t - (i + 1))
          case measure => have := hgi.out;have := hlt2.out;omega
          case rel => exact ⟨i + 1,f,b',true,rfl,by have := hlt2.out;omega,rfl,rfl,rfl,by go_num,hs2,bel⟩
  ·obtain rfl : i = t := by omega
   have hfin : Hid (earlyL (f,b',o) = E) := by show _ = _;rw [hE.out,← hs.out]
   replace bW := Bel.to bW hB
   have hnil : COwn wr wr.heap.size (.slice none 0 0) [] := OwnS.nil _ _ _
   obtain ⟨base,hbase⟩ : ∃ b,b = wr.heap.size := ⟨_,rfl⟩
   rw [← hbase] at hnil
   have hb0 : base ≤ wr.heap.size := by omega
   have bel : Below base wr wr := by rw [hbase];exact Below.refl _ _
   replace hbase := hide hbase
   clear hs hB r0
   by_cases hz0 : 0 < f
   ·skip
    have hy0 : (0 : Int) < (f : Int) := by omega
    go_upto_region 15 with (first | (refine wpList_append_cond _ rfl _ _ rfl base _ _ rfl wr hnil (Bel.al (Below.refl _ _) _) wr.heap.size (⟨f,0,false⟩ : CondD) rfl 122 (Row.newOf _ rfl) (by simp) hb0 ?_;intro v6 y6 ho6 bo6p) | fail)
    have bo6 := Below.trans bel bo6p
    have hb6 : base ≤ y6.heap.size := Nat.le_trans hb0 bo6p.size
    clear bo6p
    by_cases hz1 : 0 < b'
    ·skip
     have hy1 : (0 : Int) < (b' : Int) := by omega
     go_upto_region 17 with (first | (refine wpList_append_cond _ rfl _ _ rfl base _ _ rfl y6 ho6 (Bel.al (Below.refl _ _) _) y6.heap.size (⟨0,b',false⟩ : CondD) rfl 122 (Row.newOf _ rfl) (by simp) hb6 ?_;intro v8 y8 ho8 bo8p) | fail)
     have bo8 := Below.trans bo6 bo8p
     have hb8 : base ≤ y8.heap.size := Nat.le_trans hb6 bo8p.size
     clear bo8p
     cases o
     ·skip
      have hEE : [⟨f,0,false⟩,⟨0,b',false⟩] = E := by rw [← hfin.out];simp [earlyL,hz0,hz1]
      have hrd := OwnS.rd condC_len ho8
      rw [show ([] ++ [⟨f,0,false⟩] ++ [⟨0,b',false⟩] : List CondD) = E from hEE] at hrd
      have hfb := Bel.to bW (show Below wr.heap.size wr y8 by rw [← hbase.out];exact bo8)
      go_wp2
      go_ret
      exact ⟨_,rfl,hrd,hfb⟩
     ·skip
      go_upto_region 19 with (first | (refine wpList_append_cond _ rfl _ _ rfl base _ _ rfl y8 ho8 (Bel.al (Below.refl _ _) _) y8.heap.size (⟨0,0,true⟩ : CondD) rfl 122 (Row.newOf _ rfl) (by simp) hb8 ?_;intro v10 y10 ho10 bo10p) | fail)
      have bo10 := Below.trans bo8 bo10p
      have hb10 : base ≤ y10.heap.size := Nat.le_trans hb8 bo10p.size
      clear bo10p
      have hEE : [⟨f,0,false⟩,⟨0,b',false⟩,⟨0,0,true⟩] = E := by rw [← hfin.out];simp [earlyL,hz0,hz1]
      have hrd := OwnS.rd condC_len ho10
      rw [show ([] ++ [⟨f,0,false⟩] ++ [⟨0,b',false⟩] ++ [⟨0,0,true⟩] : List CondD) = E from hEE] at hrd
      have hfb := Bel.to bW (show Below wr.heap.size wr y10 by rw [← hbase.out];exact bo10)
      go_wp2
      go_ret
      exact ⟨_,rfl,hrd,hfb⟩
    ·skip
     have hy1 : ¬ (0 : Int) < (b' : Int) := by omega
     cases o
     ·skip
      have hEE : [⟨f,0,false⟩] = E := by rw [← hfin.out];simp [earlyL,hz0,hz1]
      have hrd := OwnS.rd condC_len ho6
      rw [show ([] ++ [⟨f,0,false⟩] : List CondD) = E from hEE] at hrd
      have hfb := Bel.to bW (show Below wr.heap.size wr y6 by rw [← hbase.out];exact bo6)
      go_wp2
      go_ret
      exact ⟨_,rfl,hrd,hfb⟩
     ·skip
      go_upto_region 19 with (first | (refine wpList_append_cond _ rfl _ _ rfl base _ _ rfl y6 ho6 (Bel.al (Below.refl _ _) _) y6.heap.size (⟨0,0,true⟩ : CondD) rfl 122 (Row.newOf _ rfl) (by simp) hb6 ?_;intro v10 y10 ho10 bo10p) | fail)
      have bo10 := Below.trans bo6 bo10p
      have hb10 : base ≤ y10.heap.size := Nat.le_trans hb6 bo10p.size
      clear bo10p
      have hEE : [⟨f,0,false⟩,⟨0,0,true⟩] = E := by rw [← hfin.out];simp [earlyL,hz0,hz1]
      have hrd := OwnS.rd condC_len ho10
      rw [show ([] ++ [⟨f,0,false⟩] ++ [⟨0,0,true⟩] : List CondD) = E from hEE] at hrd
      have hfb := Bel.to bW (show Below wr.heap.size wr y10 by rw [← hbase.out];exact bo10)
      go_wp2
      go_ret
      exact ⟨_,rfl,hrd,hfb⟩
   ·skip
    have hy0 : ¬ (0 : Int) < (f : Int) := by omega
    by_cases hz1 : 0 < b'
    ·skip
     have hy1 : (0 : Int) < (b' : Int) := by omega
     go_upto_region 17 with (first | (refine wpList_append_cond _ rfl _ _ rfl base _ _ rfl wr hnil (Bel.al (Below.refl _ _) _) wr.heap.size (⟨0,b',false⟩ : CondD) rfl 122 (Row.newOf _ rfl) (by simp) hb0 ?_;intro v8 y8 ho8 bo8p) | fail)
     have bo8 := Below.trans bel bo8p
     have hb8 : base ≤ y8.heap.size := Nat.le_trans hb0 bo8p.size
     clear bo8p
     cases o
     ·skip
      have hEE : [⟨0,b',false⟩] = E := by rw [← hfin.out];simp [earlyL,hz0,hz1]
      have hrd := OwnS.rd condC_len ho8
      rw [show ([] ++ [⟨0,b',false⟩] : List CondD) = E from hEE] at hrd
      have hfb := Bel.to bW (show Below wr.heap.size wr y8 by rw [← hbase.out];exact bo8)
      go_wp2
      go_ret
      exact ⟨_,rfl,hrd,hfb⟩
     ·skip
      go_upto_region 19 with (first | (refine wpList_append_cond _ rfl _ _ rfl base _ _ rfl y8 ho8 (Bel.al (Below.refl _ _) _) y8.heap.size (⟨0,0,true⟩ : CondD) rfl 122 (Row.newOf _ rfl) (by simp) hb8 ?_;intro v10 y10 ho10 bo10p) | fail)
      have bo10 := Below.trans bo8 bo10p
      have hb10 : base ≤ y10.heap.size := Nat.le_trans hb8 bo10p.size
      clear bo10p
      have hEE : [⟨0,b',false⟩,⟨0,0,true⟩] = E := by rw [← hfin.out];simp [earlyL,hz0,hz1]
      have hrd := OwnS.rd condC_len ho10
      rw [show ([] ++ [⟨0,b',false⟩] ++ [⟨0,0,true⟩] : List CondD) = E from hEE] at hrd
      have hfb := Bel.to bW (show Below wr.heap.size wr y10 by rw [← hbase.out];exact bo10)
      go_wp2
      go_ret
      exact ⟨_,rfl,hrd,hfb⟩
    ·skip
     have hy1 : ¬ (0 : Int) < (b' : Int) := by omega
     cases o
     ·skip
      have hEE : [] = E := by rw [← hfin.out];simp [earlyL,hz0,hz1]
      have hrd := OwnS.rd condC_len hnil
      rw [hEE] at hrd
      have hfb := Bel.to bW (show Below wr.heap.size wr wr by rw [← hbase.out];exact bel)
      go_wp2
      go_ret
      exact ⟨_,rfl,hrd,hfb⟩
     ·skip
      go_upto_region 19 with (first | (refine wpList_append_cond _ rfl _ _ rfl base _ _ rfl wr hnil (Bel.al (Below.refl _ _) _) wr.heap.size (⟨0,0,true⟩ : CondD) rfl 122 (Row.newOf _ rfl) (by simp) hb0 ?_;intro v10 y10 ho10 bo10p) | fail)
      have bo10 := Below.trans bel bo10p
      have hb10 : base ≤ y10.heap.size := Nat.le_trans hb0 bo10p.size
      clear bo10p
      have hEE : [⟨0,0,true⟩] = E := by rw [← hfin.out];simp [earlyL,hz0,hz1]
      have hrd := OwnS.rd condC_len ho10
      rw [show ([] ++ [⟨0,0,true⟩] : List CondD) = E from hEE] at hrd
      have hfb := Bel.to bW (show Below wr.heap.size wr y10 by rw [← hbase.out];exact bo10)
      go_wp2
      go_ret
      exact ⟨_,rfl,hrd,hfb⟩
end Go.Proofs.YtldikghldcefcaaGreat
end
section
set_option linter.unusedVariables false
set_option linter.unusedSimpArgs false
namespace Go.Proofs.YtldikghldcefcaaGreat
def goS : List CondD → Nat → CondD × Nat → CondD × Nat
 | [],_,x => x
 | e :: L,s,x => goS L (s / 2) (if s % 2 = 1 then (andC x.1 e,1 - x.2) else x)
theorem goS_par (L : List CondD) : ∀ (s : Nat) (c : CondD),goS L s (c,1) = ((goS L s (c,0)).1,1 - (goS L s (c,0)).2) ∧ (goS L s (c,0)).2 ≤ 1 := by
 induction L with
 | nil => intro s c;exact ⟨rfl,Nat.zero_le _⟩
 | cons e L ih =>
  intro s c
  simp only [goS]
  by_cases h : s % 2 = 1
  ·rw [if_pos h,if_pos h]
   obtain ⟨h1,h2⟩ := ih (s / 2) (andC c e)
   rw [show (1 : Nat) - 1 = 0 from rfl,show (1 : Nat) - 0 = 1 from rfl,h1]
   simp only []
   have e3 : 1 - (1 - (goS L (s / 2) (andC c e,0)).2) = (goS L (s / 2) (andC c e,0)).2 := by omega
   rw [e3]
   exact ⟨rfl,by omega⟩
  ·rw [if_neg h,if_neg h]
   exact ih (s / 2) c
theorem sumTo_double (f : Nat → Nat) (n : Nat) : sumTo f (2 * n) = sumTo (fun k => f (2 * k)) n + sumTo (fun k => f (2 * k + 1)) n := by
 induction n with
 | zero => rfl
 | succ n ih => rw [show 2 * (n + 1) = 2 * n + 1 + 1 by omega,sumTo,sumTo,ih,sumTo,sumTo];omega
def selT (d m : Nat) (L : List CondD) (c : CondD) (o s : Nat) : Nat := if (goS L s (c,0)).2 = o then pairsN d m (goS L s (c,0)).1 else 0
theorem selT_even (d m : Nat) (L : List CondD) (c e : CondD) (o s : Nat) : selT d m (e :: L) c o (2 * s) = selT d m L c o s := by
 have e1 : goS (e :: L) (2 * s) (c,0) = goS L s (c,0) := by
  show goS L (2 * s / 2) (if 2 * s % 2 = 1 then _ else (c,0)) = _
  rw [if_neg (show ¬ 2 * s % 2 = 1 by omega),show 2 * s / 2 = s by omega]
 unfold selT
 rw [e1]
theorem selT_odd (d m : Nat) (L : List CondD) (c e : CondD) {o : Nat} (ho : o ≤ 1) (s : Nat) : selT d m (e :: L) c o (2 * s + 1) = selT d m L (andC c e) (1 - o) s := by
 obtain ⟨h1,h2⟩ := goS_par L s (andC c e)
 have e1 : goS (e :: L) (2 * s + 1) (c,0) = ((goS L s (andC c e,0)).1,1 - (goS L s (andC c e,0)).2) := by
  rw [← h1]
  show goS L ((2 * s + 1) / 2) (if (2 * s + 1) % 2 = 1 then (andC c e,1 - 0) else _) = _
  rw [if_pos (show (2 * s + 1) % 2 = 1 by omega),show (2 * s + 1) / 2 = s by omega]
 unfold selT
 rw [e1]
 simp only []
 by_cases h : (goS L s (andC c e,0)).2 = 1 - o
 ·rw [if_pos (by omega),if_pos h]
 ·rw [if_neg (by omega),if_neg h]
theorem selT_sum (d m : Nat) (L : List CondD) : ∀ c,sumTo (selT d m L c 0) (2 ^ L.length) = (evO d m L c).1 ∧ sumTo (selT d m L c 1) (2 ^ L.length) = (evO d m L c).2 := by
 induction L with
 | nil => intro c;constructor <;> simp [sumTo,selT,goS,evO]
 | cons e L ih =>
  intro c
  obtain ⟨a1,a2⟩ := ih c
  obtain ⟨b1,b2⟩ := ih (andC c e)
  simp only [evO]
  rw [← a1,← a2,← b1,← b2,List.length_cons,Nat.pow_succ,Nat.mul_comm (2 ^ L.length) 2,sumTo_double,sumTo_double]
  simp only [selT_even,selT_odd d m L c e (Nat.zero_le 1),selT_odd d m L c e (Nat.le_refl 1),Nat.sub_zero,Nat.sub_self]
  exact ⟨trivial,trivial⟩
theorem pairsN_le (d m : Nat) (c : CondD) : pairsN d m c ≤ d ^ (2 * m) := by rw [pairsN_count];exact cnt2_le _
theorem selT_le (d m : Nat) (L : List CondD) (c : CondD) (o s : Nat) : selT d m L c o s ≤ d ^ (2 * m) := by
 unfold selT
 split
 ·exact pairsN_le _ _ _
 ·exact Nat.zero_le _
theorem earlyL_len (s : Nat × Nat × Bool) : (earlyL s).length ≤ 3 := by
 unfold earlyL
 simp only [List.length_append]
 split <;> split <;> split <;> simp
theorem goS_cons {L : List CondD} {i s : Nat} {e c : CondD} {o : Nat} (h : L[i]? = some e) : goS (L.drop i) s (c,o) = goS (L.drop (i + 1)) (s / 2) (if s % 2 = 1 then (andC c e,1 - o) else (c,o)) := by
 obtain ⟨hi,rfl⟩ := List.getElem?_eq_some_iff.1 h
 rw [List.drop_eq_getElem_cons hi]
 rfl
end Go.Proofs.YtldikghldcefcaaGreat
end
section
set_option linter.unusedVariables false
set_option linter.unusedSimpArgs false
namespace Go.Proofs.YtldikghldcefcaaGreat
open Go.RowKit
theorem bor_alg {B P v dv w bo x z y bn : Nat} (h : v + dv = w + P * bo) (hz : z + (x + bo) = y + B * bn) : v + P * z + (dv + P * x) = w + P * y + P * B * bn := by
 have e1 : P * z + P * x + P * bo = P * y + P * B * bn := by
  have := congrArg (P * ·) hz
  simp only [Nat.mul_add,← Nat.mul_assoc] at this
  omega
 omega
theorem bor_step {X Y P : List Nat} {k bo bn x y z : Nat} (hk : k < P.length) (hx : val (X.take (k + 1)) = val (X.take k) + 4294967296 ^ k * y) (hy : val (Y.take (k + 1)) = val (Y.take k) + 4294967296 ^ k * x) (h : val (P.take k) + val (Y.take k) = val (X.take k) + 4294967296 ^ k * bo) (hz : z + (x + bo) = y + 4294967296 * bn) :
  val ((P.set k z).take (k + 1)) + val (Y.take (k + 1)) = val (X.take (k + 1)) + 4294967296 ^ (k + 1) * bn := by
 have h1 := val_take_succ (P.set k z) k (by rw [List.length_set];exact hk)
 rw [List.getElem_set_self,List.take_set_of_le (Nat.le_refl k)] at h1
 rw [h1,hx,hy,Nat.pow_succ]
 exact bor_alg h hz
theorem bor_fin {v n m P bo : Nat} (h : v + n = m + P * bo) (hv : v < P) (hn : n ≤ m) : v = m - n := by
 rcases Nat.eq_zero_or_pos bo with h0 | h0
 ·rw [h0,Nat.mul_zero] at h;omega
 ·have := Nat.mul_le_mul_left P h0
  omega
theorem bor_end {X Y P : List Nat} {bo m n : Nat} (hP : P.length = X.length) (hs : Small P) (hy : Y.length ≤ X.length) (hX : val X = m) (hY : val Y = n) (hn : n ≤ m) (h : val (P.take X.length) + val (Y.take X.length) = val (X.take X.length) + 4294967296 ^ X.length * bo) : val P = m - n := by
 have h1 := val_lt hs
 rw [List.take_of_length_le (Nat.le_of_eq hP),List.take_of_length_le hy,List.take_of_length_le (Nat.le_refl X.length),hX,hY] at h
 rw [hP] at h1
 exact bor_fin h h1 hn
set_option maxHeartbeats 4000000 in
set_option maxRecDepth 100000 in
theorem sub_core (va vb : Value) (la lb : List Nat) (m n : Nat) (w : World) (hA : Hid (la = limbs m)) (hB : Hid (lb = limbs n)) (ha : Rd U32 w va la) (hb : Rd U32 w vb lb) (hm : la.length ≤ 64) (hn : lb.length ≤ 64) (hnm : Hid (n ≤ m)) (hle : lb.length ≤ la.length) :
  Calls Tryz.prog 100 #[.agg #[va],.agg #[vb]] w (NatC (m - n) 0 w) := by
 obtain ⟨aa,ca,rfl,hla,hca,hra⟩ := Rd.form ha
 obtain ⟨ab,cb,rfl,hlb,hcb,hrb⟩ := Rd.form hb
 have hsa : Small la := by rw [hA.out];exact small_limbs m
 have hsb : Small lb := by rw [hB.out];exact small_limbs n
 have hvA : Hid (val la = m) := by show _ = _;rw [hA.out,val_limbs]
 have hvB : Hid (val lb = n) := by show _ = _;rw [hB.out,val_limbs]
 go_enter Tryz.func100,Tryz.ntmps100
 go_wp2_with fail
 refine (valid _ m _ (by show Rd _ _ _ _;rw [← hA.out];exact ((ha.alloc _).alloc _).alloc _) (by rw [← hA.out];exact hm)).mono ?_
 rintro e w1 ⟨rfl,hb1⟩
 have hz1 : w.heap.size + 2 < w1.heap.size := by have := hb1.size;simp at this;omega
 have hbw1 := Bel.three _ _ _ hb1
 have c10 : w1.cell? ⟨w.heap.size,0,none⟩ = some (.slice aa la.length ca) := Bel.cellOf hb1 (by go_simp)
 have c11 : w1.cell? ⟨w.heap.size + 1,0,none⟩ = some (.slice ab lb.length cb) := Bel.cellOf hb1 (by go_simp)
 have c12 : w1.cell? ⟨w.heap.size + 1 + 1,0,none⟩ = some (.slice none 0 0) := Bel.cellOf hb1 (by go_simp)
 have f12 : w1.frozen? ⟨w.heap.size + 1 + 1,0,none⟩ = false := Bel.frozenOf hb1 (v := .slice none 0 0) (by go_simp) (by go_simp)
 clear hb1
 go_wp2_with fail
 refine (valid _ n _ (by show Rd _ _ _ _;rw [← hB.out];exact hb.below hbw1) (by rw [← hB.out];exact hn)).mono ?_
 rintro e w2 ⟨rfl,hb2⟩
 have hz2 : w.heap.size + 2 < w2.heap.size := by have := hb2.size;omega
 have hbw2 := Bel.to hbw1 hb2
 have c20 := Bel.cellOf hb2 c10
 have c21 := Bel.cellOf hb2 c11
 have c22 := Bel.cellOf hb2 c12
 have f22 := Bel.frozenOf hb2 c12 f12
 clear hb2 c10 c11 c12 f12 hbw1 hz1
 obtain ⟨cv,hcmp,hcv⟩ : ∃ cv,cmpN m n = cv ∧ ¬ cv < 0 := by
  have := hnm.out
  refine ⟨_,rfl,?_⟩
  unfold cmpN;rw [if_neg (by omega)];split <;> omega
 go_wp2_with fail
 refine (compare_lists _ _ _ _ m n _ hA.out hB.out (by exact hra.below hbw2) (by exact hrb.below hbw2)).mono ?_
 rintro e w3 ⟨rfl,kk,rfl⟩
 rw [hcmp]
 replace hcmp := hide hcmp
 obtain ⟨w9,hw9⟩ : ∃ w9,w9 = w2.drewN kk := ⟨_,rfl⟩
 have c20 : w9.cell? ⟨w.heap.size,0,none⟩ = some (.slice aa la.length ca) := by rw [hw9];exact c20
 have c21 : w9.cell? ⟨w.heap.size + 1,0,none⟩ = some (.slice ab lb.length cb) := by rw [hw9];exact c21
 have c22 : w9.cell? ⟨w.heap.size + 1 + 1,0,none⟩ = some (.slice none 0 0) := by rw [hw9];exact c22
 have f22 : w9.frozen? ⟨w.heap.size + 1 + 1,0,none⟩ = false := by rw [hw9];exact f22
 have hbw2 : Below w.heap.size w w9 := by rw [hw9];exact Bel.drN hbw2 _
 have hz2 : w.heap.size + 2 < w9.heap.size := by rw [hw9];exact hz2
 rw [← hw9]
 clear hw9 ha hb
 go_wp2_with (with_reducible refine wpList_make_row _ rfl _ _ 28 rfl 68 (.int .u32 0) 4 Tryz.underlying28 infoU32 rfl .i64 .i64 _ _ la.length la.length rfl rfl (by omega) (by omega) (Nat.le_refl _) (by omega) (by omega) ?_;intro w3 hrow hb3 hz3;have c30 := Bel.cellOf hb3 c20;have c31 := Bel.cellOf hb3 c21)
 have hbw3 := Bel.to hbw2 hb3
 have c32 := Bel.cellOf hb3 c22
 have f32 := Bel.frozenOf hb3 c22 f22
 obtain ⟨g,hg⟩ : ∃ g,g = w9.heap.size := ⟨_,rfl⟩
 rw [← hg] at hrow hz3 ⊢
 have hg2 : w.heap.size + 2 < g := by omega
 clear hb3 c20 c21 c22 f22 hbw2 hz2 hg
 go_loopw [7,36] (fun tb ti wr => ∃ (k bo : Nat) (P : List Nat),k ≤ la.length ∧ tb = .int .u64 bo ∧ ti = .int .i64 k ∧ bo ≤ 1 ∧ Row wr g 68 (P.map U32) ∧ Hid (P.length = la.length) ∧ Small P ∧ Hid (val (P.take k) + val (lb.take k) = val (la.take k) + 4294967296 ^ k * bo) ∧ w3.grownBy wr (some g)) (fun _ i _ => la.length - (intOf i).toNat)
 case atStart =>
  exact ⟨0,0,List.replicate la.length 0,Nat.zero_le _,rfl,rfl,by omega,by rw [List.map_replicate];exact hrow,by show _ = _;simp,small_zeros _,by show _ = _;simp [val],Gb.refl _ _⟩
 case round =>
  obtain ⟨k,bo,P,hk,rfl,rfl,hbo,hP,hPl,hPs,hPv,hgb⟩ := hrel
  have d0 := Gb.cellOf hgb c30 (by omega)
  have d1 := Gb.cellOf hgb c31 (by omega)
  by_cases hkl : k < la.length
  ·obtain ⟨bx,ox,rfl,hbx,hcellx⟩ := hra.at_ hkl
   have e1 := Gb.cellOf hgb (Bel.cellOf hbw3 (hcellx k hkl)) (by omega)
   have hx := small_get hsa hkl
   have hPlo := hPl.out
   have hkP : k < P.length := by omega
   have e3 := hP.cellV hkP
   have e4 := hP.frozen k
   have hxs := val_take_succ la k hkl
   obtain ⟨y,hy⟩ : ∃ y,y = la[k] := ⟨_,rfl⟩
   rw [← hy] at e1 hx hxs
   replace hxs := hide hxs
   clear hcellx hPlo hy
   by_cases hky : k < lb.length
   ·obtain ⟨by_,oy,rfl,hby,hcelly⟩ := hrb.at_ hky
    have e2 := Gb.cellOf hgb (Bel.cellOf hbw3 (hcelly k hky)) (by omega)
    have hxb := small_get hsb hky
    have hys := val_take_succ lb k hky
    obtain ⟨x,hxx⟩ : ∃ x,x = lb[k] := ⟨_,rfl⟩
    rw [← hxx] at e2 hxb hys
    replace hys := hide hys
    clear hcelly hxx
    by_cases hlt : y < x + bo
    ·have hlti : (y : Int) < (bo : Int) + (x : Int) := by omega
     obtain ⟨z,hz⟩ : ∃ z,z + (x + bo) = y + 4294967296 * 1 := ⟨y + 4294967296 - (x + bo),by omega⟩
     have hzb : z < 4294967296 := by omega
     have ezi : ((y : Int) + 4294967296 - ((bo : Int) + (x : Int))) = (z : Int) := by omega
     have hst := hide (bor_step hkP hxs.out hys.out hPv.out hz)
     clear hPv hz
     go_wp2
     go_roundw
     case rel =>
      exact ⟨k + 1,1,P.set k z,by omega,rfl,by go_num,by omega,hP.setV k z,by show _ = _;rw [List.length_set];exact hPl.out,small_set hPs _ hzb,hst,Gb.set hgb (.inl rfl) _⟩
     case measure => simp [intOf];omega
    ·have hlti : ¬ (y : Int) < (bo : Int) + (x : Int) := by omega
     obtain ⟨z,hz⟩ : ∃ z,z + (x + bo) = y + 4294967296 * 0 := ⟨y - (x + bo),by omega⟩
     have hzb : z < 4294967296 := by omega
     have ezi : ((y : Int) - ((bo : Int) + (x : Int))) = (z : Int) := by omega
     have hst := hide (bor_step hkP hxs.out hys.out hPv.out hz)
     clear hPv hz
     go_wp2
     go_roundw
     case rel =>
      exact ⟨k + 1,0,P.set k z,by omega,rfl,by go_num,by omega,hP.setV k z,by show _ = _;rw [List.length_set];exact hPl.out,small_set hPs _ hzb,hst,Gb.set hgb (.inl rfl) _⟩
     case measure => simp [intOf];omega
   ·have hys := hide (take_more (show lb.length ≤ k by omega))
    by_cases hlt : y < 0 + bo
    ·have hlti : (y : Int) < (bo : Int) := by omega
     obtain ⟨z,hz⟩ : ∃ z,z + (0 + bo) = y + 4294967296 * 1 := ⟨y + 4294967296 - (0 + bo),by omega⟩
     have hzb : z < 4294967296 := by omega
     have ezi : ((y : Int) + 4294967296 - ((bo : Int))) = (z : Int) := by omega
     have hst := hide (bor_step hkP hxs.out hys.out hPv.out hz)
     clear hPv hz
     go_wp2
     go_roundw
     case rel =>
      exact ⟨k + 1,1,P.set k z,by omega,rfl,by go_num,by omega,hP.setV k z,by show _ = _;rw [List.length_set];exact hPl.out,small_set hPs _ hzb,hst,Gb.set hgb (.inl rfl) _⟩
     case measure => simp [intOf];omega
    ·have hlti : ¬ (y : Int) < (bo : Int) := by omega
     obtain ⟨z,hz⟩ : ∃ z,z + (0 + bo) = y + 4294967296 * 0 := ⟨y - (0 + bo),by omega⟩
     have hzb : z < 4294967296 := by omega
     have ezi : ((y : Int) - ((bo : Int))) = (z : Int) := by omega
     have hst := hide (bor_step hkP hxs.out hys.out hPv.out hz)
     clear hPv hz
     go_wp2
     go_roundw
     case rel =>
      exact ⟨k + 1,0,P.set k z,by omega,rfl,by go_num,by omega,hP.setV k z,by show _ = _;rw [List.length_set];exact hPl.out,small_set hPs _ hzb,hst,Gb.set hgb (.inl rfl) _⟩
     case measure => simp [intOf];omega
  ·obtain rfl : k = la.length := by omega
   have hPlo := hPl.out
   have hfin := hide (bor_end hPl.out hPs hle hvA.out hvB.out hnm.out hPv.out)
   have hrd := hP.rdAll (n := la.length) (c := la.length) hPlo.symm (Nat.le_refl _) (by omega)
   have c42 := Gb.cellOf hgb c32 (by omega)
   have f42 := (Gb.frozenOf hgb (b := w.heap.size + 1 + 1) (o := 0) (by omega) (by omega)).trans f32
   have hbel3 := Gb.bel hbw3 hgb (by omega)
   have cB := hide (trimmed _ P _ hrd hPs)
   rw [hfin.out] at cB
   clear hPlo hPv hrd
   go_wp2_with fail
   refine cB.out.mono ?_
   rintro e w5 ⟨u,rfl,hu,hb5⟩
   have c52 := Bel.cellOf hb5 c42
   have f52 := Bel.frozenOf hb5 c42 f42
   have hu' := hu.setNe c52 (fun _ h => by cases h) u
   have hbel := Bel.st (Bel.to hbel3 hb5) (p := ⟨w.heap.size + 1 + 1,0,none⟩) (by simp only [];omega) u
   obtain ⟨ao,n0,cp,rfl⟩ := Rd.shape hu
   go_wp2
   refine bodyPost_ret (v := .tuple #[.agg #[.slice ao n0 cp],.int .i64 0]) (by simp [results,Tryz.results100,go_sem,c52]) rfl ⟨_,rfl,hu',hbel⟩
theorem sub_ok (va vb : Value) (m n : Nat) (w : World) (ha : NV w va m) (hb : NV w vb n) (hm : (limbs m).length ≤ 64) (hnm : n ≤ m) :
  Calls Tryz.prog 100 #[.agg #[va],.agg #[vb]] w (NatC (m - n) 0 w) := by
 have hle : (limbs n).length ≤ (limbs m).length := by
  rw [← length_limbs_lt]
  exact Nat.lt_of_le_of_lt hnm (length_limbs_lt.2 (Nat.le_refl _))
 exact sub_core va vb _ _ m n w rfl rfl ha hb hm (by omega) hnm hle
theorem tiersGo_zero (g : GameD) (l : List TierD) : ∀ seen,tiersGo g seen l = 0 → ∀ t ∈ l,tierE g t = 0 := by
 induction l with
 | nil => intro _ _ t h;cases h
 | cons a l ih =>
  intro seen h t ht
  unfold tiersGo at h
  by_cases h1 : tierE g a = 0
  ·rw [if_neg (by simpa using h1)] at h
   split at h
   ·exact absurd h (by decide)
   ·rcases List.mem_cons.1 ht with rfl | ht
    ·exact h1
    ·exact ih _ h t ht
  ·rw [if_pos h1] at h;exact absurd h h1
theorem game_tiers {g : GameD} (he : gameE g = 0) : g.tiers.length ≤ 12 ∧ ∀ t ∈ g.tiers,tierE g t = 0 := by
 have h : tiersE g = 0 := by
  unfold gameE at he
  split at he
  ·cases he
  split at he
  ·cases he
  split at he
  ·cases he
  split at he
  ·cases he
  split at he
  ·next h => exact absurd he h
  ·exact he
 unfold tiersE at h
 split at h
 ·cases h
 ·next h1 =>
  refine ⟨?_,tiersGo_zero g _ [] h⟩
  have h2 : inB g.tiers.length 1 12 = true := by simpa using h1
  have := inB_iff.1 h2
  omega
theorem dig_tier {g : GameD} {t : TierD} (he : gameE g = 0) (hk : g.kind = 2) (ht : t ∈ g.tiers) : (t.mode = 1 ∧ t.main = 0) ∨ (t.mode = 2 ∧ t.main = 0) ∨ (t.mode = 3 ∧ 1 ≤ t.main ∧ t.main ≤ g.main) ∨ (t.mode = 4 ∧ 1 ≤ t.main ∧ t.main ≤ g.main) := by
 have h := (game_tiers he).2 t ht
 unfold tierE at h
 rw [if_pos hk] at h
 have h0 : digitsTE g t = 0 := by
  apply Classical.byContradiction
  intro hne
  simp only [] at h
  rw [if_pos hne] at h
  exact hne h
 unfold digitsTE at h0
 by_cases h1 : inB t.mode 1 4 = false
 ·rw [if_pos h1] at h0;exact absurd h0 (by decide)
 ·rw [if_neg h1] at h0
  have h2 := inB_iff.1 (show inB t.mode 1 4 = true by simpa using h1)
  by_cases h3 : t.bonus ≠ 0 ∨ t.extra ≠ 0 ∨ (if t.mode ≤ 2 then inB t.main 0 0 else inB t.main 1 g.main) = false
  ·rw [if_pos h3] at h0;exact absurd h0 (by decide)
  ·by_cases h5 : t.mode ≤ 2
   ·rw [if_pos h5] at h3
    have h4 : inB t.main 0 0 = true := by
     apply Classical.byContradiction
     intro hne
     exact h3 (Or.inr (Or.inr (by simpa using hne)))
    have := inB_iff.1 h4
    omega
   ·rw [if_neg h5] at h3
    have h4 : inB t.main 1 g.main = true := by
     apply Classical.byContradiction
     intro hne
     exact h3 (Or.inr (Or.inr (by simpa using hne)))
    have := inB_iff.1 h4
    omega
theorem dig_cond {g : GameD} {m : Nat} {t : TierD} (hm : g.main = (m : Int)) (h1 : 1 ≤ m) (h : (t.mode = 1 ∧ t.main = 0) ∨ (t.mode = 2 ∧ t.main = 0) ∨ (t.mode = 3 ∧ 1 ≤ t.main ∧ t.main ≤ g.main) ∨ (t.mode = 4 ∧ 1 ≤ t.main ∧ t.main ≤ g.main)) : singleC (condOf m t) ∧ (condOf m t).front ≤ m ∧ (condOf m t).back ≤ m := by
 unfold condOf singleC
 rcases h with ⟨h,h2⟩ | ⟨h,h2⟩ | ⟨h,h2⟩ | ⟨h,h2⟩
 ·rw [if_pos h];exact ⟨.inl ⟨h1,rfl,rfl⟩,Nat.le_refl _,Nat.zero_le _⟩
 ·rw [if_neg (by omega),if_pos h];exact ⟨.inr (.inr ⟨rfl,rfl,rfl⟩),Nat.zero_le _,Nat.zero_le _⟩
 ·rw [if_neg (by omega),if_neg (by omega),if_pos h];exact ⟨.inl ⟨by simp only [];omega,rfl,rfl⟩,by simp only [];omega,Nat.zero_le _⟩
 ·rw [if_neg (by omega),if_neg (by omega),if_neg (by omega)];exact ⟨.inr (.inl ⟨rfl,by simp only [];omega,rfl⟩),Nat.zero_le _,by simp only [];omega⟩
theorem earlyS_le {m : Nat} (L : List CondD) (hL : ∀ c ∈ L,c.front ≤ m ∧ c.back ≤ m) : (earlyS L).1 ≤ m ∧ (earlyS L).2.1 ≤ m := by
 have key : ∀ (L : List CondD) s,(∀ c ∈ L,c.front ≤ m ∧ c.back ≤ m) → s.1 ≤ m → s.2.1 ≤ m → (L.foldl earlyF s).1 ≤ m ∧ (L.foldl earlyF s).2.1 ≤ m := by
  intro L
  induction L with
  | nil => intro s _ h1 h2;exact ⟨h1,h2⟩
  | cons c L ih =>
   intro s h h1 h2
   rw [List.foldl_cons]
   refine ih _ (fun e he => h e (List.mem_cons_of_mem _ he)) ?_ ?_
   ·unfold earlyF;simp only [];split
    ·exact (h c List.mem_cons_self).1
    ·exact h1
   ·unfold earlyF;simp only [];split
    ·exact (h c List.mem_cons_self).2
    ·exact h2
 exact key L (0,0,false) hL (Nat.zero_le _) (Nat.zero_le _)
theorem earlyL_le {m : Nat} {s : Nat × Nat × Bool} (h1 : s.1 ≤ m) (h2 : s.2.1 ≤ m) : ∀ e ∈ earlyL s,e.front ≤ m ∧ e.back ≤ m := by
 intro e he
 unfold earlyL at he
 rcases List.mem_append.1 he with he | he
 ·rcases List.mem_append.1 he with he | he
  ·split at he
   ·obtain rfl := List.mem_singleton.1 he;exact ⟨h1,Nat.zero_le _⟩
   ·cases he
  ·split at he
   ·obtain rfl := List.mem_singleton.1 he;exact ⟨Nat.zero_le _,h2⟩
   ·cases he
 ·split at he
  ·obtain rfl := List.mem_singleton.1 he;exact ⟨Nat.zero_le _,Nat.zero_le _⟩
  ·cases he
theorem range_keep {w w' : World} {b o : Nat} {cs : List Value} (hb : Below w.heap.size w w') (h : w.rangeAt b o cs) : w'.rangeAt b o cs := fun j u hu => Bel.cellOf hb (h j u hu)
theorem and_one_dg (E : Int) (h0 : 0 ≤ E) (h1 : E ≤ 9223372036854775807) : bits BinOp.and IntKind.i64 E 1 = E % 2 := by
 obtain ⟨a,rfl⟩ := Int.eq_ofNat_of_zero_le h0
 have hx : a &&& 1 < 2 ^ 63 := Nat.lt_of_le_of_lt Nat.and_le_right (by omega)
 have h1 : (BitVec.ofInt 64 (a : Int)).toNat = a := by
  rw [BitVec.ofInt_natCast,BitVec.toNat_ofNat];exact Nat.mod_eq_of_lt (by omega)
 have h2 : (BitVec.ofInt 64 ((1 : Nat) : Int)).toNat = 1 := by
  rw [BitVec.ofInt_natCast,BitVec.toNat_ofNat]
 show IntKind.i64.wrap ((BitVec.ofInt 64 (a : Int) &&& BitVec.ofInt 64 ((1 : Nat) : Int)).toNat : Int) = _
 rw [BitVec.toNat_and,h1,h2,IntWalk.i64_in _ (by omega),Nat.and_one_is_mod]
 omega
theorem bit_dg (s i : Nat) (h : s < 8) : bits BinOp.and IntKind.i64 ((s : Int) / 2 ^ i) 1 = ((s / 2 ^ i % 2 : Nat) : Int) := by
 have e : ((s : Int) / 2 ^ i) = ((s / 2 ^ i : Nat) : Int) := by push_cast;rfl
 have h1 : s / 2 ^ i ≤ s := Nat.div_le_self _ _
 rw [e]
 generalize s / 2 ^ i = q at h1 ⊢
 rw [and_one_dg _ (by omega) (by omega)]
 omega
theorem sel_limbs {d m : Nat} (hd : d ≤ 10) (hm : m ≤ 10) (L : List CondD) (c : CondD) (o : Nat) {s : Nat} (hs : s ≤ 8) : (limbs (sumTo (selT d m L c o) s)).length ≤ 3 := by
 have h1 := sumTo_bound (n := s) (K := d ^ (2 * m)) (fun j _ => selT_le d m L c o j)
 have h2 : d ^ (2 * m) ≤ 10 ^ (2 * m) := Nat.pow_le_pow_left hd _
 have h3 : 10 ^ (2 * m) ≤ 10 ^ 20 := Nat.pow_le_pow_right (by omega) (by omega)
 have e1 : (10 : Nat) ^ 20 = 100000000000000000000 := by decide
 have e2 : (4294967296 : Nat) ^ 3 = 79228162514264337593543950336 := by decide
 have h4 : s * d ^ (2 * m) ≤ 8 * 100000000000000000000 := Nat.mul_le_mul hs (by omega)
 exact length_limbs_lt.1 (by omega)
structure DigS (w1 wr : World) (b7 : Nat) (e o : Value) (x0 x1 : Nat) : Prop where
 rS : Row wr b7 120 [e,o]
 x0 : NV wr e x0
 x1 : NV wr o x1
 bel : Below w1.heap.size w1 wr
 h7 : w1.heap.size ≤ b7
section
variable {w1 wr wr' : World} {b7 : Nat} {e o : Value} {x0 x1 : Nat}
theorem DigS.keep (h : DigS w1 wr b7 e o x0 x1) (hb : Below wr.heap.size wr wr') : DigS w1 wr' b7 e o x0 x1 := ⟨Row.keep h.rS hb,Rd.below h.x0 hb,Rd.below h.x1 hb,Bel.to h.bel hb,h.h7⟩
theorem DigS.put (h : DigS w1 wr b7 e o x0 x1) {b9 i : Nat} {old : Value} (hb : b7 < b9) (hc : wr.cell? ⟨b9,i,none⟩ = some old) (hne : ∀ y,U32 y ≠ old) (u : Value) : DigS w1 (wr.setCell ⟨b9,i,none⟩ u) b7 e o x0 x1 := by
 have a1 := h.h7
 exact ⟨Row.far h.rS (p := ⟨b9,i,none⟩) (by simp only [];omega) u,Rd.setNe h.x0 hc hne u,Rd.setNe h.x1 hc hne u,Bel.st h.bel (p := ⟨b9,i,none⟩) (by simp only [];omega) u,a1⟩
theorem DigS.box (h : DigS w1 wr b7 e o x0 x1) {b9 : Nat} {p q p' q' : Int} {r r' : Bool} (hb : b7 < b9) (hr : Row wr b9 122 [.int .i64 p,.int .i64 q,.bool r]) :
  DigS w1 (((wr.setCell ⟨b9,0,none⟩ (.int .i64 p')).setCell ⟨b9,1,none⟩ (.int .i64 q')).setCell ⟨b9,2,none⟩ (.bool r')) b7 e o x0 x1 ∧ Row (((wr.setCell ⟨b9,0,none⟩ (.int .i64 p')).setCell ⟨b9,1,none⟩ (.int .i64 q')).setCell ⟨b9,2,none⟩ (.bool r')) b9 122 [.int .i64 p',.int .i64 q',.bool r'] := by
 have h1 := hr.set 0 (.int .i64 p')
 have h2 := h1.set 1 (.int .i64 q')
 have h3 := h2.set 2 (.bool r')
 refine ⟨((h.put hb ((hr.cell? 0).trans rfl) (fun _ h => by cases h) _).put hb ((h1.cell? 1).trans rfl) (fun _ h => by cases h) _).put hb ((h2.cell? 2).trans rfl) (fun _ h => by cases h) _,h3⟩
end
set_option maxHeartbeats 16000000 in
set_option maxRecDepth 100000 in
theorem odig_any (g : GameD) (av tv : Value) (ms : List AddonM) (d m t : Nat) (w : World) (hr : GameR w av tv ms g) (he : gameE g = 0) (hk : g.kind = 2) (hm : g.main = (m : Int)) (hd : g.of = (d : Int)) (ht : t < g.tiers.length) :
  Calls Tryz.prog 65 #[gameVal g av tv,.int .i64 (t : Int)] w (NatC (win2 d m (g.tiers.map (condOf m)) t) 0 w) := by
 have hmf := mat_facts (game_mat he)
 have hm10 : m ≤ 10 := by omega
 have hm1 : 1 ≤ m := by omega
 have hd10 : d ≤ 10 := by have := hmf.2.2.2.2.2.2.1 hk;omega
 have hC : ∀ c ∈ g.tiers.map (condOf m),singleC c ∧ c.front ≤ m ∧ c.back ≤ m := by
  intro c hc
  obtain ⟨x,hx,rfl⟩ := List.mem_map.1 hc
  exact dig_cond hm hm1 (dig_tier he hk hx)
 have hpos : ∀ x ∈ g.tiers,0 ≤ x.main := by
  intro x hx
  have := dig_tier he hk hx
  omega
 have hev := evO_win (d := d) (m := m) (t := t) (fun c hc => (hC c hc).1) (show t < (g.tiers.map (condOf m)).length by rw [List.length_map];exact ht)
 rw [List.getElem_map,← List.map_take] at hev
 obtain ⟨x,hx⟩ : ∃ x,x = g.tiers[t] := ⟨_,rfl⟩
 obtain ⟨c0,hc0⟩ : ∃ c,c = condOf m x := ⟨_,rfl⟩
 obtain ⟨E,hEd⟩ : ∃ E,E = earlyL (earlyS ((g.tiers.take t).map (condOf m))) := ⟨_,rfl⟩
 have hcb := hC c0 (by rw [hc0,hx];exact List.mem_map_of_mem (List.getElem_mem ht))
 have hEb : ∀ e ∈ E,e.front ≤ m ∧ e.back ≤ m := by
  have h1 := earlyS_le (m := m) ((g.tiers.take t).map (condOf m)) (fun c hc => (hC c (List.map_subset _ (List.take_subset t g.tiers) hc)).2)
  rw [hEd]
  exact earlyL_le h1.1 h1.2
 have hEl : E.length ≤ 3 := by rw [hEd];exact earlyL_len _
 have hs0 := (selT_sum d m E c0).1
 have hs1 := (selT_sum d m E c0).2
 rw [← hx,← hc0,← hEd] at hev
 rw [← hs0,← hs1] at hev
 obtain ⟨P,hP⟩ : ∃ P,P = win2 d m (g.tiers.map (condOf m)) t := ⟨_,rfl⟩
 rw [← hP] at hev ⊢
 replace hev := hide hev
 have cE := hide (fun X (hX : Below w.heap.size w X) => oearlier_any g av tv ms m t X (hr.below hX) hm (Nat.le_of_lt ht) hpos)
 rw [← hEd] at cE
 have cP := hide (fun (c : CondD) X (hX : Below w.heap.size w X) (h1 : c.front ≤ 10) (h2 : c.back ≤ 10) => opairs_any c g av tv ms d m X (hr.below hX) hm hd hm10 hd10 h1 h2)
 have hT := hr.2.2
 obtain ⟨aa,ac,rfl,hal,ham⟩ := hr.1.1.shape
 obtain ⟨ta,tc,rfl,htl,htm⟩ := hr.2.2.shape
 obtain ⟨an,han⟩ : ∃ an,an = ms.length := ⟨_,rfl⟩
 obtain ⟨tn,htn⟩ : ∃ tn,tn = g.tiers.length := ⟨_,rfl⟩
 have htn2 : (t : Int) < (tn : Int) := by omega
 have htb : (t : Int) ≤ 9223372036854775807 := by unfold maxLen at htm;omega
 have htx : Hid (g.tiers[t]? = some x) := by show _ = _;rw [hx];exact List.getElem?_eq_getElem ht
 have hil := hide ht
 obtain ⟨n,hn⟩ : ∃ n : Nat,x.main = (n : Int) := ⟨x.main.toNat,by have := hpos x (by rw [hx];exact List.getElem_mem ht);omega⟩
 obtain ⟨tm,tb,tx,tmode,tkind,tvalue⟩ := x
 have cC := hide (fun X => ocond_any g aa an ac ta tn tc m n ⟨tm,tb,tx,tmode,tkind,tvalue⟩ X hm hn)
 unfold tierCells at cC
 rw [← hc0] at cC
 rw [← htn] at hT
 rw [← han,← htn] at cE cP ⊢
 obtain ⟨b,off,rfl,hbb,hcell⟩ := RdS.at_ hT hil.out
 have hrange : w.rangeAt b (off + t * 6) (tierCells ⟨tm,tb,tx,tmode,tkind,tvalue⟩) := fun j u hu => hcell t _ htx.out j u hu
 unfold tierCells at hrange
 simp only [] at hrange
 obtain ⟨S0,hS0⟩ : ∃ f,f = selT d m E c0 0 := ⟨_,rfl⟩
 obtain ⟨S1,hS1⟩ : ∃ f,f = selT d m E c0 1 := ⟨_,rfl⟩
 rw [← hS0,← hS1] at hev
 replace hS0 := hide hS0
 replace hS1 := hide hS1
 clear hr hT hcell htx hbb hal ham htl htm han htn hmf hC hpos he hk hm hd ht hx hn hEd hc0 hs0 hs1
 replace hEb := hide hEb
 replace hm10 := hide hm10
 replace hm1 := hide hm1
 replace hd10 := hide hd10
 replace hEl := hide hEl
 replace hcb := hide hcb.2
 obtain ⟨cf,cb,cx⟩ := c0
 obtain ⟨k,hkk⟩ : ∃ k,k = E.length := ⟨_,rfl⟩
 rw [← hkk] at hev hEl
 have k3 : (k : Int) ≤ 3 := by have := hEl.out;omega
 replace hkk := hide hkk
 unfold gameVal at cC cE cP ⊢
 go_enter Tryz.func65,Tryz.ntmps65
 go_upto_region 1 with (fail)
 obtain ⟨W,hW⟩ : ∃ W,W = (w.alloc (Obj.cells #[.string g.name,.int .i64 g.kind,.int .i64 g.price,.int .i64 g.main,.int .i64 g.of,.int .i64 g.bonus,.int .i64 g.bonusOf,.int .i64 g.extra,.int .i64 g.draws,.int .i64 g.system,.int .i64 g.days,.int .i64 g.at_,.int .i64 g.close,.int .i64 g.cancel,.int .i64 g.expiry,.int .i64 g.pool,.int .i64 g.reserve,.int .i64 g.round,.int .i64 g.cap,.int .i64 g.rolls,(.slice aa an ac),(.slice (some ⟨b,off,none⟩) tn tc)] 25)).alloc (Obj.cells #[.slice none 0 0] 30) := ⟨_,rfl⟩
 have bel : Below w.heap.size w W := by rw [hW];exact Bel.al (Bel.al (Below.refl _ _) _) _
 have rg : GameAt W w.heap.size g (.slice aa an ac) (.slice (some ⟨b,off,none⟩) tn tc) := by rw [hW];exact Row.alloc (Row.new _ _ _) _
 have rR : Row W (w.heap.size + 1) 30 [.slice none 0 0] := by rw [hW];exact Row.at2 _ _ _ _
 rw [← hW]
 clear hW
 have cE2 := hide (cE.out W bel)
 clear cE
 go_wp2_with (first | (refine wpList_load_row rfl 25 _ rfl _ rfl _ _ _ _ rg Tryz.underlying25 rfl (by kernel_rfl) ?_) | fail)
 refine cE2.out.mono ?_
 rintro e w1 ⟨v,rfl,hE,hb1⟩
 obtain ⟨ea,ec,rfl,hec,hem⟩ := RdS.shape hE
 rw [← hkk.out] at hE hec ⊢
 replace rg := rg.keep hb1
 replace rR := Row.keep rR hb1
 replace bel := Bel.to bel hb1
 have hrg1 := hide (range_keep bel hrange)
 clear hb1 cE2 hrange
 go_upto_region 3 with (fail)
 obtain ⟨b7,hb7⟩ : ∃ b,b = w1.heap.size := ⟨_,rfl⟩
 obtain ⟨w2,hw2⟩ : ∃ X,X = w1.alloc (.cells #[.slice none 0 0,.slice none 0 0] 120) := ⟨_,rfl⟩
 have hS : DigS w1 w2 b7 (.slice none 0 0) (.slice none 0 0) 0 0 := ⟨by rw [hw2,hb7];exact Row.newOf _ rfl,NV.zero _,NV.zero _,by rw [hw2];exact Bel.al (Below.refl _ _) _,by omega⟩
 rw [← hw2,← hb7]
 clear hw2
 have h7 : w.heap.size + 1 < b7 := by have := rR.lt;omega
 replace hb7 := hide hb7
 obtain ⟨Kn,hKn⟩ : ∃ n,n = 2 ^ k := ⟨_,rfl⟩
 have wK : wrap64 (2 ^ k) = (Kn : Int) := by
  have h3 : k = 0 ∨ k = 1 ∨ k = 2 ∨ k = 3 := by have := hEl.out;omega
  rw [hKn]
  rcases h3 with h | h | h | h <;> (rw [h];decide +kernel)
 replace wK := hide wK
 have hK8 : Kn ≤ 8 := by
  have h3 : k = 0 ∨ k = 1 ∨ k = 2 ∨ k = 3 := by have := hEl.out;omega
  rw [hKn]
  rcases h3 with h | h | h | h <;> (rw [h];decide)
 have hK8i : (Kn : Int) ≤ 8 := Int.ofNat_le.2 hK8
 replace hev : Hid (sumTo S0 Kn = sumTo S1 Kn + P) := by show _ = _;rw [hKn];exact hev.out
 replace hKn := hide hKn
 replace hK8 := hide hK8
 go_wp2
 (try simp only [wK.out])
 clear wK
 go_loopg [21] Kn (fun gh ti wr => ∃ (s x0 x1 : Nat) (a1 : Option Addr) (l1 c1 : Nat) (a2 : Option Addr) (l2 c2 : Nat),gh = Kn - s ∧ s ≤ Kn ∧ ti = .int .i64 (s : Int) ∧ Hid (x0 = sumTo S0 s) ∧ Hid (x1 = sumTo S1 s) ∧ DigS w1 wr b7 (.slice a1 l1 c1) (.slice a2 l2 c2) x0 x1)
 case atStart => exact ⟨0,0,0,none,0,0,none,0,0,rfl,Nat.zero_le _,rfl,rfl,rfl,hS⟩
 case round =>
  clear hS
  obtain ⟨s,x0,x1,a1,l1,c1,a2,l2,c2,hgs,hs,rfl,hx0,hx1,hS⟩ := hrel
  replace hgs := hide hgs
  by_cases hlt : s < Kn
  ·have hlt2 := hide hlt
   have si : (s : Int) < (Kn : Int) := by omega
   have s0 : (0 : Int) ≤ (s : Int) := by omega
   have s8 : (s : Int) ≤ 8 := by omega
   have s8n := hide (show s < 8 by have := hK8.out;omega)
   obtain ⟨⟨⟨rf,rb,rx⟩,ro⟩,hR⟩ : ∃ R,R = goS E s (⟨cf,cb,cx⟩,0) := ⟨_,rfl⟩
   have e0 : Hid (S0 s = if ro = 0 then pairsN d m ⟨rf,rb,rx⟩ else 0) := by show _ = _;rw [hS0.out];unfold selT;rw [← hR]
   have e1 : Hid (S1 s = if ro = 1 then pairsN d m ⟨rf,rb,rx⟩ else 0) := by show _ = _;rw [hS1.out];unfold selT;rw [← hR]
   replace hR := hide hR
   clear hlt
   have hr0 : wr.rangeAt w.heap.size 0 [.string g.name,.int .i64 g.kind,.int .i64 g.price,.int .i64 g.main,.int .i64 g.of,.int .i64 g.bonus,.int .i64 g.bonusOf,.int .i64 g.extra,.int .i64 g.draws,.int .i64 g.system,.int .i64 g.days,.int .i64 g.at_,.int .i64 g.close,.int .i64 g.cancel,.int .i64 g.expiry,.int .i64 g.pool,.int .i64 g.reserve,.int .i64 g.round,.int .i64 g.cap,.int .i64 g.rolls,(.slice aa an ac),(.slice (some ⟨b,off,none⟩) tn tc)] := fun j u hu => by rw [Nat.zero_add];exact ((rg.keep hS.bel).cell? j).trans hu
   have c21 : wr.cell? ⟨w.heap.size,21,none⟩ = some (.slice (some ⟨b,off,none⟩) tn tc) := (rg.keep hS.bel).tiers
   have hr1 := range_keep hS.bel hrg1.out
   go_upto_region 6 with (fail)
   go_cut [9,10] (fun p od X => ∃ (b9 : Nat),p = .pointer (some ⟨b9,0,none⟩) ∧ od = .int .i64 0 ∧ b7 < b9 ∧ DigS w1 X b7 (.slice a1 l1 c1) (.slice a2 l2 c2) x0 x1 ∧ Row X b9 122 [.int .i64 (cf : Int),.int .i64 (cb : Int),.bool cx])
   case first =>
    refine till_begin 8 (fun X => X.rangeAt w.heap.size 0 [.string g.name,.int .i64 g.kind,.int .i64 g.price,.int .i64 g.main,.int .i64 g.of,.int .i64 g.bonus,.int .i64 g.bonusOf,.int .i64 g.extra,.int .i64 g.draws,.int .i64 g.system,.int .i64 g.days,.int .i64 g.at_,.int .i64 g.close,.int .i64 g.cancel,.int .i64 g.expiry,.int .i64 g.pool,.int .i64 g.reserve,.int .i64 g.round,.int .i64 g.cap,.int .i64 g.rolls,(.slice aa an ac),(.slice (some ⟨b,off,none⟩) tn tc)] ∧ X.cell? ⟨w.heap.size,21,none⟩ = some (.slice (some ⟨b,off,none⟩) tn tc) ∧ X.rangeAt b (off + t * 6) [.int .i64 tm,.int .i64 tb,.int .i64 tx,.int .i64 tmode,.int .i64 tkind,.int .i64 tvalue]) (by kernel_rfl) (⟨hr0,c21,hr1⟩) (fun hHeld => ?_)
    refine' till_take (i := 0) (oi := _) (v := .agg #[.string g.name,.int .i64 g.kind,.int .i64 g.price,.int .i64 g.main,.int .i64 g.of,.int .i64 g.bonus,.int .i64 g.bonusOf,.int .i64 g.extra,.int .i64 g.draws,.int .i64 g.system,.int .i64 g.days,.int .i64 g.at_,.int .i64 g.close,.int .i64 g.cancel,.int .i64 g.expiry,.int .i64 g.pool,.int .i64 g.reserve,.int .i64 g.round,.int .i64 g.cap,.int .i64 g.rolls,(.slice aa an ac),(.slice (some ⟨b,off,none⟩) tn tc)]) rfl (by kernel_rfl) (by kernel_rfl) (by kernel_rfl) (by kernel_rfl) (fun _ _ _ h => h) (by refine (yieldsIf_load_mid ?_ 25 (.tmp 2) rfl w.heap.size 0 ?_ [.string g.name,.int .i64 g.kind,.int .i64 g.price,.int .i64 g.main,.int .i64 g.of,.int .i64 g.bonus,.int .i64 g.bonusOf,.int .i64 g.extra,.int .i64 g.draws,.int .i64 g.system,.int .i64 g.days,.int .i64 g.at_,.int .i64 g.close,.int .i64 g.cancel,.int .i64 g.expiry,.int .i64 g.pool,.int .i64 g.reserve,.int .i64 g.round,.int .i64 g.cap,.int .i64 g.rolls,(.slice aa an ac),(.slice (some ⟨b,off,none⟩) tn tc)] _ (fun X h => h.1) Tryz.underlying25 rfl (by kernel_rfl)) <;> go_simp) hHeld ?_
    try simp only [Act.put,zsA,zsB,zsC]
    refine' till_pure (i := 1) (oi := _) (v := .pointer (some ⟨w.heap.size,21,none⟩)) rfl (by kernel_rfl) (by kernel_rfl) (by kernel_rfl) (by kernel_rfl) (fun _ _ _ h => h) (Or.inl ⟨by first | (go_simp;done) | rfl,fun X _ => by go_simp⟩) hHeld ?_
    try simp only [Act.put,zsA,zsB,zsC]
    refine' till_take (i := 2) (oi := _) (v := .slice (some ⟨b,off,none⟩) tn tc) rfl (by kernel_rfl) (by kernel_rfl) (by kernel_rfl) (by kernel_rfl) (fun _ _ _ h => h) (Or.inl ⟨by first | (go_simp;done) | rfl,fun X hX => by have h0 := hX.2.1;go_simp⟩) hHeld ?_
    try simp only [Act.put,zsA,zsB,zsC]
    refine' till_pure (i := 3) (oi := _) (v := .int .i64 (t : Int)) rfl (by kernel_rfl) (by kernel_rfl) (by kernel_rfl) (by kernel_rfl) (fun _ _ _ h => h) (Or.inl ⟨by first | (go_simp;done) | rfl,fun X _ => by go_simp⟩) hHeld ?_
    try simp only [Act.put,zsA,zsB,zsC]
    refine' till_pure (i := 4) (oi := _) (v := .pointer (some ⟨b,off + t * 6,none⟩)) rfl (by kernel_rfl) (by kernel_rfl) (by kernel_rfl) (by kernel_rfl) (fun _ _ _ h => h) (Or.inl ⟨by first | (go_simp;done) | rfl,fun X _ => by go_simp⟩) hHeld ?_
    try simp only [Act.put,zsA,zsB,zsC]
    refine' till_take (i := 5) (oi := _) (v := .agg #[.int .i64 tm,.int .i64 tb,.int .i64 tx,.int .i64 tmode,.int .i64 tkind,.int .i64 tvalue]) rfl (by kernel_rfl) (by kernel_rfl) (by kernel_rfl) (by kernel_rfl) (fun _ _ _ h => h) (by refine (yieldsIf_load_mid ?_ 73 (.tmp 28) rfl b (off + t * 6) ?_ [.int .i64 tm,.int .i64 tb,.int .i64 tx,.int .i64 tmode,.int .i64 tkind,.int .i64 tvalue] _ (fun X h => h.2.2) Tryz.underlying73 rfl (by kernel_rfl)) <;> go_simp) hHeld ?_
    try simp only [Act.put,zsA,zsB,zsC]
    obtain ⟨Y0,hY0⟩ : ∃ Y,Y = wr.drew := ⟨_,rfl⟩
    have hY1 : Below wr.heap.size wr Y0 := by rw [hY0];exact Below.drew (Below.refl _ _)
    replace hS := hS.keep hY1
    rw [← hY0] at hHeld ⊢
    clear hY0 hY1 hr0 hr1 c21
    refine till_ready (rs := [6,7]) (by kernel_rfl) (by simp) ?_
    refine TillReady.cons (o := _) rfl (fun K hK => ?_) (TillReady.cons (o := _) rfl (fun K hK => ?_) TillReady.nil)
    ·skip
     go_simp
     refine (cC.out Y0).mono ?_
     rintro e x1 ⟨rfl,bx1⟩
     unfold condVal
     simp only []
     replace hS := hS.keep bx1
     go_wp2_with fail
     refine hK.out _ _ ⟨range_keep bx1 hHeld.1,Bel.cellOf bx1 hHeld.2.1,range_keep bx1 hHeld.2.2⟩ (fun hHeld => ?_)
     clear hK K
     try simp only [Act.put,zsA,zsB,zsC]
     clear bx1
     refine till_ready (rs := [7]) (by kernel_rfl) (by simp) ?_
     refine TillReady.cons (o := _) rfl (fun K hK => ?_) TillReady.nil
     go_simp
     obtain ⟨x2,hx2⟩ : ∃ X,X = x1.alloc (.cells #[.int .i64 0,.int .i64 0,.bool false] 122) := ⟨_,rfl⟩
     have bx2 : Below x1.heap.size x1 x2 := by rw [hx2];exact Bel.al (Below.refl _ _) _
     have r9 : Row x2 x1.heap.size 122 [.int .i64 0,.int .i64 0,.bool false] := by rw [hx2];exact Row.newOf _ rfl
     have h79 : b7 < x1.heap.size := hS.rS.lt
     rw [← hx2]
     clear hx2
     replace hS := hS.keep bx2
     refine hK.out _ _ ⟨range_keep bx2 hHeld.1,Bel.cellOf bx2 hHeld.2.1,range_keep bx2 hHeld.2.2⟩ (fun hHeld => ?_)
     clear hK K
     try simp only [Act.put,zsA,zsB,zsC]
     clear bx2
     have y0 := r9.cell? 0
     have y1 := r9.cell? 1
     have y2 := r9.cell? 2
     simp only [List.getElem?_cons_zero,List.getElem?_cons_succ] at y0 y1 y2
     have f0 := r9.frozen 0
     have f1 := r9.frozen 1
     have f2 := r9.frozen 2
     refine till_ready (rs := [8]) (by kernel_rfl) (by simp) ?_
     refine TillReady.last (o := _) rfl (by kernel_rfl) (fun K hK => ?_) TillReady.nil
     go_simp
     refine hK.out _ _ ?_
     clear hK K
     try simp only [Act.put,zsA,zsB,zsC]
     refine' till_late (i := 9) (oi := _) (v := .int .i64 0) rfl (by kernel_rfl) (by kernel_rfl) (Or.inl ⟨by first | (go_simp;done) | rfl,fun X _ => by go_simp⟩) ?_
     try simp only [Act.put,zsA,zsB,zsC]
     refine till_done (by kernel_rfl) ?_ _
     go_simp
     go_wp2_with fail
     go_meet
     exact ⟨_,rfl,rfl,h79,hS.box h79 r9⟩
    ·skip
     go_simp
     obtain ⟨x1,hx1⟩ : ∃ X,X = Y0.alloc (.cells #[.int .i64 0,.int .i64 0,.bool false] 122) := ⟨_,rfl⟩
     have bx1 : Below Y0.heap.size Y0 x1 := by rw [hx1];exact Bel.al (Below.refl _ _) _
     have r9 : Row x1 Y0.heap.size 122 [.int .i64 0,.int .i64 0,.bool false] := by rw [hx1];exact Row.newOf _ rfl
     have h79 : b7 < Y0.heap.size := hS.rS.lt
     rw [← hx1]
     clear hx1
     replace hS := hS.keep bx1
     refine hK.out _ _ ⟨range_keep bx1 hHeld.1,Bel.cellOf bx1 hHeld.2.1,range_keep bx1 hHeld.2.2⟩ (fun hHeld => ?_)
     clear hK K
     try simp only [Act.put,zsA,zsB,zsC]
     clear bx1
     refine till_ready (rs := [6]) (by kernel_rfl) (by simp) ?_
     refine TillReady.cons (o := _) rfl (fun K hK => ?_) TillReady.nil
     go_simp
     refine (cC.out x1).mono ?_
     rintro e x2 ⟨rfl,bx2⟩
     unfold condVal
     simp only []
     replace hS := hS.keep bx2
     replace r9 := Row.keep r9 bx2
     go_wp2_with fail
     refine hK.out _ _ ⟨range_keep bx2 hHeld.1,Bel.cellOf bx2 hHeld.2.1,range_keep bx2 hHeld.2.2⟩ (fun hHeld => ?_)
     clear hK K
     try simp only [Act.put,zsA,zsB,zsC]
     clear bx2
     have y0 := r9.cell? 0
     have y1 := r9.cell? 1
     have y2 := r9.cell? 2
     simp only [List.getElem?_cons_zero,List.getElem?_cons_succ] at y0 y1 y2
     have f0 := r9.frozen 0
     have f1 := r9.frozen 1
     have f2 := r9.frozen 2
     refine till_ready (rs := [8]) (by kernel_rfl) (by simp) ?_
     refine TillReady.last (o := _) rfl (by kernel_rfl) (fun K hK => ?_) TillReady.nil
     go_simp
     refine hK.out _ _ ?_
     clear hK K
     try simp only [Act.put,zsA,zsB,zsC]
     refine' till_late (i := 9) (oi := _) (v := .int .i64 0) rfl (by kernel_rfl) (by kernel_rfl) (Or.inl ⟨by first | (go_simp;done) | rfl,fun X _ => by go_simp⟩) ?_
     try simp only [Act.put,zsA,zsB,zsC]
     refine till_done (by kernel_rfl) ?_ _
     go_simp
     go_wp2_with fail
     go_meet
     exact ⟨_,rfl,rfl,h79,hS.box h79 r9⟩
   case rest =>
    clear hS hr0 hr1 c21
    obtain ⟨b9,rfl,rfl,h79,hS,r9⟩ := hcut
    have hgo : Hid (goS (E.drop 0) (s / 2 ^ 0) (⟨cf,cb,cx⟩,0) = (⟨rf,rb,rx⟩,ro)) := by show _ = _;rw [hR.out];simp
    go_wp2
    obtain ⟨wo,hwo⟩ : ∃ wo,wo = wc := ⟨_,rfl⟩
    (try rw [← hwo] at hS r9 ⊢)
    clear hwo
    go_loopg [10,33] k (fun gh od ti wr => ∃ (i f2 b2 o2 : Nat) (q2 : Bool),gh = k - i ∧ i ≤ k ∧ od = .int .i64 (o2 : Int) ∧ ti = .int .i64 (i : Int) ∧ Hid (goS (E.drop i) (s / 2 ^ i) (⟨f2,b2,q2⟩,o2) = (⟨rf,rb,rx⟩,ro)) ∧ Hid (f2 ≤ m ∧ b2 ≤ m) ∧ Hid (o2 ≤ 1) ∧ DigS w1 wr b7 (.slice a1 l1 c1) (.slice a2 l2 c2) x0 x1 ∧ Row wr b9 122 [.int .i64 (f2 : Int),.int .i64 (b2 : Int),.bool q2])
    case atStart => exact ⟨0,cf,cb,0,cx,rfl,Nat.zero_le _,rfl,rfl,hgo,hcb,Nat.zero_le _,hS,r9⟩
    case round =>
     clear hS r9 hgo
     obtain ⟨i,f2,b2,o2,q2,hgi,hi,rfl,rfl,hgo,hfb,ho2,hS,r9⟩ := hrel
     replace hgi := hide hgi
     by_cases hik : i < k
     ·have hik2 := hide hik
      have hiE : i < E.length := by have := hkk.out;omega
      obtain ⟨be,oe,rfl,hbe,hcell⟩ := (hE.below hS.bel).at_ hiE
      obtain ⟨⟨ef,eb,eq⟩,he⟩ : ∃ e,e = E[i] := ⟨_,rfl⟩
      have hei : E[i]? = some ⟨ef,eb,eq⟩ := by rw [he];exact List.getElem?_eq_getElem hiE
      have hrange : wr.rangeAt be (oe + i * 3) [.int .i64 (ef : Int),.int .i64 (eb : Int),.bool eq] := fun j u hu => hcell i _ hei j u hu
      have hefb := hide (hEb.out ⟨ef,eb,eq⟩ (by rw [he];exact List.getElem_mem hiE))
      have hgo2 := hide ((goS_cons (s := s / 2 ^ i) (c := ⟨f2,b2,q2⟩) (o := o2) hei).symm.trans hgo.out)
      have ii : (i : Int) < (k : Int) := by omega
      have i0 : (0 : Int) ≤ (i : Int) := by omega
      clear hcell hiE he hei hik hgo
      have hthere := hide (show (wr.alloc (.cells #[.int .i64 0,.int .i64 0,.bool false] 122)).there wr.heap.size 0 3 from Row.there (Row.newOf (cs := [.int .i64 0,.int .i64 0,.bool false]) _ rfl))
      go_upto_region 10 with (first | (refine wpList_load_mid rfl 122 _ rfl be (oe + i * 3) rfl [.int .i64 (ef : Int),.int .i64 (eb : Int),.bool eq] _ (range_keep (Bel.al (Below.refl _ _) _) hrange) Tryz.underlying122 rfl (by kernel_rfl) ?_) | (refine wpList_load_mid rfl 122 _ rfl be (oe + i * 3) rfl [.int .i64 (ef : Int),.int .i64 (eb : Int),.bool eq] _ hrange Tryz.underlying122 rfl (by kernel_rfl) ?_) | (refine wpList_store_mid rfl 122 _ _ rfl wr.heap.size 0 _ rfl rfl hthere.out (by kernel_rfl) (by rfl) ?_) | fail)
      obtain ⟨W1,hW1⟩ : ∃ X,X = wr.alloc (.cells #[.int .i64 (ef : Int),.int .i64 (eb : Int),.bool eq] 122) := ⟨_,rfl⟩
      have b12 : Below wr.heap.size wr W1 := by rw [hW1];exact Bel.al (Below.refl _ _) _
      have r12 : Row W1 wr.heap.size 122 [.int .i64 (ef : Int),.int .i64 (eb : Int),.bool eq] := by rw [hW1];exact Row.newOf _ rfl
      rw [← hW1]
      clear hW1 hthere hrange
      replace hS := hS.keep b12
      replace r9 := Row.keep r9 b12
      clear b12
      have hbit := bit_dg s i s8n.out
      by_cases hodd : s / 2 ^ i % 2 = 1
      ·rw [hodd] at hbit
       have hgo3 := hgo2.out
       rw [if_pos hodd] at hgo3
       obtain ⟨⟨f3,b3,q3⟩,h3⟩ : ∃ c,c = andC ⟨f2,b2,q2⟩ ⟨ef,eb,eq⟩ := ⟨_,rfl⟩
       obtain ⟨o3,ho3⟩ : ∃ o,o = 1 - o2 := ⟨_,rfl⟩
       rw [← h3,← ho3,Nat.div_div_eq_div_mul,← Nat.pow_succ] at hgo3
       have hfb3 : Hid (f3 ≤ m ∧ b3 ≤ m) := by
        have e1 := congrArg CondD.front h3
        have e2 := congrArg CondD.back h3
        unfold andC at e1 e2
        simp only [] at e1 e2
        have a1 := hfb.out
        have a2 := hefb.out
        simp only [] at a2
        show _ ∧ _
        omega
       have wo3 : IntKind.i64.wrap (1 - (o2 : Int)) = (o3 : Int) := by rw [IntKind.wrap_i64];have := ho2.out;omega
       have ho4 : Hid (o3 ≤ 1) := by show _ ≤ _;omega
       have cA := hide (oand_any ⟨f2,b2,q2⟩ ⟨ef,eb,eq⟩ W1)
       rw [← h3] at cA
       unfold condVal at cA
       simp only [] at cA
       replace hgo3 := hide hgo3
       have y0 := r9.cell? 0
       have y1 := r9.cell? 1
       have y2 := r9.cell? 2
       simp only [List.getElem?_cons_zero,List.getElem?_cons_succ] at y0 y1 y2
       have g0 := r9.frozen 0
       have g1 := r9.frozen 1
       have g2 := r9.frozen 2
       clear h3 ho3 hodd hgo2 hfb hefb ho2
       go_wp2_with (first | (refine wpList_load_row rfl 122 _ rfl _ rfl _ _ _ _ r9 Tryz.underlying122 rfl (by kernel_rfl) ?_) | (refine wpList_load_row rfl 122 _ rfl _ rfl _ _ _ _ r12 Tryz.underlying122 rfl (by kernel_rfl) ?_) | fail)
       refine cA.out.mono ?_
       rintro e W2 ⟨rfl,hbA⟩
       unfold condVal
       simp only []
       replace y0 := Bel.cellOf hbA y0
       replace y1 := Bel.cellOf hbA y1
       replace y2 := Bel.cellOf hbA y2
       replace r9 := Row.keep r9 hbA
       replace hS := hS.keep hbA
       have g0 := r9.frozen 0
       have g1 := r9.frozen 1
       have g2 := r9.frozen 2
       clear hbA cA r12
       have hnew := hS.box h79 r9 (p' := (f3 : Int)) (q' := (b3 : Int)) (r' := q3)
       clear hS r9
       go_wp2
       go_roundg (k - (i + 1))
       case measure => have := hgi.out;have := hik2.out;omega
       case rel => exact ⟨i + 1,f3,b3,o3,q3,rfl,by have := hik2.out;omega,rfl,by go_num,hgo3,hfb3,ho4,hnew.1,hnew.2⟩
      ·have hodd0 : s / 2 ^ i % 2 = 0 := by omega
       rw [hodd0] at hbit
       have hgo3 := hgo2.out
       rw [if_neg hodd,Nat.div_div_eq_div_mul,← Nat.pow_succ] at hgo3
       replace hgo3 := hide hgo3
       clear hodd hodd0 hgo2 r12 hefb
       go_wp2
       go_roundg (k - (i + 1))
       case measure => have := hgi.out;have := hik2.out;omega
       case rel => exact ⟨i + 1,f2,b2,o2,q2,rfl,by have := hik2.out;omega,rfl,by go_num,hgo3,hfb,ho2,hS,r9⟩
     ·obtain rfl : i = k := by omega
      have hgo3 := hgo.out
      rw [List.drop_eq_nil_of_le (by rw [hkk.out];exact Nat.le_refl _)] at hgo3
      have e4 := congrArg Prod.fst hgo3
      have e5 := congrArg Prod.snd hgo3
      simp only [goS] at e4 e5
      rw [← e4,← e5] at e0 e1
      have rgX := rg.keep hS.bel
      have cP2 := hide (cP.out ⟨f2,b2,q2⟩ wr (Bel.to bel hS.bel) (by have := hfb.out;have := hm10.out;simp only [];omega) (by have := hfb.out;have := hm10.out;simp only [];omega))
      obtain ⟨y,hy⟩ : ∃ y,y = pairsN d m ⟨f2,b2,q2⟩ := ⟨_,rfl⟩
      rw [← hy] at cP2 e0 e1
      unfold condVal at cP2
      simp only [] at cP2
      have hs1 := hide (show s + 1 ≤ 8 by have := s8n.out;omega)
      clear hy e4 e5 hgo3 hgo hfb
      go_wp2_with (first | (refine wpList_load_row rfl 122 _ rfl _ rfl _ _ _ _ r9 Tryz.underlying122 rfl (by kernel_rfl) ?_) | (refine wpList_load_row rfl 25 _ rfl _ rfl _ _ _ _ rgX Tryz.underlying25 rfl (by kernel_rfl) ?_) | fail)
      refine cP2.out.mono ?_
      rintro e w8 ⟨u,rfl,hu,hb8⟩
      obtain ⟨ua,ul,uc,rfl⟩ := Rd.shape hu
      replace hS := hS.keep hb8
      clear hb8 cP2 r9 rgX
      go_upto_region 14 with (fail)
      obtain ⟨b13,hb13⟩ : ∃ b,b = w8.heap.size := ⟨_,rfl⟩
      obtain ⟨w9,hw9⟩ : ∃ X,X = w8.alloc (.cells #[.slice ua ul uc] 30) := ⟨_,rfl⟩
      have b9' : Below w8.heap.size w8 w9 := by rw [hw9];exact Bel.al (Below.refl _ _) _
      have r13 : Row w9 b13 30 [.slice ua ul uc] := by rw [hw9,hb13];exact Row.newOf _ rfl
      rw [← hw9,← hb13]
      clear hw9 hb13
      replace hS := hS.keep b9'
      replace hu := Rd.below hu b9'
      clear b9'
      have c13 := r13.cell? 0
      simp only [List.getElem?_cons_zero] at c13
      have ho5 : o2 = 0 ∨ o2 = 1 := by have := ho2.out;omega
      rcases ho5 with rfl | rfl
      ·have e2 : Hid (x0 + y = sumTo S0 (s + 1)) := by show _ = _;rw [sumTo,hx0.out,e0.out,if_pos rfl]
       have e3 : Hid (x1 = sumTo S1 (s + 1)) := by show _ = _;rw [sumTo,e1.out,if_neg (by decide),Nat.add_zero];exact hx1.out
       have hl1 : (limbs (x0 + y)).length ≤ 64 := by rw [e2.out,hS0.out];have := sel_limbs hd10.out hm10.out E ⟨cf,cb,cx⟩ 0 hs1.out;omega
       have hl2 : (limbs x0).length ≤ 64 := by have := limbs_len_le (Nat.le_add_right x0 y);omega
       have hl3 : (limbs y).length ≤ 64 := by have := limbs_len_le (Nat.le_add_left y x0);omega
       have cS := hS.rS.cell? 0
       simp only [List.getElem?_cons_zero,List.getElem?_cons_succ] at cS
       clear e0 e1 hx0 hx1 ho2
       go_upto_region 16 with (fail)
       refine till_begin 10 (fun X => X.cell? ⟨b7,0,none⟩ = some (.slice a1 l1 c1) ∧ X.cell? ⟨b13,0,none⟩ = some (.slice ua ul uc)) (by kernel_rfl) (⟨cS,c13⟩) (fun hHeld => ?_)
       refine' till_pure (i := 0) (oi := _) (v := .int .i64 0) rfl (by kernel_rfl) (by kernel_rfl) (by kernel_rfl) (by kernel_rfl) (fun _ _ _ h => h) (Or.inl ⟨by first | (go_simp;done) | rfl,fun X _ => by go_simp⟩) hHeld ?_
       try simp only [Act.put,zsA,zsB,zsC]
       refine' till_pure (i := 1) (oi := _) (v := .int .i64 0) rfl (by kernel_rfl) (by kernel_rfl) (by kernel_rfl) (by kernel_rfl) (fun _ _ _ h => h) (Or.inl ⟨by first | (go_simp;done) | rfl,fun X _ => by go_simp⟩) hHeld ?_
       try simp only [Act.put,zsA,zsB,zsC]
       refine' till_pure (i := 2) (oi := _) (v := .pointer (some ⟨b7,0,none⟩)) rfl (by kernel_rfl) (by kernel_rfl) (by kernel_rfl) (by kernel_rfl) (fun _ _ _ h => h) (Or.inl ⟨by first | (go_simp;done) | rfl,fun X _ => by go_simp⟩) hHeld ?_
       try simp only [Act.put,zsA,zsB,zsC]
       refine' till_take (i := 3) (oi := _) (v := .agg #[.slice a1 l1 c1]) rfl (by kernel_rfl) (by kernel_rfl) (by kernel_rfl) (by kernel_rfl) (fun _ _ _ h => h) (Or.inl ⟨by first | (go_simp;done) | rfl,fun X hX => by have h0 := hX.1;go_simp⟩) hHeld ?_
       try simp only [Act.put,zsA,zsB,zsC]
       refine' till_take (i := 4) (oi := _) (v := .agg #[.slice ua ul uc]) rfl (by kernel_rfl) (by kernel_rfl) (by kernel_rfl) (by kernel_rfl) (fun _ _ _ h => h) (Or.inl ⟨by first | (go_simp;done) | rfl,fun X hX => by have h0 := hX.2;go_simp⟩) hHeld ?_
       try simp only [Act.put,zsA,zsB,zsC]
       obtain ⟨Y0,hY0⟩ : ∃ Y,Y = w9.drew := ⟨_,rfl⟩
       have hY1 : Below w9.heap.size w9 Y0 := by rw [hY0];exact Below.drew (Below.refl _ _)
       replace hS := hS.keep hY1
       replace hu := Rd.below hu hY1
       rw [← hY0] at hHeld ⊢
       clear hY0 hY1 cS c13
       refine till_ready (rs := [5]) (by kernel_rfl) (by simp) ?_
       refine TillReady.cons (o := _) rfl (fun K hK => ?_) TillReady.nil
       go_simp
       refine (add_any _ _ x0 y Y0 hS.x0 hu hl2 hl3).mono ?_
       rintro e w10 ⟨v,c,rfl,hc,hv,hb10⟩
       have hc0 := hc.out
       rw [if_pos hl1] at hc0 hv
       subst hc0
       obtain ⟨va,vl,vc,rfl⟩ := Rd.shape hv
       replace hS := hS.keep hb10
       go_wp2_with fail
       refine hK.out _ _ ⟨Bel.cellOf hb10 hHeld.1,Bel.cellOf hb10 hHeld.2⟩ (fun hHeld => ?_)
       clear hK K hb10 hc
       try simp only [Act.put,zsA,zsB,zsC]
       refine' till_pure (i := 6) (oi := _) (v := .tuple #[.agg #[.slice va vl vc],.int .i64 0]) rfl (by kernel_rfl) (by kernel_rfl) (by kernel_rfl) (by kernel_rfl) (fun _ _ _ h => h) (Or.inl ⟨by first | (go_simp;done) | rfl,fun X _ => by go_simp⟩) hHeld ?_
       try simp only [Act.put,zsA,zsB,zsC]
       refine' till_pure (i := 7) (oi := _) (v := .agg #[.slice va vl vc]) rfl (by kernel_rfl) (by kernel_rfl) (by kernel_rfl) (by kernel_rfl) (fun _ _ _ h => h) (Or.inl ⟨by first | (go_simp;done) | rfl,fun X _ => by go_simp⟩) hHeld ?_
       try simp only [Act.put,zsA,zsB,zsC]
       refine' till_pure (i := 8) (oi := _) (v := .int .i64 0) rfl (by kernel_rfl) (by kernel_rfl) (by kernel_rfl) (by kernel_rfl) (fun _ _ _ h => h) (Or.inl ⟨by first | (go_simp;done) | rfl,fun X _ => by go_simp⟩) hHeld ?_
       try simp only [Act.put,zsA,zsB,zsC]
       refine' till_pure (i := 9) (oi := _) (v := .pointer (some ⟨b7,0,none⟩)) rfl (by kernel_rfl) (by kernel_rfl) (by kernel_rfl) (by kernel_rfl) (fun _ _ _ h => h) (Or.inl ⟨by first | (go_simp;done) | rfl,fun X _ => by go_simp⟩) hHeld ?_
       try simp only [Act.put,zsA,zsB,zsC]
       have cg9 := hHeld.1
       have fg9 := hS.rS.frozen 0
       refine till_ready (rs := [10]) (by kernel_rfl) (by simp) ?_
       refine TillReady.last (o := _) rfl (by kernel_rfl) (fun K hK => ?_) TillReady.nil
       go_simp
       refine hK.out _ _ ?_
       clear hK K
       try simp only [Act.put,zsA,zsB,zsC]
       refine' till_late (i := 11) (oi := _) (v := .int .i64 0) rfl (by kernel_rfl) (by kernel_rfl) (Or.inl ⟨by first | (go_simp;done) | rfl,fun X _ => by go_simp⟩) ?_
       try simp only [Act.put,zsA,zsB,zsC]
       refine till_done (by kernel_rfl) ?_ _
       go_simp
       have hS2 : DigS w1 (w10.setCell ⟨b7,0,none⟩ (.slice va vl vc)) b7 (.slice va vl vc) (.slice a2 l2 c2) (x0 + y) x1 := ⟨hS.rS.set 0 _,Rd.setNe hv cg9 (fun _ h => by cases h) _,Rd.setNe hS.x1 cg9 (fun _ h => by cases h) _,Bel.st hS.bel (p := ⟨b7,0,none⟩) hS.h7 _,hS.h7⟩
       clear hS hv hu cg9 fg9 r13 hl1 hl2 hl3
       go_wp2
       go_roundg (Kn - (s + 1))
       case measure => have := hgs.out;have := hlt2.out;omega
       case rel => exact ⟨s + 1,x0 + y,x1,va,vl,vc,a2,l2,c2,rfl,by have := hlt2.out;omega,by go_num,e2,e3,hS2⟩
      ·have e2 : Hid (x1 + y = sumTo S1 (s + 1)) := by show _ = _;rw [sumTo,hx1.out,e1.out,if_pos rfl]
       have e3 : Hid (x0 = sumTo S0 (s + 1)) := by show _ = _;rw [sumTo,e0.out,if_neg (by decide),Nat.add_zero];exact hx0.out
       have hl1 : (limbs (x1 + y)).length ≤ 64 := by rw [e2.out,hS1.out];have := sel_limbs hd10.out hm10.out E ⟨cf,cb,cx⟩ 1 hs1.out;omega
       have hl2 : (limbs x1).length ≤ 64 := by have := limbs_len_le (Nat.le_add_right x1 y);omega
       have hl3 : (limbs y).length ≤ 64 := by have := limbs_len_le (Nat.le_add_left y x1);omega
       have cS := hS.rS.cell? 1
       simp only [List.getElem?_cons_zero,List.getElem?_cons_succ] at cS
       clear e0 e1 hx0 hx1 ho2
       go_upto_region 16 with (fail)
       refine till_begin 10 (fun X => X.cell? ⟨b7,1,none⟩ = some (.slice a2 l2 c2) ∧ X.cell? ⟨b13,0,none⟩ = some (.slice ua ul uc)) (by kernel_rfl) (⟨cS,c13⟩) (fun hHeld => ?_)
       refine' till_pure (i := 0) (oi := _) (v := .int .i64 1) rfl (by kernel_rfl) (by kernel_rfl) (by kernel_rfl) (by kernel_rfl) (fun _ _ _ h => h) (Or.inl ⟨by first | (go_simp;done) | rfl,fun X _ => by go_simp⟩) hHeld ?_
       try simp only [Act.put,zsA,zsB,zsC]
       refine' till_pure (i := 1) (oi := _) (v := .int .i64 1) rfl (by kernel_rfl) (by kernel_rfl) (by kernel_rfl) (by kernel_rfl) (fun _ _ _ h => h) (Or.inl ⟨by first | (go_simp;done) | rfl,fun X _ => by go_simp⟩) hHeld ?_
       try simp only [Act.put,zsA,zsB,zsC]
       refine' till_pure (i := 2) (oi := _) (v := .pointer (some ⟨b7,1,none⟩)) rfl (by kernel_rfl) (by kernel_rfl) (by kernel_rfl) (by kernel_rfl) (fun _ _ _ h => h) (Or.inl ⟨by first | (go_simp;done) | rfl,fun X _ => by go_simp⟩) hHeld ?_
       try simp only [Act.put,zsA,zsB,zsC]
       refine' till_take (i := 3) (oi := _) (v := .agg #[.slice a2 l2 c2]) rfl (by kernel_rfl) (by kernel_rfl) (by kernel_rfl) (by kernel_rfl) (fun _ _ _ h => h) (Or.inl ⟨by first | (go_simp;done) | rfl,fun X hX => by have h0 := hX.1;go_simp⟩) hHeld ?_
       try simp only [Act.put,zsA,zsB,zsC]
       refine' till_take (i := 4) (oi := _) (v := .agg #[.slice ua ul uc]) rfl (by kernel_rfl) (by kernel_rfl) (by kernel_rfl) (by kernel_rfl) (fun _ _ _ h => h) (Or.inl ⟨by first | (go_simp;done) | rfl,fun X hX => by have h0 := hX.2;go_simp⟩) hHeld ?_
       try simp only [Act.put,zsA,zsB,zsC]
       obtain ⟨Y0,hY0⟩ : ∃ Y,Y = w9.drew := ⟨_,rfl⟩
       have hY1 : Below w9.heap.size w9 Y0 := by rw [hY0];exact Below.drew (Below.refl _ _)
       replace hS := hS.keep hY1
       replace hu := Rd.below hu hY1
       rw [← hY0] at hHeld ⊢
       clear hY0 hY1 cS c13
       refine till_ready (rs := [5]) (by kernel_rfl) (by simp) ?_
       refine TillReady.cons (o := _) rfl (fun K hK => ?_) TillReady.nil
       go_simp
       refine (add_any _ _ x1 y Y0 hS.x1 hu hl2 hl3).mono ?_
       rintro e w10 ⟨v,c,rfl,hc,hv,hb10⟩
       have hc0 := hc.out
       rw [if_pos hl1] at hc0 hv
       subst hc0
       obtain ⟨va,vl,vc,rfl⟩ := Rd.shape hv
       replace hS := hS.keep hb10
       go_wp2_with fail
       refine hK.out _ _ ⟨Bel.cellOf hb10 hHeld.1,Bel.cellOf hb10 hHeld.2⟩ (fun hHeld => ?_)
       clear hK K hb10 hc
       try simp only [Act.put,zsA,zsB,zsC]
       refine' till_pure (i := 6) (oi := _) (v := .tuple #[.agg #[.slice va vl vc],.int .i64 0]) rfl (by kernel_rfl) (by kernel_rfl) (by kernel_rfl) (by kernel_rfl) (fun _ _ _ h => h) (Or.inl ⟨by first | (go_simp;done) | rfl,fun X _ => by go_simp⟩) hHeld ?_
       try simp only [Act.put,zsA,zsB,zsC]
       refine' till_pure (i := 7) (oi := _) (v := .agg #[.slice va vl vc]) rfl (by kernel_rfl) (by kernel_rfl) (by kernel_rfl) (by kernel_rfl) (fun _ _ _ h => h) (Or.inl ⟨by first | (go_simp;done) | rfl,fun X _ => by go_simp⟩) hHeld ?_
       try simp only [Act.put,zsA,zsB,zsC]
       refine' till_pure (i := 8) (oi := _) (v := .int .i64 0) rfl (by kernel_rfl) (by kernel_rfl) (by kernel_rfl) (by kernel_rfl) (fun _ _ _ h => h) (Or.inl ⟨by first | (go_simp;done) | rfl,fun X _ => by go_simp⟩) hHeld ?_
       try simp only [Act.put,zsA,zsB,zsC]
       refine' till_pure (i := 9) (oi := _) (v := .pointer (some ⟨b7,1,none⟩)) rfl (by kernel_rfl) (by kernel_rfl) (by kernel_rfl) (by kernel_rfl) (fun _ _ _ h => h) (Or.inl ⟨by first | (go_simp;done) | rfl,fun X _ => by go_simp⟩) hHeld ?_
       try simp only [Act.put,zsA,zsB,zsC]
       have cg9 := hHeld.1
       have fg9 := hS.rS.frozen 1
       refine till_ready (rs := [10]) (by kernel_rfl) (by simp) ?_
       refine TillReady.last (o := _) rfl (by kernel_rfl) (fun K hK => ?_) TillReady.nil
       go_simp
       refine hK.out _ _ ?_
       clear hK K
       try simp only [Act.put,zsA,zsB,zsC]
       refine' till_late (i := 11) (oi := _) (v := .int .i64 0) rfl (by kernel_rfl) (by kernel_rfl) (Or.inl ⟨by first | (go_simp;done) | rfl,fun X _ => by go_simp⟩) ?_
       try simp only [Act.put,zsA,zsB,zsC]
       refine till_done (by kernel_rfl) ?_ _
       go_simp
       have hS2 : DigS w1 (w10.setCell ⟨b7,1,none⟩ (.slice va vl vc)) b7 (.slice a1 l1 c1) (.slice va vl vc) x0 (x1 + y) := ⟨hS.rS.set 1 _,Rd.setNe hS.x0 cg9 (fun _ h => by cases h) _,Rd.setNe hv cg9 (fun _ h => by cases h) _,Bel.st hS.bel (p := ⟨b7,1,none⟩) hS.h7 _,hS.h7⟩
       clear hS hv hu cg9 fg9 r13 hl1 hl2 hl3
       go_wp2
       go_roundg (Kn - (s + 1))
       case measure => have := hgs.out;have := hlt2.out;omega
       case rel => exact ⟨s + 1,x0,x1 + y,a1,l1,c1,va,vl,vc,rfl,by have := hlt2.out;omega,by go_num,e3,e2,hS2⟩
  ·obtain rfl : s = Kn := by omega
   have cS0 := hS.rS.cell? 0
   have cS1 := hS.rS.cell? 1
   simp only [List.getElem?_cons_zero,List.getElem?_cons_succ] at cS0 cS1
   have e6 := hev.out
   rw [← hx0.out,← hx1.out] at e6
   have hl1 : (limbs x0).length ≤ 64 := by rw [hx0.out,hS0.out];have := sel_limbs hd10.out hm10.out E ⟨cf,cb,cx⟩ 0 hK8.out;omega
   have cB := hide (sub_ok _ _ x0 x1 wr hS.x0 hS.x1 hl1 (by omega))
   rw [show x0 - x1 = P by omega] at cB
   have hbel := Bel.to bel hS.bel
   have rR2 := Row.keep rR hS.bel
   clear e6 hl1 hx0 hx1 hS
   go_wp2_with fail
   refine cB.out.mono ?_
   rintro e wz ⟨u,rfl,hp,hbz⟩
   obtain ⟨pa,pn,pc,rfl⟩ := Rd.shape hp
   replace rR2 := Row.keep rR2 hbz
   replace hbel := Bel.to hbel hbz
   clear hbz cB cS0 cS1
   have cR := rR2.cell? 0
   have fR := rR2.frozen 0
   simp only [List.getElem?_cons_zero] at cR
   have hf := Rd.setNe hp cR (fun _ h => by cases h) (.slice pa pn pc)
   have belf := Bel.st hbel (p := ⟨w.heap.size + 1,0,none⟩) (by simp only [];omega) (.slice pa pn pc)
   go_wp2
   exact bodyPost_ret (v := .tuple #[.agg #[(.slice pa pn pc)],.int .i64 0]) (by simp [results,Tryz.results65,go_sem,cR]) rfl ⟨_,rfl,hf,belf⟩
end Go.Proofs.YtldikghldcefcaaGreat
end

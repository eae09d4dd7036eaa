/- Lemmas, merged out of smaller texts (wip/tools/mergedce.py). No condition. -/
import Derived.Deep.AppendSrc
import Derived.Deep.QuietTactic
import Derived.BigQuiet
import Derived.Deep.MidRow
import Derived.Shelf.Small.Bits
import Derived.Test.YtldikghldcefcaaGreatProg
import Derived.Lib.BitFns
import Derived.Deep.RegionHeld
import Derived.Test.YtldikghldcefcaaGreatHD
import Derived.Test.YtldikghldcefcaaGreatHCore
import Derived.Test.YtldikghldcefcaaGreatHB
section
set_option linter.unusedVariables false
set_option linter.unusedSimpArgs false
namespace Go.Proofs.YtldikghldcefcaaGreat
open Go.RowKit
theorem rep_set {α : Type} (A : List α) (z u : α) (n i : Nat) (hA : A.length = i) (hi : i < n) : (A ++ List.replicate (n - i) z).set i u = (A ++ [u]) ++ List.replicate (n - (i + 1)) z := by
 rw [List.set_append_right _ _ (by omega),hA,Nat.sub_self]
 obtain ⟨k,hk⟩ : ∃ k,n - i = k + 1 := ⟨n - i - 1,by omega⟩
 rw [hk,List.replicate_succ,zsB,show n - (i + 1) = k by omega,List.append_assoc]
 rfl
set_option maxHeartbeats 4000000 in
set_option maxRecDepth 100000 in
theorem opow_any (d n : Nat) (w : World) (hd : d < 4294967296) (hn : n ≤ 60) :
  Calls Tryz.prog 74 #[.int .i64 (d : Int),.int .i64 (n : Int)] w (NatC (d ^ n) 0 w) := by
 have hR0 : Row (w.alloc (.cells #[.slice none 0 0] 30)) w.heap.size 30 [.slice none 0 0] := Row.newOf _ rfl
 have hl1 : (limbs d).length ≤ 1 := length_limbs_lt.1 (by rw [Nat.pow_one];exact hd)
 have cO := hide (fun X => oof_any (d : Int) X (by omega))
 rw [Int.toNat_natCast] at cO
 go_enter Tryz.func74,Tryz.ntmps74
 go_wp2_with (with_reducible refine wpList_make_one _ rfl _ _ 77 rfl 30 (.slice none 0 0) 24 Tryz.underlying77 infoNat .i64 .i64 _ _ n rfl rfl rfl rfl (by omega) (by omega) ?_;intro w3 hrow hb3 hz3)
 obtain ⟨g,hg⟩ : ∃ g,g = w.heap.size + 1 := ⟨_,rfl⟩
 have rR := Row.keep hR0 hb3
 have bel := Bel.one _ hb3
 have hs1 : (w.alloc (.cells #[.slice none 0 0] 30)).heap.size = w.heap.size + 1 := by simp
 rw [hs1,← hg] at hrow
 (try rw [hs1])
 rw [← hg]
 clear hs1
 have hwg : w.heap.size < g := by omega
 clear hR0 hb3 hg hz3
 go_wp2
 go_loopw [12] (fun ti wr => ∃ (i : Nat) (ps : List NatM),i ≤ n ∧ ti = .int .i64 (i : Int) ∧ Hid (ps.length = i) ∧ Hid (∀ p ∈ ps,p.2 = d ∧ NV wr p.1 d) ∧ Row wr g 30 (ps.map (·.1) ++ List.replicate (n - i) (.slice none 0 0)) ∧ Row wr w.heap.size 30 [.slice none 0 0] ∧ Below w.heap.size w wr) (fun ti _ => n - (intOf ti).toNat)
 case atStart => exact ⟨0,[],Nat.zero_le _,rfl,rfl,(fun p hp => by cases hp),hrow,rR,bel⟩
 case round =>
  clear hrow rR bel
  obtain ⟨i,ps,hi,rfl,hpl,hps,hrow,rR,bel⟩ := hrel
  by_cases hin : i < n
  ·have ii : (i : Int) < (n : Int) := by omega
   go_wp2_with fail
   refine (cO.out _).mono ?_
   rintro e w5 ⟨u,rfl,hu,hb5⟩
   obtain ⟨pa,pn,pc,rfl⟩ := Rd.shape hu
   replace hrow := Row.keep hrow hb5
   replace rR := Row.keep rR hb5
   have bel5 := Bel.to bel hb5
   have hz := (hrow.cell? i).trans (show (ps.map (·.1) ++ List.replicate (n - i) (Value.slice none 0 0))[i]? = some (.slice none 0 0) by
    rw [List.getElem?_append_right (by rw [List.length_map,hpl.out];exact Nat.le_refl _),List.length_map,hpl.out,Nat.sub_self,List.getElem?_replicate,if_pos (by omega)])
   have fz := hrow.frozen i
   have hset := hrow.set i (.slice pa pn pc)
   rw [rep_set _ _ _ n i (by rw [List.length_map];exact hpl.out) hin] at hset
   have hps2 : Hid (∀ p ∈ ps ++ [((.slice pa pn pc,d) : NatM)],p.2 = d ∧ NV (w5.setCell ⟨g,i,none⟩ (.slice pa pn pc)) p.1 d) := by
    intro p hp
    rcases List.mem_append.1 hp with hp | hp
    ·exact ⟨(hps.out p hp).1,Rd.setNe (Rd.below (hps.out p hp).2 hb5) hz (fun _ h => by cases h) _⟩
    ·obtain rfl := List.mem_singleton.1 hp
     exact ⟨rfl,Rd.setNe hu hz (fun _ h => by cases h) _⟩
   have rR2 := Row.far rR (p := ⟨g,i,none⟩) (by simp only [];omega) (.slice pa pn pc)
   have bel2 := Bel.st bel5 (p := ⟨g,i,none⟩) (by simp only [];omega) (.slice pa pn pc)
   clear hb5 hu bel hps
   go_wp2
   go_roundw
   case rel => exact ⟨i + 1,ps ++ [(.slice pa pn pc,d)],by omega,by go_num,by show _ = _;rw [List.length_append,hpl.out];rfl,hps2,by rw [List.map_append];exact hset,rR2,bel2⟩
   case measure => simp [intOf];omega
  ·obtain rfl : i = n := by omega
   rw [Nat.sub_self,List.replicate_zero,List.append_nil] at hrow
   have hN := hrow.nats (n := i) hpl.out.symm (by omega) (fun p hp => by rw [(hps.out p hp).1];exact (hps.out p hp).2)
   have hmap : ps.map (·.2) = List.replicate i d := by
    rw [List.eq_replicate_iff]
    refine ⟨by rw [List.length_map];exact hpl.out,fun b hb => ?_⟩
    obtain ⟨p,hp,rfl⟩ := List.mem_map.1 hb
    exact (hps.out p hp).1
   have hlim : limS (ps.map (·.2)) ≤ 63 := by
    rw [hmap]
    have h1 := limS_le (l := List.replicate i d) (c := 1) (fun x hx => by rw [(List.mem_replicate.1 hx).2];exact hl1)
    rw [List.length_replicate] at h1
    omega
   have cP := hide (oprod_any _ ps wr hN hlim (by rw [hpl.out];omega))
   rw [hmap,prodL_replicate] at cP
   clear hmap hlim hN hps hrow
   go_wp2_with fail
   refine cP.out.mono ?_
   rintro e w6 ⟨u,rfl,hp,hb6⟩
   obtain ⟨pa,pn,pc,rfl⟩ := Rd.shape hp
   replace rR := Row.keep rR hb6
   replace bel := Bel.to bel hb6
   clear cP hb6
   have cR := rR.cell? 0
   have fR := rR.frozen 0
   simp only [List.getElem?_cons_zero] at cR
   have hf := Rd.setNe hp cR (fun _ h => by cases h) (.slice pa pn pc)
   have belf := Bel.st bel (p := ⟨w.heap.size,0,none⟩) (Nat.le_refl _) (.slice pa pn pc)
   go_wp2
   exact bodyPost_ret (v := .tuple #[.agg #[(.slice pa pn pc)],.int .i64 0]) (by simp [results,Tryz.results74,go_sem,cR]) rfl ⟨_,rfl,hf,belf⟩
def chZ (n k : Int) : Nat := if n < 0 then 0 else chooseI n k
theorem chZ_limbs (n k : Int) (h : n ≤ 80) : (limbs (chZ n k)).length ≤ 3 := by
 have h1 : chZ n k ≤ 1208925819614629174706176 := by
  unfold chZ
  split
  ·omega
  ·exact chooseI_lt n k h
 have e : (4294967296 : Nat) ^ 3 = 79228162514264337593543950336 := by decide
 exact length_limbs_lt.1 (by omega)
set_option maxHeartbeats 4000000 in
set_option maxRecDepth 100000 in
theorem ochoose_any (n k : Int) (w : World) (hn : n ≤ 80) :
  Calls Tryz.prog 101 #[.int .i64 n,.int .i64 k] w (NatC (chZ n k) 0 w) := by
 have hR0 : Row (w.alloc (.cells #[.slice none 0 0] 30)) w.heap.size 30 [.slice none 0 0] := Row.newOf _ rfl
 by_cases h0 : n < 0
 ·have e : chZ n k = 0 := by unfold chZ;rw [if_pos h0]
  rw [e]
  clear e
  go_enter Tryz.func101,Tryz.ntmps101
  go_wp2
  refine bodyPost_ret (v := .tuple #[.agg #[.slice none 0 0],.int .i64 0]) (by simp [results,Tryz.results101,go_sem]) rfl ⟨_,rfl,NV.zero _,?_⟩
  first | exact Bel.al (Below.refl _ _) _ | exact Bel.st (Bel.al (Below.refl _ _) _) (Nat.le_refl _) _
 ·have e : chZ n k = chooseI n k := by unfold chZ;rw [if_neg h0]
  rw [e]
  clear e
  have cC := hide (fun X => choose_any n k X)
  have ev : chooseV n k = (chooseI n k,0) := by unfold chooseV;rw [if_pos ⟨by omega,hn⟩]
  rw [ev] at cC
  clear ev
  go_enter Tryz.func101,Tryz.ntmps101
  go_wp2_with fail
  refine (cC.out _).mono ?_
  rintro e w1 ⟨u,rfl,hp,hb1⟩
  obtain ⟨pa,pn,pc,rfl⟩ := Rd.shape hp
  have rR := Row.keep hR0 hb1
  have bel := Bel.one _ hb1
  clear hR0 hb1 cC
  have cR := rR.cell? 0
  have fR := rR.frozen 0
  simp only [List.getElem?_cons_zero] at cR
  have hf := Rd.setNe hp cR (fun _ h => by cases h) (.slice pa pn pc)
  have belf := Bel.st bel (p := ⟨w.heap.size,0,none⟩) (Nat.le_refl _) (.slice pa pn pc)
  go_wp2
  exact bodyPost_ret (v := .tuple #[.agg #[(.slice pa pn pc)],.int .i64 0]) (by simp [results,Tryz.results101,go_sem,cR]) rfl ⟨_,rfl,hf,belf⟩
def ZRow (w : World) (base : Nat) (e : TypeId) (v : Value) (vs : List Value) : Prop :=
 (v = .slice none 0 0 ∧ vs = []) ∨ ∃ g cap,v = .slice (some ⟨g,0,none⟩) vs.length cap ∧ base ≤ g ∧ vs.length ≤ cap ∧ cap ≤ maxLen ∧ Row w g e (vs ++ List.replicate (cap - vs.length) (.slice none 0 0))
theorem ZRow.shape {w : World} {base : Nat} {e : TypeId} {v : Value} {vs : List Value} (h : ZRow w base e v vs) : ∃ ao cap,v = .slice ao vs.length cap := by
 rcases h with ⟨rfl,rfl⟩ | ⟨g,cap,rfl,_⟩
 ·exact ⟨none,0,rfl⟩
 ·exact ⟨_,_,rfl⟩
theorem ZRow.keep {w w' : World} {base : Nat} {e : TypeId} {v : Value} {vs : List Value} (h : ZRow w base e v vs) (hb : Below w.heap.size w w') : ZRow w' base e v vs := by
 rcases h with h | ⟨g,cap,h1,h2,h3,h4,h5⟩
 ·exact .inl h
 ·exact .inr ⟨g,cap,h1,h2,h3,h4,Row.keep h5 hb⟩
theorem ZRow.far {w : World} {base : Nat} {e : TypeId} {v : Value} {vs : List Value} (h : ZRow w base e v vs) {p : Addr} (hp : p.block < base) (u : Value) : ZRow (w.setCell p u) base e v vs := by
 rcases h with h | ⟨g,cap,h1,h2,h3,h4,h5⟩
 ·exact .inl h
 ·exact .inr ⟨g,cap,h1,h2,h3,h4,h5.far (by omega) u⟩
theorem ZRow.lt {w : World} {base : Nat} {e : TypeId} {v : Value} {vs : List Value} (h : ZRow w base e v vs) : ∀ k,v.ownBlock = some k → base ≤ k ∧ k < w.heap.size := by
 rcases h with ⟨rfl,rfl⟩ | ⟨g,cap,rfl,h2,h3,h4,h5⟩
 ·intro k hk;cases hk
 ·intro k hk
  simp only [Value.ownBlock,Option.some.injEq] at hk
  subst hk
  exact ⟨h2,h5.lt⟩
theorem ZRow.rd {w : World} {base : Nat} {e : TypeId} {v : Value} {vs : List Value} (h : ZRow w base e v vs) : RdS 1 (fun x => [x]) w v vs := by
 rcases h with ⟨rfl,rfl⟩ | ⟨g,cap,rfl,h2,h3,h4,h5⟩
 ·exact ⟨none,0,rfl,Nat.le_refl _,Nat.zero_le _,fun h => absurd h (by simp)⟩
 ·refine ⟨_,cap,rfl,h3,h4,fun hl => ⟨g,0,rfl,h5.lt,fun i x hx j u hu => ?_⟩⟩
  match j,hu with
  | 0,hu =>
   simp at hu
   subst hu
   have hi : i < vs.length := (List.getElem?_eq_some_iff.1 hx).1
   rw [Nat.zero_add,Nat.mul_one,Nat.add_zero,h5.cell?,List.getElem?_append_left hi,hx]
theorem zeroCells_one (k : Nat) : (Builtin.zeroCells (Value.agg #[.slice none 0 0]).cells k).toList = List.replicate k (.slice none 0 0) := by
 unfold Builtin.zeroCells Value.cells
 apply List.ext_getElem?
 intro j
 rw [Array.getElem?_toList,Array.getElem?_map,Array.getElem?_range]
 by_cases hj : j < k
 ·simp [hj,List.getElem?_replicate,Nat.mod_one]
 ·simp [hj,List.getElem?_replicate]
theorem setCells_one (w : World) (b o : Nat) (u : Value) : w.setCells b o [u] = w.setCell ⟨b,o,none⟩ u := by simp [World.setCells]
section
variable {P : Program} (w : World)
theorem run_append_z (base : Nat) (t ty e : TypeId) (bytes : Nat) (ht : P.underlying t = some (.slice e)) (hi : (P.info? e).map (fun i => (i.zero,i.size,i.bytes)) = some (some (.agg #[.slice none 0 0]),1,bytes))
  (v : Value) (vs : List Value) (hz : ZRow w base e v vs) (h : Nat) (tt : TypeId) (u : Value) (hr : Row w h tt [u]) (hone : u.oneCell' = true)
  (h63 : vs.length + 1 ≤ 1000000000) (hbytes : (vs.length + 1) * bytes ≤ 140737488355328) (hbase : base ≤ w.heap.size) :
  ∃ v' w',(Builtin.append_ #[t,t] ty #[v,.slice (some ⟨h,0,none⟩) 1 1]).run P w = .ok v' w' ∧ ZRow w' base e v' (vs ++ [u]) ∧ w.grownBy w' v.ownBlock ∧ (∀ x n,NV w x n → NV w' x n) ∧ (v'.ownBlock = v.ownBlock ∨ v'.ownBlock = some w.heap.size) := by
 obtain ⟨i,hi,hzz,hs,hb⟩ := info_parts hi
 have hsrc : Src P i.size t (.slice (some ⟨h,0,none⟩) 1 1) 1 [u] w := by
  rw [hs]
  refine Src.ofSlice w ht ⟨h,0,none⟩ 1 1 [u] rfl (fun j x hx => ?_) (fun x hx => by obtain rfl := List.mem_singleton.1 hx;exact hone)
  match j,hx with
  | 0,hx =>
   have := (hr.cell? 0).trans hx
   simpa [Addr.add] using this
 have grow : ∀ (bo : Option Addr) (cap : Nat) (hv : v = .slice bo vs.length cap) (hcap : cap < vs.length + 1) (hold : (Builtin.firstCells i.size vs.length (.slice bo vs.length cap)).run P w.drew = .ok vs.toArray w.drew),
   ∃ v' w',(Builtin.append_ #[t,t] ty #[v,.slice (some ⟨h,0,none⟩) 1 1]).run P w = .ok v' w' ∧ ZRow w' base e v' (vs ++ [u]) ∧ w.grownBy w' v.ownBlock ∧ (∀ x n,NV w x n → NV w' x n) ∧ (v'.ownBlock = v.ownBlock ∨ v'.ownBlock = some w.heap.size) := by
  intro bo cap hv hcap hold
  have hg := run_append_grow_src (P := P) w t t ty e i _ ht hi hzz bo vs.length cap vs hold _ 1 [u] hsrc hcap (by omega) (growslice_fits hcap (by rw [hb];exact hbytes))
  rw [← hv] at hg
  have hge := grownCap_ge w (vs.length + 1) cap e
  have hle := grownCap_le_maxLen w (vs.length + 1) cap e (by unfold maxLen;omega)
  refine ⟨_,_,hg,.inr ⟨w.heap.size,_,by rw [List.length_append,List.length_singleton],hbase,by rw [List.length_append,List.length_singleton];exact hge,hle,?_⟩,Gb.alloc (show w.grownBy w.drew _ from ⟨rfl,rfl,rfl,Nat.le_refl _,fun _ _ _ => rfl⟩) _,fun x n hx => (Rd.drew hx).alloc _,.inr rfl⟩
  refine Row.newOf (w := w.drew) e ?_
  rw [Array.toList_append,zeroCells_one,List.length_append,List.length_singleton]
 rcases hz with ⟨rfl,rfl⟩ | ⟨g,cap,rfl,h2,h3,h4,h5⟩
 ·exact grow none 0 rfl (by simp) (run_firstCells_none w.drew i.size 0 0 0)
 ·by_cases hroom : vs.length + 1 ≤ cap
  ·have hcell : w.cell? ⟨g,vs.length,none⟩ = some (.slice none 0 0) := by
    rw [h5.cell?,List.getElem?_append_right (Nat.le_refl _),Nat.sub_self,List.getElem?_replicate,if_pos (by omega)]
   have hg := run_append_room_src (P := P) w t t ty e i ht hi g 0 vs.length cap _ 1 [u] hsrc hroom (fun j hj => by
    have : j = 0 := by simp at hj;exact hj
    subst this
    rw [hs,Nat.zero_add,Nat.mul_one,Nat.add_zero,hcell];rfl) (fun j hj => h5.frozen _)
   rw [hs,Nat.zero_add,Nat.mul_one,setCells_one] at hg
   have hset := h5.set vs.length u
   rw [rep_set2 vs _ u _ (by omega)] at hset
   refine ⟨_,_,hg,.inr ⟨g,cap,by rw [List.length_append,List.length_singleton],h2,by rw [List.length_append,List.length_singleton];exact hroom,h4,?_⟩,Gb.set (Gb.refl _ _) (.inl rfl) _,fun x n hx => Rd.setNe hx hcell (fun _ h => by cases h) _,.inl rfl⟩
   rw [List.length_append,List.length_singleton,show cap - (vs.length + 1) = cap - vs.length - 1 by omega]
   exact hset
  ·refine grow (some ⟨g,0,none⟩) cap rfl (by omega) (run_firstCells_some w.drew i.size vs.length ⟨g,0,none⟩ vs.length cap vs (by rw [hs,Nat.mul_one]) (fun j x hx => ?_))
   have hj : j < vs.length := (List.getElem?_eq_some_iff.1 hx).1
   have h6 := h5.cell? j
   rw [List.getElem?_append_left hj,hx] at h6
   show w.cell? _ = _
   unfold Addr.add
   split
   ·next h0 => subst h0;exact h6
   ·simpa using h6
end
theorem wpList_append_z {P : Program} (w : World) {ops : Array Oper} {rest : List Oper} {o : Oper} {a : Act} {Q : Exit → Act → World → Prop} (hgd : o.guard = none) (s x : Operand) (t : TypeId)
  (ho : o.op = .call { callee := .builtin .append,args := #[s,x],argTypes := #[t,t] })
  (base : Nat) (e : TypeId) (bytes : Nat) (ht : P.underlying t = some (.slice e)) (hi : (P.info? e).map (fun i => (i.zero,i.size,i.bytes)) = some (some (.agg #[.slice none 0 0]),1,bytes))
  (v : Value) (vs : List Value) (hs : a.eval s = v) (hz : ZRow w base e v vs) (h : Nat) (hx : a.eval x = .slice (some ⟨h,0,none⟩) 1 1) (tt : TypeId) (u : Value) (hr : Row w h tt [u]) (hone : u.oneCell' = true)
  (h63 : vs.length + 1 ≤ 1000000000) (hbytes : (vs.length + 1) * bytes ≤ 140737488355328) (hbase : base ≤ w.heap.size)
  (hk : ∀ v' w',ZRow w' base e v' (vs ++ [u]) → w.grownBy w' v.ownBlock → (∀ x n,NV w x n → NV w' x n) → (v'.ownBlock = v.ownBlock ∨ v'.ownBlock = some w.heap.size) → wpList P ops Q rest (a.put o.dst v') w') : wpList P ops Q (o :: rest) a w := by
 refine wpList_plain hgd fun K hK => ?_
 obtain ⟨v',w',hr,h2,h3,h4,h5⟩ := run_append_z (P := P) w base t o.type e bytes ht hi v vs hz h tt u hr hone h63 hbytes hbase
 unfold Oper.wp execOp
 simp only [ho,resolve,invoke,builtin,Sem.run_bind,Sem.run_pure,Result.andThen_ok,List.map_toArray,List.map_cons,List.map_nil,hs,hx,hr]
 exact hK _ _ (hk v' w' h2 h3 h4 h5)
def pairC (p : Int × Int) : List Value := [.int .i64 p.1,.int .i64 p.2]
def chP (p : Int × Int) : Nat := chZ p.1 p.2
set_option maxHeartbeats 4000000 in
set_option maxRecDepth 100000 in
theorem ochosen_any (v : Value) (ps : List (Int × Int)) (w : World) (h : RdS 2 pairC w v ps) (hb : ∀ p ∈ ps, p.1 ≤ 80) (hl : ps.length ≤ 20) :
    Calls Tryz.prog 67 #[v] w (NatC (prodL (ps.map chP)) 0 w) := by
  have hR0 : Row (w.alloc (.cells #[.slice none 0 0] 30)) w.heap.size 30 [.slice none 0 0] := Row.newOf _ rfl
  obtain ⟨aa, ca, rfl, hlc, hcm⟩ := RdS.shape h
  have hh := hide h
  obtain ⟨n, hnn⟩ : ∃ n, n = ps.length := ⟨_, rfl⟩
  rw [← hnn] at hl ⊢
  have hnn2 := hide hnn
  clear h hlc hcm hnn
  go_enter Tryz.func67, Tryz.ntmps67
  go_wp2
  obtain ⟨w0, hw0⟩ : ∃ X, X = w.alloc (.cells #[.slice none 0 0] 30) := ⟨_, rfl⟩
  have rR : Row w0 w.heap.size 30 [.slice none 0 0] := by rw [hw0]; exact hR0
  have bel : Below w.heap.size w w0 := by rw [hw0]; exact Bel.al (Below.refl _ _) _
  rw [← hw0]
  clear hw0 hR0
  go_loopw [4, 11] (fun tf ti wr => ∃ (i : Nat) (fa : Option Addr) (fn fc : Nat) (vs : List Value), i ≤ n ∧ tf = .slice fa fn fc ∧ ti = .int .i64 (i : Int) ∧ Hid (fn = vs.length) ∧ ZRow wr (w.heap.size + 1) 30 (.slice fa fn fc) vs ∧ Hid (vs.length = i) ∧ Hid (∀ (j : Nat) (x : Value) (p : Int × Int), vs[j]? = some x → ps[j]? = some p → NV wr x (chP p)) ∧ Hid (∀ x ∈ vs, x.oneCell' = true) ∧ Row wr w.heap.size 30 [.slice none 0 0] ∧ Below w.heap.size w wr) (fun _ ti _ => n - (intOf ti).toNat)
  case atStart => exact ⟨0, none, 0, 0, [], Nat.zero_le _, rfl, rfl, rfl, .inl ⟨rfl, rfl⟩, rfl, (fun j x p hx => by simp at hx), (fun x hx => by cases hx), rR, bel⟩
  case round =>
    clear rR bel
    obtain ⟨i, fa, fn, fc, vs, hi, rfl, rfl, hfn, hz, hvl, hvs, hvo, rR, bel⟩ := hrel
    by_cases hin : i < n
    · have hil : i < ps.length := by have := hnn2.out; omega
      obtain ⟨b, off, rfl, hbb, hcell⟩ := hh.out.at_ hil
      obtain ⟨p, hp⟩ : ∃ p, p = ps[i] := ⟨_, rfl⟩
      have hpi : ps[i]? = some p := by rw [hp]; exact List.getElem?_eq_getElem hil
      have hp80 := hb p (by rw [hp]; exact List.getElem_mem _)
      have hpi2 := hide hpi
      have e0 : wr.cell? ⟨b, off + i * 2, none⟩ = some (.int .i64 p.1) := Bel.cellOf bel (hcell i p hpi 0 _ rfl)
      have e1 : wr.cell? ⟨b, off + i * 2 + 1, none⟩ = some (.int .i64 p.2) := Bel.cellOf bel (hcell i p hpi 1 _ rfl)
      clear hcell hpi hp
      obtain ⟨pn, pk⟩ := p
      simp only [] at e0 e1 hp80
      have i2 : (i : Int) < (n : Int) := by omega
      have cC := hide (fun X => ochoose_any pn pk X hp80)
      go_upto_region 5 with (fail)
      obtain ⟨w6, hw6⟩ : ∃ X, X = wr.alloc (.cells #[.int .i64 pn, .int .i64 pk] 98) := ⟨_, rfl⟩
      have b6 : Below wr.heap.size wr w6 := by rw [hw6]; exact Bel.al (Below.refl _ _) _
      have r6 : Row w6 wr.heap.size 98 [.int .i64 pn, .int .i64 pk] := by rw [hw6]; exact Row.newOf _ rfl
      rw [← hw6]
      clear hw6 e0 e1
      have c60 := r6.cell? 0
      have c61 := r6.cell? 1
      simp only [List.getElem?_cons_zero, List.getElem?_cons_succ] at c60 c61
      replace rR := Row.keep rR b6
      replace bel := Bel.to bel b6
      replace hz := hz.keep b6
      replace hvs : Hid (∀ (j : Nat) (x : Value) (p : Int × Int), vs[j]? = some x → ps[j]? = some p → NV w6 x (chP p)) := fun j x p hx hp => Rd.below (hvs.out j x p hx hp) b6
      clear b6
      go_wp2_with fail
      refine (cC.out _).mono ?_
      rintro e w7 ⟨u, rfl, hu, hb7⟩
      obtain ⟨ua, ul, uc, rfl⟩ := Rd.shape hu
      replace rR := Row.keep rR hb7
      replace bel := Bel.to bel hb7
      replace hz := hz.keep hb7
      replace hvs : Hid (∀ (j : Nat) (x : Value) (p : Int × Int), vs[j]? = some x → ps[j]? = some p → NV w7 x (chP p)) := fun j x p hx hp => Rd.below (hvs.out j x p hx hp) hb7
      clear hb7 cC r6 c60 c61
      go_upto_region 6 with (fail)
      obtain ⟨w8, hw8⟩ : ∃ X, X = w7.alloc (.cells #[.slice ua ul uc] 30) := ⟨_, rfl⟩
      have b8 : Below w7.heap.size w7 w8 := by rw [hw8]; exact Bel.al (Below.refl _ _) _
      have r8 : Row w8 w7.heap.size 30 [.slice ua ul uc] := by rw [hw8]; exact Row.newOf _ rfl
      rw [← hw8]
      clear hw8
      have c8 := r8.cell? 0
      simp only [List.getElem?_cons_zero] at c8
      replace rR := Row.keep rR b8
      replace bel := Bel.to bel b8
      replace hz := hz.keep b8
      replace hu := Rd.below hu b8
      replace hvs : Hid (∀ (j : Nat) (x : Value) (p : Int × Int), vs[j]? = some x → ps[j]? = some p → NV w8 x (chP p)) := fun j x p hx hp => Rd.below (hvs.out j x p hx hp) b8
      clear b8
      have hsz : w.heap.size + 1 ≤ w8.heap.size := rR.lt
      go_wp2_with (with_reducible refine wpList_append_z _ rfl _ _ 77 rfl (w.heap.size + 1) 30 24 Tryz.underlying77 infoNat _ vs rfl ?_ w8.heap.size rfl 30 (.slice ua ul uc) ?_ rfl ?_ ?_ ?_ ?_)
      case refine_1 => exact hz.keep (Bel.al (Below.refl _ _) _)
      case refine_2 => exact Row.newOf _ rfl
      case refine_3 => have := hvl.out; omega
      case refine_4 => have := hvl.out; omega
      case refine_5 => simp; omega
      intro v9 w9 hz9 hg9 hkeep9 hown9
      obtain ⟨ga, gc, rfl⟩ := hz9.shape
      have hl9 : (vs ++ [Value.slice ua ul uc]).length = i + 1 := by rw [List.length_append, hvl.out]; rfl
      have hne : some w.heap.size ≠ (Value.slice fa fn fc).ownBlock := fun he => by have := (hz.lt _ he.symm).1; omega
      have rR9 := Row.grown (Row.alloc rR _) hg9 hne
      have bel9 : Below w.heap.size w w9 := (Bel.al bel _).grown hg9 (by simp; omega) (fun q hq => by have := (hz.lt q hq).1; omega)
      have hvs9 : Hid (∀ (j : Nat) (x : Value) (p : Int × Int), (vs ++ [Value.slice ua ul uc])[j]? = some x → ps[j]? = some p → NV w9 x (chP p)) := by
        intro j x p hx hp
        rcases Nat.lt_or_ge j vs.length with hj | hj
        · rw [List.getElem?_append_left hj] at hx
          exact hkeep9 x _ (Rd.alloc (hvs.out j x p hx hp) _)
        · rw [List.getElem?_append_right hj] at hx
          have hj0 : j - vs.length = 0 := by
            have := (List.getElem?_eq_some_iff.1 hx).1
            simp at this
            omega
          have hji : j = i := by have := hvl.out; omega
          rw [hj0] at hx
          simp at hx
          subst hx hji
          rw [hpi2.out] at hp
          injection hp with hp
          subst hp
          exact hkeep9 _ _ (Rd.alloc hu _)
      have hvo9 : Hid (∀ x ∈ vs ++ [Value.slice ua ul uc], x.oneCell' = true) := fun x hx => by
        rcases List.mem_append.1 hx with hx | hx
        · exact hvo.out x hx
        · obtain rfl := List.mem_singleton.1 hx; rfl
      rw [hl9] at hz9 ⊢
      clear hz hvs hvo hu r8 c8 hkeep9 hown9 hg9 hne rR bel
      go_wp2
      go_roundw
      case rel => exact ⟨i + 1, ga, i + 1, gc, _, by omega, rfl, by go_num, hl9.symm, hz9, hl9, hvs9, hvo9, rR9, bel9⟩
      case measure => simp [intOf]; omega
    · obtain rfl : i = n := by omega
      obtain ⟨fs, hfs⟩ : ∃ fs : List NatM, fs = vs.zip (ps.map chP) := ⟨_, rfl⟩
      have hlen : vs.length = (ps.map chP).length := by rw [hvl.out, List.length_map]; exact hnn2.out
      have hm1 : fs.map (·.1) = vs := by rw [hfs]; exact List.map_fst_zip (Nat.le_of_eq hlen)
      have hm2 : fs.map (·.2) = ps.map chP := by rw [hfs]; exact List.map_snd_zip (Nat.le_of_eq hlen.symm)
      have hN : NatsR wr (.slice fa fn fc) fs := by
        refine ⟨?_, fun q hq => ?_⟩
        · obtain ⟨ao, cap, he, h2, h3, h4⟩ := hz.rd
          have hfl : fs.length = vs.length := by rw [← hm1, List.length_map]
          refine ⟨ao, cap, by rw [hfl]; exact he, by rw [hfl]; exact h2, h3, fun hl => ?_⟩
          obtain ⟨b, o, e1, e2, e3⟩ := h4 (by omega)
          refine ⟨b, o, e1, e2, fun j x hx k u hu => e3 j x.1 ?_ k u hu⟩
          rw [← hm1, List.getElem?_map, hx]; rfl
        · obtain ⟨j, hj⟩ := List.getElem?_of_mem hq
          have h1 : vs[j]? = some q.1 := by rw [← hm1, List.getElem?_map, hj]; rfl
          have h2 : (ps.map chP)[j]? = some q.2 := by rw [← hm2, List.getElem?_map, hj]; rfl
          rw [List.getElem?_map] at h2
          cases hpj : ps[j]? with
          | none => rw [hpj] at h2; cases h2
          | some p =>
            rw [hpj] at h2
            injection h2 with h2
            rw [← h2]
            exact hvs.out j q.1 p h1 hpj
      have hlim : limS (fs.map (·.2)) ≤ 63 := by
        rw [hm2]
        have h1 := limS_le (l := ps.map chP) (c := 3) (fun x hx => by
          obtain ⟨p, hp, rfl⟩ := List.mem_map.1 hx
          exact chZ_limbs p.1 p.2 (hb p hp))
        rw [List.length_map, ← hnn2.out] at h1
        omega
      have cP := hide (oprod_any _ fs wr hN hlim (by have e : fs.length = vs.length := by rw [← hm1, List.length_map]
                                                     have := hvl.out; omega))
      rw [hm2] at cP
      clear hm1 hm2 hlim hN hfs hz hvs hvo hlen
      go_wp2_with fail
      refine cP.out.mono ?_
      rintro e w6 ⟨u, rfl, hp, hb6⟩
      obtain ⟨pa, pn, pc, rfl⟩ := Rd.shape hp
      replace rR := Row.keep rR hb6
      replace bel := Bel.to bel hb6
      clear cP hb6
      have cR := rR.cell? 0
      have fR := rR.frozen 0
      simp only [List.getElem?_cons_zero] at cR
      have hf := Rd.setNe hp cR (fun _ h => by cases h) (.slice pa pn pc)
      have belf := Bel.st bel (p := ⟨w.heap.size, 0, none⟩) (Nat.le_refl _) (.slice pa pn pc)
      go_wp2
      exact bodyPost_ret (v := .tuple #[.agg #[(.slice pa pn pc)], .int .i64 0]) (by simp [results, Tryz.results67, go_sem, cR]) rfl ⟨_, rfl, hf, belf⟩
def outN (g : GameD) : Nat := if g.kind = 2 then g.of.toNat ^ (2 * g.main.toNat) else prodL [chP (g.of,g.main),chP (g.of - g.main,g.extra),chP (g.bonusOf,g.bonus)]
theorem Row.pairs {w : World} {b n : Nat} {t : TypeId} {ps : List (Int × Int)} (h : Row w b t (ps.flatMap pairC)) (hn : n = ps.length) (hm : n ≤ 1000000) : RdS 2 pairC w (.slice (some ⟨b,0,none⟩) n n) ps := by
 subst hn
 refine ⟨_,_,rfl,Nat.le_refl _,by unfold maxLen;omega,fun _ => ⟨b,0,rfl,h.lt,fun i x hx j u hu => ?_⟩⟩
 rw [Nat.zero_add,h.cell?]
 exact flatS_at (sz := 2) (V := pairC) (fun _ => rfl) ps i j x u hx hu
theorem opow_int (x y : Int) (w : World) (hx : 0 ≤ x) (hx2 : x ≤ 10) (hy : 0 ≤ y) (hy2 : y ≤ 10) : Calls Tryz.prog 74 #[.int .i64 x,.int .i64 (2 * y)] w (NatC (x.toNat ^ (2 * y.toNat)) 0 w) := by
 have h := opow_any x.toNat (2 * y.toNat) w (by omega) (by omega)
 rw [show ((x.toNat : Nat) : Int) = x by omega,show (((2 * y.toNat : Nat)) : Int) = 2 * y by omega] at h
 exact h
set_option maxHeartbeats 4000000 in
set_option maxRecDepth 100000 in
theorem oout_any (g : GameD) (av tv : Value) (ms : List AddonM) (w : World) (rg : GameR w av tv ms g) (he : gameE g = 0) :
  Calls Tryz.prog 33 #[gameVal g av tv] w (NatC (outN g) 0 w) := by
 have hf := mat_facts (game_mat he)
 obtain ⟨P,hP⟩ : ∃ P,P = outN g := ⟨_,rfl⟩
 rw [← hP]
 replace hP := hide hP
 obtain ⟨aa,ac,rfl,hal,ham⟩ := rg.1.1.shape
 obtain ⟨ta,tc,rfl,htl,htm⟩ := rg.2.2.shape
 obtain ⟨an,han⟩ : ∃ an,an = ms.length := ⟨_,rfl⟩
 obtain ⟨tn,htn⟩ : ∃ tn,tn = g.tiers.length := ⟨_,rfl⟩
 rw [← han,← htn]
 clear rg hal htl ham htm han htn he
 unfold gameVal
 go_enter Tryz.func33,Tryz.ntmps33
 go_upto_region 1 with (fail)
 obtain ⟨W,hW⟩ : ∃ W,W = (w.alloc (Obj.cells #[.string g.name,.int .i64 g.kind,.int .i64 g.price,.int .i64 g.main,.int .i64 g.of,.int .i64 g.bonus,.int .i64 g.bonusOf,.int .i64 g.extra,.int .i64 g.draws,.int .i64 g.system,.int .i64 g.days,.int .i64 g.at_,.int .i64 g.close,.int .i64 g.cancel,.int .i64 g.expiry,.int .i64 g.pool,.int .i64 g.reserve,.int .i64 g.round,.int .i64 g.cap,.int .i64 g.rolls,(.slice aa an ac),(.slice ta tn tc)] 25)).alloc (Obj.cells #[.slice none 0 0] 30) := ⟨_,rfl⟩
 have bW : Below w.heap.size w W := by rw [hW];exact Bel.al (Bel.al (Below.refl _ _) _) _
 have r0 : GameAt W w.heap.size g (.slice aa an ac) (.slice ta tn tc) := by rw [hW];exact Row.alloc (Row.new _ _ _) _
 have rR : Row W (w.heap.size + 1) 30 [.slice none 0 0] := by rw [hW];exact Row.at2 _ _ _ _
 rw [← hW]
 clear hW
 have ck := r0.kind
 have cm := r0.main
 have co := r0.of
 by_cases hk : g.kind = 2
 ·have eo : g.of.toNat ^ (2 * g.main.toNat) = P := by rw [hP.out];unfold outN;rw [if_pos hk]
  have cP := hide (fun X => opow_int g.of g.main X (by omega) (by have := hf.2.2.2.2.2.2.1 hk;omega) (by omega) (by omega))
  rw [eo] at cP
  have wm : IntKind.i64.wrap (2 * g.main) = 2 * g.main := by rw [IntKind.wrap_i64];omega
  have hk1 : (g.kind == 2) = true := by simpa using hk
  rw [hk] at ck
  replace hk := hide hk
  clear eo hf
  go_wp2_with fail
  refine (cP.out _).mono ?_
  rintro e w1 ⟨u,rfl,hp,hb1⟩
  obtain ⟨pa,pn,pc,rfl⟩ := Rd.shape hp
  replace rR := Row.keep rR hb1
  have bel := Bel.to bW hb1
  clear hb1 cP r0 ck cm co
  have cR := rR.cell? 0
  have fR := rR.frozen 0
  simp only [List.getElem?_cons_zero] at cR
  have hf := Rd.setNe hp cR (fun _ h => by cases h) (.slice pa pn pc)
  have belf := Bel.st bel (p := ⟨w.heap.size + 1,0,none⟩) (by simp only [];omega) (.slice pa pn pc)
  go_wp2
  exact bodyPost_ret (v := .tuple #[.agg #[(.slice pa pn pc)],.int .i64 0]) (by simp [results,Tryz.results33,go_sem,cR]) rfl ⟨_,rfl,hf,belf⟩
 ·have eo : prodL ([(g.of,g.main),(g.of - g.main,g.extra),(g.bonusOf,g.bonus)].map chP) = P := by rw [hP.out];unfold outN;rw [if_neg hk];rfl
  have ce := r0.extra
  have cb := r0.bonus
  have cbo := r0.bonusOf
  have hk1 : (g.kind == 2) = false := by simpa using hk
  have wm : IntKind.i64.wrap (g.of - g.main) = g.of - g.main := by rw [IntKind.wrap_i64];omega
  have hb80 : ∀ p ∈ [(g.of,g.main),(g.of - g.main,g.extra),(g.bonusOf,g.bonus)],p.1 ≤ 80 := by
   intro p hp
   simp only [List.mem_cons,List.not_mem_nil,or_false] at hp
   rcases hp with rfl | rfl | rfl
   ·show g.of ≤ 80;omega
   ·show g.of - g.main ≤ 80;omega
   ·show g.bonusOf ≤ 80;omega
  have sW : w.heap.size + 1 < W.heap.size := rR.lt
  replace hk := hide hk
  replace hb80 := hide hb80
  clear hf
  have cC := hide (fun X (hX : Row X W.heap.size 98 ([(g.of,g.main),(g.of - g.main,g.extra),(g.bonusOf,g.bonus)].flatMap pairC)) => ochosen_any _ _ X (Row.pairs hX rfl (by simp)) hb80.out (by simp))
  rw [eo] at cC
  clear eo
  go_wp2_with fail
  refine (cC.out _ (Row.newOf _ rfl)).mono ?_
  rintro e w1 ⟨u,rfl,hp,hb1⟩
  obtain ⟨pa,pn,pc,rfl⟩ := Rd.shape hp
  replace rR := Row.keep (Row.alloc rR _) hb1
  have bel := Bel.to (Bel.al bW _) hb1
  clear hb1 cC r0 ck cm co ce cb cbo
  have cR := rR.cell? 0
  have fR := rR.frozen 0
  simp only [List.getElem?_cons_zero] at cR
  have hf := Rd.setNe hp cR (fun _ h => by cases h) (.slice pa pn pc)
  have belf := Bel.st bel (p := ⟨w.heap.size + 1,0,none⟩) (by simp only [];omega) (.slice pa pn pc)
  go_wp2
  exact bodyPost_ret (v := .tuple #[.agg #[(.slice pa pn pc)],.int .i64 0]) (by simp [results,Tryz.results33,go_sem,cR]) rfl ⟨_,rfl,hf,belf⟩
def outV (g : GameD) : Nat × Int := if gameE g = 0 then (outN g,0) else (0,gameE g)
set_option maxHeartbeats 4000000 in
set_option maxRecDepth 100000 in
theorem oOut_any (g : GameD) (av tv : Value) (ms : List AddonM) (w : World) (rg : GameR w av tv ms g) :
  Calls Tryz.prog 26 #[gameVal g av tv] w (NatC (outV g).1 (outV g).2 w) := by
 have cK := hide (fun X (hX : Below w.heap.size w X) => gcheck_any g av tv ms X (rg.below hX))
 have cO := hide (fun X (hX : Below w.heap.size w X) (he : gameE g = 0) => oout_any g av tv ms X (rg.below hX) he)
 obtain ⟨aa,ac,rfl,hal,ham⟩ := rg.1.1.shape
 obtain ⟨ta,tc,rfl,htl,htm⟩ := rg.2.2.shape
 obtain ⟨an,han⟩ : ∃ an,an = ms.length := ⟨_,rfl⟩
 obtain ⟨tn,htn⟩ : ∃ tn,tn = g.tiers.length := ⟨_,rfl⟩
 rw [← han,← htn] at cK cO ⊢
 clear rg hal htl ham htm han htn
 obtain ⟨c,hc⟩ : ∃ c,c = gameE g := ⟨_,rfl⟩
 obtain ⟨P,hP⟩ : ∃ P,P = (outV g).1 := ⟨_,rfl⟩
 obtain ⟨C,hC⟩ : ∃ C,C = (outV g).2 := ⟨_,rfl⟩
 have ev1 : Hid (c = 0 → outN g = P ∧ C = 0) := fun h => by rw [hP,hC];unfold outV;rw [← hc,if_pos h];exact ⟨rfl,rfl⟩
 have ev2 : Hid (c ≠ 0 → P = 0 ∧ C = c) := fun h => by rw [hP,hC];unfold outV;rw [← hc,if_neg h];exact ⟨rfl,rfl⟩
 rw [← hc] at cK cO
 rw [← hP,← hC]
 clear hP hC hc
 unfold gameVal at cK cO ⊢
 go_enter Tryz.func26,Tryz.ntmps26
 go_upto_region 1 with (fail)
 obtain ⟨W,hW⟩ : ∃ W,W = (w.alloc (Obj.cells #[.string g.name,.int .i64 g.kind,.int .i64 g.price,.int .i64 g.main,.int .i64 g.of,.int .i64 g.bonus,.int .i64 g.bonusOf,.int .i64 g.extra,.int .i64 g.draws,.int .i64 g.system,.int .i64 g.days,.int .i64 g.at_,.int .i64 g.close,.int .i64 g.cancel,.int .i64 g.expiry,.int .i64 g.pool,.int .i64 g.reserve,.int .i64 g.round,.int .i64 g.cap,.int .i64 g.rolls,(.slice aa an ac),(.slice ta tn tc)] 25)).alloc (Obj.cells #[.slice none 0 0] 30) := ⟨_,rfl⟩
 have bW : Below w.heap.size w W := by rw [hW];exact Bel.al (Bel.al (Below.refl _ _) _) _
 have r0 : GameAt W w.heap.size g (.slice aa an ac) (.slice ta tn tc) := by rw [hW];exact Row.alloc (Row.new _ _ _) _
 have rR : Row W (w.heap.size + 1) 30 [.slice none 0 0] := by rw [hW];exact Row.at2 _ _ _ _
 rw [← hW]
 clear hW
 go_wp2_with (first | (refine wpList_load_row rfl 25 _ rfl _ rfl _ _ _ _ r0 Tryz.underlying25 rfl (by kernel_rfl) ?_) | fail)
 refine (cK.out _ bW).mono ?_
 rintro e w1 ⟨s,rfl,hb1⟩
 have bel := Bel.to bW hb1
 have r1 := r0.keep hb1
 replace rR := Row.keep rR hb1
 clear r0 hb1 cK
 by_cases h0 : c = 0
 ·subst h0
  obtain ⟨eP,rfl⟩ := ev1.out rfl
  have cO2 := hide (cO.out w1 bel rfl)
  rw [eP] at cO2
  clear cO eP ev1 ev2
  go_wp2_with (first | (refine wpList_load_row rfl 25 _ rfl _ rfl _ _ _ _ r1 Tryz.underlying25 rfl (by kernel_rfl) ?_) | fail)
  refine cO2.out.mono ?_
  rintro e w2 ⟨u,rfl,hp,hb2⟩
  obtain ⟨pa,pn,pc,rfl⟩ := Rd.shape hp
  replace rR := Row.keep rR hb2
  replace bel := Bel.to bel hb2
  clear hb2 cO2 r1
  have cR := rR.cell? 0
  have fR := rR.frozen 0
  simp only [List.getElem?_cons_zero] at cR
  have hf := Rd.setNe hp cR (fun _ h => by cases h) (.slice pa pn pc)
  have belf := Bel.st bel (p := ⟨w.heap.size + 1,0,none⟩) (by simp only [];omega) (.slice pa pn pc)
  go_wp2
  exact bodyPost_ret (v := .tuple #[.agg #[(.slice pa pn pc)],.int .i64 0]) (by simp [results,Tryz.results26,go_sem,cR]) rfl ⟨_,rfl,hf,belf⟩
 ·obtain ⟨rfl,rfl⟩ := ev2.out h0
  have hcb : (C != 0) = true := by simpa using h0
  have hp : NV w1 (.slice none 0 0) 0 := NV.zero _
  replace h0 := hide h0
  clear cO ev1 ev2
  have cR := rR.cell? 0
  have fR := rR.frozen 0
  simp only [List.getElem?_cons_zero] at cR
  have hf := Rd.setNe hp cR (fun _ h => by cases h) (.slice none 0 0)
  have belf := Bel.st bel (p := ⟨w.heap.size + 1,0,none⟩) (by simp only [];omega) (.slice none 0 0)
  go_wp2
  exact bodyPost_ret (v := .tuple #[.agg #[(.slice none 0 0)],.int .i64 C]) (by simp [results,Tryz.results26,go_sem,cR]) rfl ⟨_,rfl,hf,belf⟩
end Go.Proofs.YtldikghldcefcaaGreat
end
section
set_option linter.unusedVariables false
set_option linter.unusedSimpArgs false
namespace Go.Proofs.YtldikghldcefcaaGreat
theorem guess_dec {B head top next w2 wl dl P guess left : Nat} (hh : head = guess * top + left) (ht : left * B + w2 < guess * next) (hw : wl < P) :
  (head * B + w2) * P + wl < guess * ((top * B + next) * P + dl) := by
 have h1 : head * B + w2 + 1 ≤ guess * (top * B + next) := by
  have e : guess * (top * B + next) = guess * top * B + guess * next := by grind
  have e2 : head * B = guess * top * B + left * B := by rw [hh,Nat.add_mul]
  rw [e,e2]
  omega
 have h2 := Nat.mul_le_mul_right P h1
 have h3 : guess * ((top * B + next) * P + dl) = guess * (top * B + next) * P + guess * dl := by grind
 have h4 : (head * B + w2 + 1) * P = (head * B + w2) * P + P := by grind
 rw [h3]
 omega
theorem guess_big {B W d guess : Nat} (h : W < d * B) (hg : B ≤ guess) : W < guess * d := by
 have := Nat.mul_le_mul_left d hg
 rw [Nat.mul_comm guess d]
 omega
theorem guess_first {B head top next w2 wl dl P guess left : Nat} (hh : head = guess * top + left) (hl : left < top) (hw2 : w2 < B) (hw : wl < P) :
  (head * B + w2) * P + wl < (guess + 1) * ((top * B + next) * P + dl) := by
 have h1 : head + 1 ≤ (guess + 1) * top := by rw [hh,Nat.add_mul];omega
 have h0 : (head + 1) * B = head * B + B := by grind
 have h2 : (head * B + w2) + 1 ≤ (head + 1) * B := by omega
 have h3 := Nat.mul_le_mul_right B h1
 have h4 : (head * B + w2 + 1) * P ≤ (guess + 1) * top * B * P := Nat.mul_le_mul_right P (by omega)
 have h5 : (guess + 1) * ((top * B + next) * P + dl) = (guess + 1) * top * B * P + (guess + 1) * (next * P + dl) := by grind
 have h6 : (head * B + w2 + 1) * P = (head * B + w2) * P + P := by grind
 rw [h5]
 omega
theorem guess_end {B head top next w2 wl dl P guess left : Nat} (hh : head = guess * top + left) (ht : guess * next ≤ left * B + w2) (hd : dl < P) (htop : 0 < top) (hg : guess < B) :
  guess * ((top * B + next) * P + dl) ≤ (head * B + w2) * P + wl + ((top * B + next) * P + dl) := by
 have h1 : guess * (top * B + next) ≤ head * B + w2 := by
  have e : guess * (top * B + next) = guess * top * B + guess * next := by grind
  have e2 : head * B = guess * top * B + left * B := by rw [hh,Nat.add_mul]
  rw [e,e2]
  omega
 have h2 := Nat.mul_le_mul_right P h1
 have h3 : guess * ((top * B + next) * P + dl) = guess * (top * B + next) * P + guess * dl := by grind
 have h4 : guess * dl ≤ B * P := Nat.mul_le_mul (Nat.le_of_lt hg) (Nat.le_of_lt hd)
 have h7 : 1 * B ≤ top * B := Nat.mul_le_mul_right B htop
 have h5 : B * P ≤ (top * B + next) * P := Nat.mul_le_mul_right P (by omega)
 rw [h3]
 omega
theorem top2 {B P z t u : Nat} : z + P * u + P * B * t = (t * B + u) * P + z := by grind
theorem top3 {B P z t u v : Nat} : z + P * u + P * B * v + P * B * B * t = ((t * B + v) * B + u) * P + z := by grind
theorem val_top2 {D : List Nat} {n : Nat} (hn : 2 ≤ n) (hl : D.length = n) : val D = (D[n - 1] * 4294967296 + D[n - 2]) * 4294967296 ^ (n - 2) + val (D.take (n - 2)) := by
 obtain ⟨k,rfl⟩ : ∃ k,n = k + 2 := ⟨n - 2,by omega⟩
 have h1 := val_take_succ D k (by omega)
 have h2 := val_take_succ D (k + 1) (by omega)
 have e : D.take (k + 1 + 1) = D := List.take_of_length_le (by omega)
 rw [e,h1,Nat.pow_succ] at h2
 simp only [Nat.add_sub_cancel,show k + 2 - 1 = k + 1 by omega]
 rw [h2]
 exact top2
theorem val_top3 {D : List Nat} {n : Nat} (hn : 2 ≤ n) (hl : D.length = n + 1) : val D = ((D[n] * 4294967296 + D[n - 1]) * 4294967296 + D[n - 2]) * 4294967296 ^ (n - 2) + val (D.take (n - 2)) := by
 obtain ⟨k,rfl⟩ : ∃ k,n = k + 2 := ⟨n - 2,by omega⟩
 have h1 := val_take_succ D k (by omega)
 have h2 := val_take_succ D (k + 1) (by omega)
 have h3 := val_take_succ D (k + 1 + 1) (by omega)
 have e : D.take (k + 1 + 1 + 1) = D := List.take_of_length_le (by omega)
 rw [e,h2,h1,Nat.pow_succ,Nat.pow_succ] at h3
 simp only [Nat.add_sub_cancel,show k + 2 - 1 = k + 1 by omega]
 rw [h3]
 exact top3
theorem val_take_lt {D : List Nat} (h : Small D) {k : Nat} (hk : k ≤ D.length) : val (D.take k) < 4294967296 ^ k := by
 have := val_lt (small_take h k)
 rwa [List.length_take,Nat.min_eq_left hk] at this
theorem val_splitQ (a : List Nat) (i : Nat) (h : i ≤ a.length) : val a = val (a.take i) + 4294967296 ^ i * val (a.drop i) := by
 have h1 := val_append (a.take i) (a.drop i)
 rw [List.take_append_drop,List.length_take,Nat.min_eq_left h] at h1
 exact h1
theorem digit_end {W d guess r q : Nat} (h1 : W < (guess + 1) * d) (h2 : guess * d ≤ W + d) (hr : r = if W < guess * d then W + d - guess * d else W - guess * d) (hq : q = if W < guess * d then guess - 1 else guess) : W = q * d + r ∧ r < d := by
 have e : (guess + 1) * d = guess * d + d := by grind
 rw [e] at h1
 by_cases h : W < guess * d
 ·rw [if_pos h] at hr hq
  subst hr hq
  have hg : guess ≠ 0 := by intro h0;rw [h0,Nat.zero_mul] at h;omega
  have e2 : (guess - 1) * d + d = guess * d := by
   have := Nat.add_mul (guess - 1) 1 d
   rw [Nat.sub_add_cancel (by omega)] at this
   omega
  omega
 ·rw [if_neg h] at hr hq
  subst hr hq
  omega
structure LongI (A d n k : Nat) (Q R : List Nat) : Prop where
 sum : A = d * (4294967296 ^ k * val (Q.drop k)) + val R
 low : val (R.drop k) < d
theorem long_zero {R : List Nat} {n k d : Nat} (hd : d < 4294967296 ^ n) (h : val (R.drop k) < d) (hk : k + n ≤ R.length) : val (R.drop (k + n)) = 0 := by
 have h1 := val_splitQ (R.drop k) n (by rw [List.length_drop];omega)
 rw [List.drop_drop] at h1
 have h0 : val (R.drop (k + n)) = 0 ∨ 0 < val (R.drop (k + n)) := by omega
 rcases h0 with h0 | h0
 ·exact h0
 ·have h2 := Nat.mul_le_mul_left (4294967296 ^ n) h0
  omega
theorem long_window {R : List Nat} {n j d : Nat} (hd : d < 4294967296 ^ n) (hR : Small R) (h : val (R.drop (j + 1)) < d) (hk : j + 1 + n ≤ R.length) : val ((R.drop j).take (n + 1)) = val (R.drop j) ∧ val ((R.drop j).take (n + 1)) < d * 4294967296 := by
 have hz := long_zero hd h hk
 have h1 := val_splitQ (R.drop j) (n + 1) (by rw [List.length_drop];omega)
 rw [List.drop_drop,show j + (n + 1) = j + 1 + n by omega,hz] at h1
 have h2 : val (R.drop j) = R[j] + 4294967296 * val (R.drop (j + 1)) := by rw [List.drop_eq_getElem_cons (by omega),val]
 have h3 := small_get hR (i := j) (by omega)
 refine ⟨by omega,?_⟩
 omega
theorem long_sum {B P z v t d q : Nat} : d * (P * B * z) + (t + P * (q * d + v)) = d * (P * (q + B * z)) + (t + P * v) := by grind
theorem long_step {A d n j q : Nat} {Q R V : List Nat} (hd : d < 4294967296 ^ n) (hR : Small R) (hq : Q.length = R.length - n) (hj : j + 1 + n ≤ R.length) (hI : LongI A d n (j + 1) Q R) (hV : V.length = n + 1)
  (hW : val ((R.drop j).take (n + 1)) = q * d + val V) (hr : val V < d) : LongI A d n j (Q.set j q) (R.take j ++ V ++ R.drop (j + (n + 1))) := by
 have hz := long_zero hd hI.low hj
 have hw := (long_window hd hR hI.low hj).1
 have hlt : (R.take j).length = j := by rw [List.length_take];omega
 have hz' : val (R.drop (j + (n + 1))) = 0 := by rw [show j + (n + 1) = j + 1 + n by omega];exact hz
 have e1 : val (V ++ R.drop (j + (n + 1))) = val V := by rw [val_append,hz'];simp
 refine ⟨?_,?_⟩
 ·have h1 := hI.sum
  have h2 := val_splitQ R j (by omega)
  rw [← hw,hW] at h2
  have h3 : (Q.set j q).drop j = q :: Q.drop (j + 1) := by
   rw [List.drop_eq_getElem_cons (by rw [List.length_set];omega),List.getElem_set_self,List.drop_set_of_lt (by omega)]
  rw [h3,val,List.append_assoc,val_append,e1,hlt,h1,h2,Nat.pow_succ]
  exact long_sum
 ·rw [List.append_assoc,List.drop_append_of_le_length (by omega),show (R.take j).drop j = [] by rw [List.drop_eq_nil_of_le (by omega)],List.nil_append,e1]
  exact hr
theorem long_end {A d n : Nat} {Q R : List Nat} (hI : LongI A d n 0 Q R) (hd : 0 < d) : val Q = A / d ∧ val R = A % d := by
 have h1 := hI.sum
 have h2 := hI.low
 simp only [Nat.pow_zero,Nat.one_mul,List.drop_zero] at h1 h2
 rw [h1,Nat.mul_add_div hd,Nat.div_eq_of_lt h2,Nat.mul_add_mod,Nat.mod_eq_of_lt h2]
 exact ⟨rfl,rfl⟩
theorem start_lt {B a b S n m v t : Nat} (hB : 0 < B) (hS : 0 < S) (hb : B ^ (n - 1) ≤ b) (ha : a < B ^ m) (hn : 1 ≤ n) (hmn : n ≤ m) (h : a * S = t + B ^ (m - n + 1) * v) : v < b * S := by
 have h3 : a * S < B ^ m * S := Nat.mul_lt_mul_of_pos_right ha hS
 have h4 : B ^ (m - n + 1) * (B ^ (n - 1) * S) ≤ B ^ (m - n + 1) * (b * S) := Nat.mul_le_mul_left _ (Nat.mul_le_mul_right _ hb)
 have h5 : B ^ (m - n + 1) * (B ^ (n - 1) * S) = B ^ m * S := by rw [← Nat.mul_assoc,← Nat.pow_add,show m - n + 1 + (n - 1) = m by omega]
 have h2 : B ^ (m - n + 1) * v < B ^ (m - n + 1) * (b * S) := by omega
 exact Nat.lt_of_mul_lt_mul_left h2
theorem long_sum0 {d P x : Nat} : x = d * (P * 0) + x := by simp
theorem long_start {B a b s n m : Nat} {R Q : List Nat} (hB : B = 4294967296) (hb : B ^ (n - 1) ≤ b) (ha : a < B ^ m) (hn : 1 ≤ n) (hmn : n ≤ m) (hR : val R = a * 2 ^ s) (hl : R.length = m + 1) (hQ : Q.length = m - n + 1) : LongI (a * 2 ^ s) (b * 2 ^ s) n (m - n + 1) Q R := by
 have hd : Q.drop (m - n + 1) = [] := List.drop_eq_nil_of_le (Nat.le_of_eq hQ)
 have hle : m - n + 1 ≤ R.length := by clear hb ha hR hd;omega
 have h1 := val_splitQ R (m - n + 1) hle
 rw [hR,← hB] at h1
 have h0 : 0 < B := by rw [hB];omega
 refine ⟨?_,start_lt h0 (Nat.pow_pos (by omega)) hb ha hn hmn h1⟩
 rw [hd,hR]
 exact long_sum0
theorem mul_div_pow (a b s : Nat) (hb : 0 < b) : a * 2 ^ s / (b * 2 ^ s) = a / b := Nat.mul_div_mul_right _ _ (Nat.pow_pos (by omega))
theorem mul_mod_pow (a b s : Nat) : a * 2 ^ s % (b * 2 ^ s) = a % b * 2 ^ s := Nat.mul_mod_mul_right _ _ _
theorem down_alg {B P S T u x y v c t z : Nat} (hB : T * S = B) (h : S * v + c = t + P * x) (hz : z = u + y * T) : S * (v + P * z) + c = t + P * (S * u + x) + P * B * y := by grind
theorem down_alg2 {P S u x v c t z : Nat} (h : S * v + c = t + P * x) (hz : z = u) : S * (v + P * z) + c = t + P * (S * u + x) := by grind
theorem down_step {O N : List Nat} {i s c z : Nat} (hs : s < 32) (hi : i + 1 < O.length) (hN : N.length = i) (h : 2 ^ s * val N + c = val (O.take i) + 4294967296 ^ i * (O[i] % 2 ^ s)) (hz : z = O[i] / 2 ^ s + O[i + 1] % 2 ^ s * 2 ^ (32 - s)) :
  2 ^ s * val (N ++ [z]) + c = val (O.take (i + 1)) + 4294967296 ^ (i + 1) * (O[i + 1] % 2 ^ s) := by
 have h1 := val_take_succ O i (by omega)
 have e : (2 : Nat) ^ (32 - s) * 2 ^ s = 4294967296 := by rw [← Nat.pow_add,show 32 - s + s = 32 by omega]
 have h2 := Nat.div_add_mod O[i] (2 ^ s)
 have h3 := down_alg (P := 4294967296 ^ i) e h hz
 rw [h2] at h3
 have h4 : val (N ++ [z]) = val N + 4294967296 ^ i * z := by rw [val_append,hN];simp [val]
 rw [h4,h1,Nat.pow_succ]
 exact h3
theorem down_last {O N : List Nat} {i s c z : Nat} (hi : i + 1 = O.length) (hN : N.length = i) (h : 2 ^ s * val N + c = val (O.take i) + 4294967296 ^ i * (O[i] % 2 ^ s)) (hz : z = O[i] / 2 ^ s) : 2 ^ s * val (N ++ [z]) + c = val O := by
 have h1 := val_take_succ O i (by omega)
 have e : O.take (i + 1) = O := List.take_of_length_le (by omega)
 rw [e] at h1
 have h2 := Nat.div_add_mod O[i] (2 ^ s)
 have h3 := down_alg2 (P := 4294967296 ^ i) h hz
 rw [h2] at h3
 have h4 : val (N ++ [z]) = val N + 4294967296 ^ i * z := by rw [val_append,hN];simp [val]
 rw [h4,h1]
 exact h3
theorem down_end {v o c s : Nat} (h : 2 ^ s * v + c = o) (hc : c < 2 ^ s) : v = o / 2 ^ s := by
 rw [← h,Nat.mul_add_div (Nat.pow_pos (by omega)),Nat.div_eq_of_lt hc];omega
end Go.Proofs.YtldikghldcefcaaGreat
end
section
set_option linter.unusedVariables false
set_option linter.unusedSimpArgs false
namespace Go.Proofs.YtldikghldcefcaaGreat
open Go.RowKit
theorem and_low {x : Nat} (hx : x < 18446744073709551616) : bits BinOp.and IntKind.u64 (x : Int) (4294967295 : Int) = ((x % 4294967296 : Nat) : Int) := by
 have e : (4294967295 : Int) = ((4294967295 : Nat) : Int) := rfl
 rw [e,u64_and_nat _ _ (by omega) (by omega)]
 have h := Nat.and_two_pow_sub_one_eq_mod x 32
 rw [show (2 : Nat) ^ 32 - 1 = 4294967295 by rfl,show (2 : Nat) ^ 32 = 4294967296 by rfl] at h
 rw [h]
structure WinI (R R' : List Nat) (off i : Nat) : Prop where
 len : R'.length = R.length
 front : R'.take off = R.take off
 back : R'.drop (off + i) = R.drop (off + i)
theorem WinI.refl (R : List Nat) (off : Nat) : WinI R R off 0 := ⟨rfl,rfl,rfl⟩
theorem WinI.get {R R' : List Nat} {off i : Nat} (h : WinI R R' off i) (hi : off + i < R.length) : R'[off + i]'(by rw [h.len];exact hi) = R[off + i] := by
 have h1 := congrArg (fun l => l[0]?) h.back
 simp only [List.getElem?_drop,Nat.add_zero] at h1
 rw [List.getElem?_eq_getElem (by rw [h.len];exact hi),List.getElem?_eq_getElem hi] at h1
 exact Option.some.inj h1
theorem WinI.set {R R' : List Nat} {off i : Nat} (h : WinI R R' off i) (hi : off + i < R.length) (z : Nat) : WinI R (R'.set (off + i) z) off (i + 1) := by
 refine ⟨by rw [List.length_set,h.len],by rw [List.take_set_of_le (by omega),h.front],?_⟩
 rw [show off + (i + 1) = off + i + 1 by omega,List.drop_set_of_lt (by omega)]
 have h1 := congrArg (List.drop 1) h.back
 rwa [List.drop_drop,List.drop_drop] at h1
theorem WinI.val {R R' : List Nat} {off i : Nat} (h : WinI R R' off i) (hi : off + i < R.length) (z : Nat) :
  val (((R'.set (off + i) z).drop off).take (i + 1)) = val ((R'.drop off).take i) + 4294967296 ^ i * z ∧ val ((R.drop off).take (i + 1)) = val ((R.drop off).take i) + 4294967296 ^ i * R[off + i] := by
 have hl := h.len
 constructor
 ·have e : (R'.set (off + i) z).drop off = (R'.drop off).set i z := by rw [List.drop_set,if_neg (by omega),Nat.add_sub_cancel_left]
  rw [e,val_take_succ _ i (by rw [List.length_set,List.length_drop];omega),List.getElem_set_self,List.take_set_of_le (Nat.le_refl i)]
 ·rw [val_take_succ _ i (by rw [List.length_drop];omega),List.getElem_drop]
theorem sub_alg {B P v f dv w c bo x t z y bn : Nat} (h : v + f * dv = w + P * (c + bo)) (ht : t = c + f * x) (hz : z + (t % B + bo) = y + B * bn) : v + P * z + f * (dv + P * x) = w + P * y + P * B * (t / B + bn) := by
 have hm := Nat.div_add_mod t B
 have e1 : P * z + P * (t % B) + P * bo = P * y + P * B * bn := by
  have := congrArg (P * ·) hz
  simp only [Nat.mul_add,← Nat.mul_assoc] at this
  omega
 have e2 : P * t = P * B * (t / B) + P * (t % B) := by
  have := congrArg (P * ·) hm
  simp only [Nat.mul_add,← Nat.mul_assoc] at this
  omega
 have e3 : P * t = P * c + P * (f * x) := by rw [ht,Nat.mul_add]
 have e4 : f * (dv + P * x) = f * dv + P * (f * x) := by grind
 have e5 : P * B * (t / B + bn) = P * B * (t / B) + P * B * bn := Nat.mul_add _ _ _
 rw [Nat.mul_add] at h
 rw [e4,e5]
 omega
theorem subr_step {R R' D : List Nat} {off i c bo bn t z f x y : Nat} (hI : WinI R R' off i) (hi : off + i < R.length) (hx : val (D.take (i + 1)) = val (D.take i) + 4294967296 ^ i * x) (h : val ((R'.drop off).take i) + f * val (D.take i) = val ((R.drop off).take i) + 4294967296 ^ i * (c + bo)) (ht : t = c + f * x) (hy : y = R'[off + i]'(by rw [hI.len];exact hi)) (hz : z + (t % 4294967296 + bo) = y + 4294967296 * bn) :
  val (((R'.set (off + i) z).drop off).take (i + 1)) + f * val (D.take (i + 1)) = val ((R.drop off).take (i + 1)) + 4294967296 ^ (i + 1) * (t / 4294967296 + bn) := by
 obtain ⟨h1,h2⟩ := hI.val hi z
 rw [h1,h2,hx,Nat.pow_succ,← hI.get hi,← hy]
 exact sub_alg h ht hz
theorem take_more {D : List Nat} {i : Nat} (h : D.length ≤ i) : val (D.take (i + 1)) = val (D.take i) + 4294967296 ^ i * 0 := by
 rw [List.take_of_length_le (by omega),List.take_of_length_le h,Nat.mul_zero,Nat.add_zero]
theorem add_alg {B P v dv w c x t y : Nat} (h : v + P * c = w + dv) (ht : t = c + y + x) : v + P * (t % B) + P * B * (t / B) = w + P * y + (dv + P * x) := by
 have hm := Nat.div_add_mod t B
 have e2 : P * t = P * B * (t / B) + P * (t % B) := by
  have := congrArg (P * ·) hm
  simp only [Nat.mul_add,← Nat.mul_assoc] at this
  omega
 have e3 : P * t = P * c + P * y + P * x := by rw [ht,Nat.mul_add,Nat.mul_add]
 omega
theorem rest_step {R R' D : List Nat} {off i c t x y : Nat} (hI : WinI R R' off i) (hi : off + i < R.length) (hx : val (D.take (i + 1)) = val (D.take i) + 4294967296 ^ i * x) (h : val ((R'.drop off).take i) + 4294967296 ^ i * c = val ((R.drop off).take i) + val (D.take i)) (hy : y = R'[off + i]'(by rw [hI.len];exact hi)) (ht : t = c + y + x) :
  val (((R'.set (off + i) (t % 4294967296)).drop off).take (i + 1)) + 4294967296 ^ (i + 1) * (t / 4294967296) = val ((R.drop off).take (i + 1)) + val (D.take (i + 1)) := by
 obtain ⟨h1,h2⟩ := hI.val hi (t % 4294967296)
 rw [h1,h2,hx,Nat.pow_succ,← hI.get hi,← hy]
 exact add_alg h ht
structure SubP (R R' D : List Nat) (off n f : Nat) (bo : Bool) : Prop where
 win : WinI R R' off (n + 1)
 small : Small R'
 sum : val ((R'.drop off).take (n + 1)) + f * val D = val ((R.drop off).take (n + 1)) + 4294967296 ^ (n + 1) * bo.toNat
def SubO (g : Nat) (R D : List Nat) (off n f : Nat) (w : World) (e : Ending) (w' : World) : Prop := ∃ bo R',e = .returned (.bool bo) ∧ Row w' g 68 (R'.map U32) ∧ SubP R R' D off n f bo ∧ w.grownBy w' (some g)
set_option maxHeartbeats 4000000 in
set_option maxRecDepth 100000 in
theorem subtract (g off cap n f : Nat) (R D : List Nat) (dv : Value) (w : World) (hR : Row w g 68 (R.map U32)) (hs : Small R) (hoff : off + n + 1 ≤ R.length) (hD : Rd U32 w dv D) (hDs : Small D) (hDn : D.length = n) (hne : dv.ownBlock ≠ some g) (hf : f < 4294967296) (hn : n ≤ 1000) :
  Calls Tryz.prog 129 #[.slice (some ⟨g,off,none⟩) (n + 1 : Nat) cap,dv,.int .u64 (f : Int)] w (SubO g R D off n f w) := by
 obtain ⟨ao,dc,rfl,hlc,hcm,hr⟩ := hD.form
 subst hDn
 go_enter Tryz.func129,Tryz.ntmps129
 go_wp2
 go_loopw [7,8,14] (fun tc tb ti wr => ∃ (i c bo : Nat) (R' : List Nat),i ≤ D.length + 1 ∧ tc = .int .u64 c ∧ tb = .int .u64 bo ∧ ti = .int .i64 i ∧ c < 4294967296 ∧ bo ≤ 1 ∧ Hid (i = D.length + 1 → c = 0) ∧ Row wr g 68 (R'.map U32) ∧ Hid (WinI R R' off i) ∧ Small R' ∧ Hid (val ((R'.drop off).take i) + f * val (D.take i) = val ((R.drop off).take i) + 4294967296 ^ i * (c + bo)) ∧ w.grownBy wr (some g)) (fun _ _ i _ => D.length + 1 - (intOf i).toNat)
 case atStart =>
  exact ⟨0,0,0,R,by omega,rfl,rfl,rfl,by omega,by omega,(fun h => by omega),hR,WinI.refl _ _,hs,by show _ = _;simp [val],Gb.refl _ _⟩
 case round =>
  obtain ⟨i,c,bo,R',hi,rfl,rfl,rfl,hc,hbo,hz0,hR',hW,hs',hv,hgb⟩ := hrel
  by_cases hin : i < D.length + 1
  ·have hiR : off + i < R.length := by omega
   have hiR' : off + i < R'.length := by have := hW.out.len;omega
   have e3 := hR'.cellV hiR'
   have e4 := hR'.frozen (off + i)
   have hy := small_get hs' hiR'
   obtain ⟨y,hyy⟩ : ∃ y,y = R'[off + i] := ⟨_,rfl⟩
   rw [← hyy] at e3 hy
   replace hyy := hide hyy
   by_cases hid : i < D.length
   ·obtain ⟨b,o2,rfl,hb,hcell⟩ := hr.at_ hid
    have hbg : b ≠ g := fun e => hne (by rw [e];rfl)
    have e1 := Gb.cellOf hgb (hcell i hid) (fun e => hbg (by simpa using e))
    have hxs := small_get hDs hid
    have hxx := hide (val_take_succ D i hid)
    obtain ⟨x,hxe⟩ : ∃ x,x = D[i] := ⟨_,rfl⟩
    rw [← hxe] at e1 hxs hxx
    have hfx := mul_lt hf hxs
    obtain ⟨fx0,fx1⟩ := mul_bd hf hxs
    obtain ⟨t,ht⟩ : ∃ t,t = c + f * x := ⟨_,rfl⟩
    have et : ((c : Int) + (f : Int) * (x : Int)) = (t : Int) := by rw [ht,Int.natCast_add,Int.natCast_mul]
    have htb : t < 18446744073709551616 := by omega
    clear hcell hxe
    have hand := and_low htb
    have hcy : t / 4294967296 < 4294967296 := by omega
    have htm : t % 4294967296 < 4294967296 := by omega
    obtain ⟨m,hm⟩ : ∃ m,m = t % 4294967296 := ⟨_,rfl⟩
    rw [← hm] at hand htm
    obtain ⟨q,hq⟩ : ∃ q,q = t / 4294967296 := ⟨_,rfl⟩
    rw [← hq] at hcy
    have hqi : (t : Int) / 4294967296 = (q : Int) := by omega
    replace ht := hide ht
    replace hm := hide hm
    replace hq := hide hq
    by_cases hlt : y < m + bo
    ·have hlt2 : (y : Int) < (m : Int) + (bo : Int) := by omega
     obtain ⟨z,hz⟩ : ∃ z,z + (m + bo) = y + 4294967296 * 1 := ⟨y + 4294967296 - (m + bo),by omega⟩
     have hzb : z < 4294967296 := by omega
     have ezi : ((y : Int) + 4294967296 - ((m : Int) + (bo : Int))) = (z : Int) := by omega
     have hst := hide (subr_step (D := D) (x := x) hW.out hiR hxx.out hv.out ht.out hyy.out (by rw [← hm.out];exact hz))
     rw [← hq.out] at hst
     clear hv hz
     go_wp2
     go_roundw
     case rel =>
      refine ⟨i + 1,q,1,R'.set (off + i) z,by omega,by go_num,rfl,by go_num,hcy,by omega,(fun h => by omega),?_,hW.out.set hiR z,small_set hs' _ hzb,hst,Gb.set hgb (.inl rfl) _⟩
      have := hR'.setV (off + i) z
      exact this
     case measure => simp [intOf];omega
    ·have hlt2 : ¬ ((y : Int) < (m : Int) + (bo : Int)) := by omega
     obtain ⟨z,hz⟩ : ∃ z,z + (m + bo) = y + 4294967296 * 0 := ⟨y - (m + bo),by omega⟩
     have hzb : z < 4294967296 := by omega
     have ezi : ((y : Int) - ((m : Int) + (bo : Int))) = (z : Int) := by omega
     have hst := hide (subr_step (D := D) (x := x) hW.out hiR hxx.out hv.out ht.out hyy.out (by rw [← hm.out];exact hz))
     rw [← hq.out] at hst
     clear hv hz
     go_wp2
     go_roundw
     case rel =>
      refine ⟨i + 1,q,0,R'.set (off + i) z,by omega,by go_num,rfl,by go_num,hcy,by omega,(fun h => by omega),?_,hW.out.set hiR z,small_set hs' _ hzb,hst,Gb.set hgb (.inl rfl) _⟩
      have := hR'.setV (off + i) z
      exact this
     case measure => simp [intOf];omega
   ·have hid' : D.length ≤ i := by omega
    have hxx := hide (take_more hid')
    obtain ⟨t,ht⟩ : ∃ t,t = c + f * 0 := ⟨_,rfl⟩
    obtain rfl : t = c := by rw [ht,Nat.mul_zero,Nat.add_zero]
    have htb : t < 18446744073709551616 := by omega
    have hand := and_low htb
    have hcy : t / 4294967296 < 4294967296 := by omega
    have htm : t % 4294967296 < 4294967296 := by omega
    obtain ⟨m,hm⟩ : ∃ m,m = t % 4294967296 := ⟨_,rfl⟩
    rw [← hm] at hand htm
    obtain ⟨q,hq⟩ : ∃ q,q = t / 4294967296 := ⟨_,rfl⟩
    rw [← hq] at hcy
    have hqi : (t : Int) / 4294967296 = (q : Int) := by omega
    replace ht := hide ht
    replace hm := hide hm
    replace hq := hide hq
    by_cases hlt : y < m + bo
    ·have hlt2 : (y : Int) < (m : Int) + (bo : Int) := by omega
     obtain ⟨z,hz⟩ : ∃ z,z + (m + bo) = y + 4294967296 * 1 := ⟨y + 4294967296 - (m + bo),by omega⟩
     have hzb : z < 4294967296 := by omega
     have ezi : ((y : Int) + 4294967296 - ((m : Int) + (bo : Int))) = (z : Int) := by omega
     have hst := hide (subr_step (D := D) (x := 0) hW.out hiR hxx.out hv.out ht.out hyy.out (by rw [← hm.out];exact hz))
     rw [← hq.out] at hst
     clear hv hz
     go_wp2
     go_roundw
     case rel =>
      refine ⟨i + 1,q,1,R'.set (off + i) z,by omega,by go_num,rfl,by go_num,hcy,by omega,(fun _ => by have := hq.out;omega),?_,hW.out.set hiR z,small_set hs' _ hzb,hst,Gb.set hgb (.inl rfl) _⟩
      have := hR'.setV (off + i) z
      exact this
     case measure => simp [intOf];omega
    ·have hlt2 : ¬ ((y : Int) < (m : Int) + (bo : Int)) := by omega
     obtain ⟨z,hz⟩ : ∃ z,z + (m + bo) = y + 4294967296 * 0 := ⟨y - (m + bo),by omega⟩
     have hzb : z < 4294967296 := by omega
     have ezi : ((y : Int) - ((m : Int) + (bo : Int))) = (z : Int) := by omega
     have hst := hide (subr_step (D := D) (x := 0) hW.out hiR hxx.out hv.out ht.out hyy.out (by rw [← hm.out];exact hz))
     rw [← hq.out] at hst
     clear hv hz
     go_wp2
     go_roundw
     case rel =>
      refine ⟨i + 1,q,0,R'.set (off + i) z,by omega,by go_num,rfl,by go_num,hcy,by omega,(fun _ => by have := hq.out;omega),?_,hW.out.set hiR z,small_set hs' _ hzb,hst,Gb.set hgb (.inl rfl) _⟩
      have := hR'.setV (off + i) z
      exact this
     case measure => simp [intOf];omega
  ·obtain rfl : i = D.length + 1 := by omega
   obtain rfl : c = 0 := hz0.out rfl
   have hfin : ∀ bb : Bool,bb.toNat = bo → SubP R R' D off D.length f bb := fun bb h => ⟨hW.out,hs',by
    have h1 := hv.out
    rw [List.take_of_length_le (show D.length ≤ D.length + 1 by omega)] at h1
    rw [h,h1,Nat.zero_add]⟩
   clear hv hW
   have hb2 : bo = 0 ∨ bo = 1 := by omega
   rcases hb2 with rfl | rfl
   ·go_wp2
    go_ret
    exact ⟨_,R',rfl,hR',hfin _ rfl,hgb⟩
   ·go_wp2
    go_ret
    exact ⟨_,R',rfl,hR',hfin _ rfl,hgb⟩
set_option maxHeartbeats 4000000 in
set_option maxRecDepth 100000 in
theorem restore (g off cap n : Nat) (R D : List Nat) (dv : Value) (w : World) (hR : Row w g 68 (R.map U32)) (hs : Small R) (hoff : off + n + 1 ≤ R.length) (hD : Rd U32 w dv D) (hDs : Small D) (hDn : D.length = n) (hne : dv.ownBlock ≠ some g) (hn : n ≤ 1000) :
  Calls Tryz.prog 130 #[.slice (some ⟨g,off,none⟩) (n + 1 : Nat) cap,dv] w (fun e w' => ∃ c R',e = .returned (.tuple #[]) ∧ Row w' g 68 (R'.map U32) ∧ WinI R R' off (n + 1) ∧ Small R' ∧ val ((R'.drop off).take (n + 1)) + 4294967296 ^ (n + 1) * c = val ((R.drop off).take (n + 1)) + val D ∧ w.grownBy w' (some g)) := by
 obtain ⟨ao,dc,rfl,hlc,hcm,hr⟩ := hD.form
 subst hDn
 go_enter Tryz.func130,Tryz.ntmps130
 go_wp2
 go_loopw [4,8] (fun tc ti wr => ∃ (i c : Nat) (R' : List Nat),i ≤ D.length + 1 ∧ tc = .int .u64 c ∧ ti = .int .i64 i ∧ c ≤ 1 ∧ Row wr g 68 (R'.map U32) ∧ Hid (WinI R R' off i) ∧ Small R' ∧ Hid (val ((R'.drop off).take i) + 4294967296 ^ i * c = val ((R.drop off).take i) + val (D.take i)) ∧ w.grownBy wr (some g)) (fun _ i _ => D.length + 1 - (intOf i).toNat)
 case atStart =>
  exact ⟨0,0,R,by omega,rfl,rfl,by omega,hR,WinI.refl _ _,hs,by show _ = _;simp [val],Gb.refl _ _⟩
 case round =>
  obtain ⟨i,c,R',hi,rfl,rfl,hc,hR',hW,hs',hv,hgb⟩ := hrel
  by_cases hin : i < D.length + 1
  ·have hiR : off + i < R.length := by omega
   have hiR' : off + i < R'.length := by have := hW.out.len;omega
   have e3 := hR'.cellV hiR'
   have e4 := hR'.frozen (off + i)
   have hy := small_get hs' hiR'
   obtain ⟨y,hyy⟩ : ∃ y,y = R'[off + i] := ⟨_,rfl⟩
   rw [← hyy] at e3 hy
   replace hyy := hide hyy
   by_cases hid : i < D.length
   ·obtain ⟨b,o2,rfl,hb,hcell⟩ := hr.at_ hid
    have hbg : b ≠ g := fun e => hne (by rw [e];rfl)
    have e1 := Gb.cellOf hgb (hcell i hid) (fun e => hbg (by simpa using e))
    have hxs := small_get hDs hid
    have hxx := hide (val_take_succ D i hid)
    obtain ⟨x,hxe⟩ : ∃ x,x = D[i] := ⟨_,rfl⟩
    rw [← hxe] at e1 hxs hxx
    obtain ⟨t,ht⟩ : ∃ t,t = c + y + x := ⟨_,rfl⟩
    have et : ((c : Int) + (y : Int) + (x : Int)) = (t : Int) := by omega
    have et2 : ((c : Int) + ((y : Int) + (x : Int))) = (t : Int) := by omega
    clear hcell hxe
    have htb : t < 18446744073709551616 := by omega
    have hqc : t / 4294967296 ≤ 1 := by omega
    have hst := hide (rest_step (D := D) hW.out hiR hxx.out hv.out hyy.out ht)
    have htm : t % 4294967296 < 4294967296 := by omega
    replace ht := hide ht
    clear hv
    go_wp2
    go_roundw
    case rel =>
     refine ⟨i + 1,t / 4294967296,R'.set (off + i) (t % 4294967296),by omega,by go_num,by go_num,hqc,?_,hW.out.set hiR _,small_set hs' _ htm,hst,Gb.set hgb (.inl rfl) _⟩
     have := hR'.setV (off + i) (t % 4294967296)
     exact this
    case measure => simp [intOf];omega
   ·have hid' : D.length ≤ i := by omega
    have hxx := hide (take_more hid')
    obtain ⟨t,ht⟩ : ∃ t,t = c + y + 0 := ⟨_,rfl⟩
    have et : ((c : Int) + (y : Int)) = (t : Int) := by omega
    have htb : t < 18446744073709551616 := by omega
    have hqc : t / 4294967296 ≤ 1 := by omega
    have hst := hide (rest_step (D := D) hW.out hiR hxx.out hv.out hyy.out ht)
    have htm : t % 4294967296 < 4294967296 := by omega
    replace ht := hide ht
    clear hv
    go_wp2
    go_roundw
    case rel =>
     refine ⟨i + 1,t / 4294967296,R'.set (off + i) (t % 4294967296),by omega,by go_num,by go_num,hqc,?_,hW.out.set hiR _,small_set hs' _ htm,hst,Gb.set hgb (.inl rfl) _⟩
     have := hR'.setV (off + i) (t % 4294967296)
     exact this
    case measure => simp [intOf];omega
  ·obtain rfl : i = D.length + 1 := by omega
   have h1 := hv.out
   rw [List.take_of_length_le (show D.length ≤ D.length + 1 by omega)] at h1
   replace h1 := hide h1
   clear hv
   go_wp2
   go_end0
   exact ⟨c,R',rfl,hR',hW.out,hs',h1.out,hgb⟩
theorem nadd_step {X Y P : List Nat} {k c t x y : Nat} (hk : k < P.length) (hx : val (X.take (k + 1)) = val (X.take k) + 4294967296 ^ k * y) (hy : val (Y.take (k + 1)) = val (Y.take k) + 4294967296 ^ k * x) (h : val (P.take k) + 4294967296 ^ k * c = val (X.take k) + val (Y.take k)) (ht : t = c + y + x) :
  val ((P.set k (t % 4294967296)).take (k + 1)) + 4294967296 ^ (k + 1) * (t / 4294967296) = val (X.take (k + 1)) + val (Y.take (k + 1)) := by
 have h1 := val_take_succ (P.set k (t % 4294967296)) k (by rw [List.length_set];exact hk)
 rw [List.getElem_set_self,List.take_set_of_le (Nat.le_refl k)] at h1
 rw [h1,hx,hy,Nat.pow_succ]
 exact add_alg h ht
theorem nadd_end {X Y P : List Nat} {c : Nat} (hP : P.length = X.length + 1) (hy : Y.length ≤ X.length) (h : val (P.take X.length) + 4294967296 ^ X.length * c = val (X.take X.length) + val (Y.take X.length)) : val (P.set X.length c) = val X + val Y := by
 have h1 := val_take_succ (P.set X.length c) X.length (by rw [List.length_set];omega)
 rw [List.getElem_set_self,List.take_set_of_le (Nat.le_refl _),List.take_of_length_le (by rw [List.length_set];omega)] at h1
 rw [List.take_of_length_le (Nat.le_refl X.length),List.take_of_length_le hy] at h
 rw [h1]
 exact h
set_option maxHeartbeats 4000000 in
set_option maxRecDepth 100000 in
theorem add_core (va vb : Value) (la lb : List Nat) (m n : Nat) (w : World) (hA : Hid (la = limbs m)) (hB : Hid (lb = limbs n)) (ha : Rd U32 w va la) (hb : Rd U32 w vb lb) (hm : la.length ≤ 64) (hn : lb.length ≤ 64) :
  Calls Tryz.prog 38 #[.agg #[va],.agg #[vb]] w (Nat2 (m + n) w) := by
 obtain ⟨aa,ca,rfl,hla,hca,hra⟩ := Rd.form ha
 obtain ⟨ab,cb,rfl,hlb,hcb,hrb⟩ := Rd.form hb
 have hsa : Small la := by rw [hA.out];exact small_limbs m
 have hsb : Small lb := by rw [hB.out];exact small_limbs n
 have hvA : Hid (val la = m) := by show _ = _;rw [hA.out,val_limbs]
 have hvB : Hid (val lb = n) := by show _ = _;rw [hB.out,val_limbs]
 go_enter Tryz.func38,Tryz.ntmps38
 go_wp2_with fail
 refine (valid _ m _ (by show Rd _ _ _ _;rw [← hA.out];exact ((ha.alloc _).alloc _).alloc _) (by rw [← hA.out];exact hm)).mono ?_
 rintro e w1 ⟨rfl,hb1⟩
 have hz1 : w.heap.size + 2 < w1.heap.size := by have := hb1.size;simp at this;omega
 have hbw1 := Bel.three _ _ _ hb1
 have c10 : w1.cell? ⟨w.heap.size,0,none⟩ = some (.slice aa la.length ca) := Bel.cellOf hb1 (by go_simp)
 have c11 : w1.cell? ⟨w.heap.size + 1,0,none⟩ = some (.slice ab lb.length cb) := Bel.cellOf hb1 (by go_simp)
 have c12 : w1.cell? ⟨w.heap.size + 1 + 1,0,none⟩ = some (.slice none 0 0) := Bel.cellOf hb1 (by go_simp)
 have f12 : w1.frozen? ⟨w.heap.size + 1 + 1,0,none⟩ = false := Bel.frozenOf hb1 (v := .slice none 0 0) (by go_simp) (by go_simp)
 clear hb1
 go_wp2_with fail
 refine (valid _ n _ (by show Rd _ _ _ _;rw [← hB.out];exact hb.below hbw1) (by rw [← hB.out];exact hn)).mono ?_
 rintro e w2 ⟨rfl,hb2⟩
 have hz2 : w.heap.size + 2 < w2.heap.size := by have := hb2.size;omega
 have hbw2 := Bel.to hbw1 hb2
 have c20 := Bel.cellOf hb2 c10
 have c21 := Bel.cellOf hb2 c11
 have c22 := Bel.cellOf hb2 c12
 have f22 := Bel.frozenOf hb2 c12 f12
 clear hb2 c10 c11 c12 f12 hbw1 hz1
 clear ha hb
 by_cases hlt : la.length < lb.length
 ·have hlti : ((la.length : Nat) : Int) < ((lb.length : Nat) : Int) := by omega
  go_wp2
  go_quiet (fail)
  rename_i nq
  obtain ⟨w9,hw9⟩ : ∃ w9,w9 = w2.drewN nq := ⟨_,rfl⟩
  have c20 : w9.cell? ⟨w.heap.size,0,none⟩ = some (.slice aa la.length ca) := by rw [hw9];exact c20
  have c21 : w9.cell? ⟨w.heap.size + 1,0,none⟩ = some (.slice ab lb.length cb) := by rw [hw9];exact c21
  have c22 : w9.cell? ⟨w.heap.size + 1 + 1,0,none⟩ = some (.slice none 0 0) := by rw [hw9];exact c22
  have f22 : w9.frozen? ⟨w.heap.size + 1 + 1,0,none⟩ = false := by rw [hw9];exact f22
  have hbw2 : Below w.heap.size w w9 := by rw [hw9];exact Bel.drN hbw2 _
  have hz2 : w.heap.size + 2 < w9.heap.size := by rw [hw9];exact hz2
  rw [← hw9]
  clear hw9
  obtain ⟨w2,hw2⟩ : ∃ w2,w2 = w9 := ⟨_,rfl⟩
  rw [← hw2] at c20 c21 c22 f22 hbw2 hz2 ⊢
  clear hw2
  go_wp2_with (with_reducible refine wpList_make_row _ rfl _ _ 28 rfl 68 (.int .u32 0) 4 Tryz.underlying28 infoU32 rfl .i64 .i64 _ _ (lb.length + 1) (lb.length + 1) rfl rfl (by omega) (by omega) (Nat.le_refl _) (by omega) (by omega) ?_;intro w3 hrow hb3 hz3)
  have hbw3 := Bel.to hbw2 hb3
  have c32 := Bel.cellOf hb3 c22
  have f32 := Bel.frozenOf hb3 c22 f22
  obtain ⟨g,hg⟩ : ∃ g,g = w2.heap.size := ⟨_,rfl⟩
  rw [← hg] at hrow hz3 ⊢
  have hg2 : w.heap.size + 2 < g := by omega
  clear hb3 c20 c21 c22 f22 hbw2 hz2 hg
  go_loopw [9,38] (fun tc ti wr => ∃ (k c : Nat) (P : List Nat),k ≤ lb.length ∧ tc = .int .u64 c ∧ ti = .int .i64 k ∧ c ≤ 1 ∧ Row wr g 68 (P.map U32) ∧ Hid (P.length = lb.length + 1) ∧ Small P ∧ Hid (val (P.take k) + 4294967296 ^ k * c = val (lb.take k) + val (la.take k)) ∧ w3.grownBy wr (some g)) (fun _ i _ => lb.length - (intOf i).toNat)
  case atStart =>
   exact ⟨0,0,List.replicate (lb.length + 1) 0,Nat.zero_le _,rfl,rfl,by omega,by rw [List.map_replicate];exact hrow,by show _ = _;simp,small_zeros _,by show _ = _;simp [val],Gb.refl _ _⟩
  case round =>
   obtain ⟨k,c,P,hk,rfl,rfl,hc,hP,hPl,hPs,hPv,hgb⟩ := hrel
   by_cases hkl : k < lb.length
   ·obtain ⟨bx,ox,rfl,hbx,hcellx⟩ := hrb.at_ hkl
    have e1 := Gb.cellOf hgb (Bel.cellOf hbw3 (hcellx k hkl)) (by omega)
    have hx := small_get hsb hkl
    have hPlo := hPl.out
    have hkP : k < P.length := by omega
    have e3 := hP.cellV hkP
    have e4 := hP.frozen k
    have hxs := val_take_succ lb k hkl
    obtain ⟨y,hy⟩ : ∃ y,y = lb[k] := ⟨_,rfl⟩
    rw [← hy] at e1 hx hxs
    replace hxs := hide hxs
    clear hcellx hPlo hy
    by_cases hky : k < la.length
    ·obtain ⟨by_,oy,rfl,hby,hcelly⟩ := hra.at_ hky
     have e2 := Gb.cellOf hgb (Bel.cellOf hbw3 (hcelly k hky)) (by omega)
     have hxb := small_get hsa hky
     have hys := val_take_succ la k hky
     obtain ⟨x,hxx⟩ : ∃ x,x = la[k] := ⟨_,rfl⟩
     rw [← hxx] at e2 hxb hys
     replace hys := hide hys
     clear hcelly hxx
     obtain ⟨t,ht⟩ : ∃ t,t = c + y + x := ⟨_,rfl⟩
     have et : ((c : Int) + (y : Int) + (x : Int)) = (t : Int) := by omega
     have et2 : ((c : Int) + ((y : Int) + (x : Int))) = (t : Int) := by omega
     have htb : t < 18446744073709551616 := by omega
     have hqc : t / 4294967296 ≤ 1 := by omega
     have htm : t % 4294967296 < 4294967296 := by omega
     have hst := hide (nadd_step hkP hxs.out hys.out hPv.out ht)
     replace ht := hide ht
     clear hPv
     go_wp2
     go_roundw
     case rel =>
      refine ⟨k + 1,t / 4294967296,P.set k (t % 4294967296),by omega,by go_num,by go_num,hqc,?_,by show _ = _;rw [List.length_set];exact hPl.out,small_set hPs _ htm,hst,Gb.set hgb (.inl rfl) _⟩
      exact hP.setV k (t % 4294967296)
     case measure => simp [intOf];omega
    ·have hys := hide (take_more (show la.length ≤ k by omega))
     obtain ⟨t,ht⟩ : ∃ t,t = c + y + 0 := ⟨_,rfl⟩
     have et : ((c : Int) + (y : Int)) = (t : Int) := by omega
     have htb : t < 18446744073709551616 := by omega
     have hqc : t / 4294967296 ≤ 1 := by omega
     have htm : t % 4294967296 < 4294967296 := by omega
     have hst := hide (nadd_step hkP hxs.out hys.out hPv.out ht)
     replace ht := hide ht
     clear hPv
     go_wp2
     go_roundw
     case rel =>
      refine ⟨k + 1,t / 4294967296,P.set k (t % 4294967296),by omega,by go_num,by go_num,hqc,?_,by show _ = _;rw [List.length_set];exact hPl.out,small_set hPs _ htm,hst,Gb.set hgb (.inl rfl) _⟩
      exact hP.setV k (t % 4294967296)
     case measure => simp [intOf];omega
   ·obtain rfl : k = lb.length := by omega
    have hPlo := hPl.out
    have hkP : lb.length < P.length := by omega
    have e3 := hP.cellV hkP
    have e4 := hP.frozen lb.length
    have hfin := hide (nadd_end hPl.out (show la.length ≤ lb.length by omega) hPv.out)
    have hP2 := hP.setV lb.length c
    have hgb2 := Gb.set hgb (p := ⟨g,lb.length,none⟩) (.inl rfl) (.int .u32 (c : Int))
    have c42 := Gb.cellOf hgb2 c32 (by omega)
    have f42 := (Gb.frozenOf hgb2 (b := w.heap.size + 1 + 1) (o := 0) (by omega) (by omega)).trans f32
    have hPs2 := small_set hPs lb.length (show c < 4294967296 by omega)
    have hrd := hP2.rdAll (n := lb.length + 1) (c := lb.length + 1) (by rw [List.length_set];exact hPlo.symm) (Nat.le_refl _) (by omega)
    have hbel3 := Gb.bel hbw3 hgb2 (by omega)
    have cB := hide (bounded _ (P.set lb.length c) _ hrd hPs2)
    rw [hfin.out] at cB
    clear hPlo hPv hP2 hgb2 hrd
    go_wp2_with fail
    refine cB.out.mono ?_
    rintro e w5 ⟨u,cc,rfl,hcc,hu,hb5⟩
    have c52 := Bel.cellOf hb5 c42
    have f52 := Bel.frozenOf hb5 c42 f42
    have hu' := hu.setNe c52 (fun _ h => by cases h) u
    have hbel := Bel.st (Bel.to hbel3 hb5) (p := ⟨w.heap.size + 1 + 1,0,none⟩) (by simp only [];omega) u
    have hsum : val lb + val la = m + n := by rw [hvA.out,hvB.out,Nat.add_comm]
    rw [hsum] at hcc hu'
    obtain ⟨ao,n0,cp,rfl⟩ := Rd.shape hu
    go_wp2
    refine bodyPost_ret (v := .tuple #[.agg #[.slice ao n0 cp],.int .i64 cc]) (by simp [results,Tryz.results38,go_sem,c52]) rfl ⟨_,cc,rfl,hcc,hu',hbel⟩
 ·have hlti : ¬ ((la.length : Nat) : Int) < ((lb.length : Nat) : Int) := by omega
  go_wp2
  go_quiet (fail)
  rename_i nq
  obtain ⟨w9,hw9⟩ : ∃ w9,w9 = w2.drewN nq := ⟨_,rfl⟩
  have c20 : w9.cell? ⟨w.heap.size,0,none⟩ = some (.slice aa la.length ca) := by rw [hw9];exact c20
  have c21 : w9.cell? ⟨w.heap.size + 1,0,none⟩ = some (.slice ab lb.length cb) := by rw [hw9];exact c21
  have c22 : w9.cell? ⟨w.heap.size + 1 + 1,0,none⟩ = some (.slice none 0 0) := by rw [hw9];exact c22
  have f22 : w9.frozen? ⟨w.heap.size + 1 + 1,0,none⟩ = false := by rw [hw9];exact f22
  have hbw2 : Below w.heap.size w w9 := by rw [hw9];exact Bel.drN hbw2 _
  have hz2 : w.heap.size + 2 < w9.heap.size := by rw [hw9];exact hz2
  rw [← hw9]
  clear hw9
  obtain ⟨w2,hw2⟩ : ∃ w2,w2 = w9 := ⟨_,rfl⟩
  rw [← hw2] at c20 c21 c22 f22 hbw2 hz2 ⊢
  clear hw2
  go_wp2_with (with_reducible refine wpList_make_row _ rfl _ _ 28 rfl 68 (.int .u32 0) 4 Tryz.underlying28 infoU32 rfl .i64 .i64 _ _ (la.length + 1) (la.length + 1) rfl rfl (by omega) (by omega) (Nat.le_refl _) (by omega) (by omega) ?_;intro w3 hrow hb3 hz3)
  have hbw3 := Bel.to hbw2 hb3
  have c32 := Bel.cellOf hb3 c22
  have f32 := Bel.frozenOf hb3 c22 f22
  obtain ⟨g,hg⟩ : ∃ g,g = w2.heap.size := ⟨_,rfl⟩
  rw [← hg] at hrow hz3 ⊢
  have hg2 : w.heap.size + 2 < g := by omega
  clear hb3 c20 c21 c22 f22 hbw2 hz2 hg
  go_loopw [9,38] (fun tc ti wr => ∃ (k c : Nat) (P : List Nat),k ≤ la.length ∧ tc = .int .u64 c ∧ ti = .int .i64 k ∧ c ≤ 1 ∧ Row wr g 68 (P.map U32) ∧ Hid (P.length = la.length + 1) ∧ Small P ∧ Hid (val (P.take k) + 4294967296 ^ k * c = val (la.take k) + val (lb.take k)) ∧ w3.grownBy wr (some g)) (fun _ i _ => la.length - (intOf i).toNat)
  case atStart =>
   exact ⟨0,0,List.replicate (la.length + 1) 0,Nat.zero_le _,rfl,rfl,by omega,by rw [List.map_replicate];exact hrow,by show _ = _;simp,small_zeros _,by show _ = _;simp [val],Gb.refl _ _⟩
  case round =>
   obtain ⟨k,c,P,hk,rfl,rfl,hc,hP,hPl,hPs,hPv,hgb⟩ := hrel
   by_cases hkl : k < la.length
   ·obtain ⟨bx,ox,rfl,hbx,hcellx⟩ := hra.at_ hkl
    have e1 := Gb.cellOf hgb (Bel.cellOf hbw3 (hcellx k hkl)) (by omega)
    have hx := small_get hsa hkl
    have hPlo := hPl.out
    have hkP : k < P.length := by omega
    have e3 := hP.cellV hkP
    have e4 := hP.frozen k
    have hxs := val_take_succ la k hkl
    obtain ⟨y,hy⟩ : ∃ y,y = la[k] := ⟨_,rfl⟩
    rw [← hy] at e1 hx hxs
    replace hxs := hide hxs
    clear hcellx hPlo hy
    by_cases hky : k < lb.length
    ·obtain ⟨by_,oy,rfl,hby,hcelly⟩ := hrb.at_ hky
     have e2 := Gb.cellOf hgb (Bel.cellOf hbw3 (hcelly k hky)) (by omega)
     have hxb := small_get hsb hky
     have hys := val_take_succ lb k hky
     obtain ⟨x,hxx⟩ : ∃ x,x = lb[k] := ⟨_,rfl⟩
     rw [← hxx] at e2 hxb hys
     replace hys := hide hys
     clear hcelly hxx
     obtain ⟨t,ht⟩ : ∃ t,t = c + y + x := ⟨_,rfl⟩
     have et : ((c : Int) + (y : Int) + (x : Int)) = (t : Int) := by omega
     have et2 : ((c : Int) + ((y : Int) + (x : Int))) = (t : Int) := by omega
     have htb : t < 18446744073709551616 := by omega
     have hqc : t / 4294967296 ≤ 1 := by omega
     have htm : t % 4294967296 < 4294967296 := by omega
     have hst := hide (nadd_step hkP hxs.out hys.out hPv.out ht)
     replace ht := hide ht
     clear hPv
     go_wp2
     go_roundw
     case rel =>
      refine ⟨k + 1,t / 4294967296,P.set k (t % 4294967296),by omega,by go_num,by go_num,hqc,?_,by show _ = _;rw [List.length_set];exact hPl.out,small_set hPs _ htm,hst,Gb.set hgb (.inl rfl) _⟩
      exact hP.setV k (t % 4294967296)
     case measure => simp [intOf];omega
    ·have hys := hide (take_more (show lb.length ≤ k by omega))
     obtain ⟨t,ht⟩ : ∃ t,t = c + y + 0 := ⟨_,rfl⟩
     have et : ((c : Int) + (y : Int)) = (t : Int) := by omega
     have htb : t < 18446744073709551616 := by omega
     have hqc : t / 4294967296 ≤ 1 := by omega
     have htm : t % 4294967296 < 4294967296 := by omega
     have hst := hide (nadd_step hkP hxs.out hys.out hPv.out ht)
     replace ht := hide ht
     clear hPv
     go_wp2
     go_roundw
     case rel =>
      refine ⟨k + 1,t / 4294967296,P.set k (t % 4294967296),by omega,by go_num,by go_num,hqc,?_,by show _ = _;rw [List.length_set];exact hPl.out,small_set hPs _ htm,hst,Gb.set hgb (.inl rfl) _⟩
      exact hP.setV k (t % 4294967296)
     case measure => simp [intOf];omega
   ·obtain rfl : k = la.length := by omega
    have hPlo := hPl.out
    have hkP : la.length < P.length := by omega
    have e3 := hP.cellV hkP
    have e4 := hP.frozen la.length
    have hfin := hide (nadd_end hPl.out (show lb.length ≤ la.length by omega) hPv.out)
    have hP2 := hP.setV la.length c
    have hgb2 := Gb.set hgb (p := ⟨g,la.length,none⟩) (.inl rfl) (.int .u32 (c : Int))
    have c42 := Gb.cellOf hgb2 c32 (by omega)
    have f42 := (Gb.frozenOf hgb2 (b := w.heap.size + 1 + 1) (o := 0) (by omega) (by omega)).trans f32
    have hPs2 := small_set hPs la.length (show c < 4294967296 by omega)
    have hrd := hP2.rdAll (n := la.length + 1) (c := la.length + 1) (by rw [List.length_set];exact hPlo.symm) (Nat.le_refl _) (by omega)
    have hbel3 := Gb.bel hbw3 hgb2 (by omega)
    have cB := hide (bounded _ (P.set la.length c) _ hrd hPs2)
    rw [hfin.out] at cB
    clear hPlo hPv hP2 hgb2 hrd
    go_wp2_with fail
    refine cB.out.mono ?_
    rintro e w5 ⟨u,cc,rfl,hcc,hu,hb5⟩
    have c52 := Bel.cellOf hb5 c42
    have f52 := Bel.frozenOf hb5 c42 f42
    have hu' := hu.setNe c52 (fun _ h => by cases h) u
    have hbel := Bel.st (Bel.to hbel3 hb5) (p := ⟨w.heap.size + 1 + 1,0,none⟩) (by simp only [];omega) u
    have hsum : val la + val lb = m + n := by rw [hvA.out,hvB.out]
    rw [hsum] at hcc hu'
    obtain ⟨ao,n0,cp,rfl⟩ := Rd.shape hu
    go_wp2
    refine bodyPost_ret (v := .tuple #[.agg #[.slice ao n0 cp],.int .i64 cc]) (by simp [results,Tryz.results38,go_sem,c52]) rfl ⟨_,cc,rfl,hcc,hu',hbel⟩
theorem add_any (va vb : Value) (m n : Nat) (w : World) (ha : NV w va m) (hb : NV w vb n) (hm : (limbs m).length ≤ 64) (hn : (limbs n).length ≤ 64) :
  Calls Tryz.prog 38 #[.agg #[va],.agg #[vb]] w (Nat2 (m + n) w) := add_core va vb _ _ m n w rfl rfl ha hb hm hn
end Go.Proofs.YtldikghldcefcaaGreat
end
section
set_option linter.unusedVariables false
set_option linter.unusedSimpArgs false
namespace Go.Proofs.YtldikghldcefcaaGreat
def sumTo (f : Nat → Nat) : Nat → Nat
 | 0 => 0
 | n + 1 => sumTo f n + f n
theorem sumTo_congr {f g : Nat → Nat} {n : Nat} (h : ∀ k,k < n → f k = g k) : sumTo f n = sumTo g n := by
 induction n with
 | zero => rfl
 | succ n ih => rw [sumTo,sumTo,ih (fun k hk => h k (by omega)),h n (by omega)]
theorem sumTo_add (f g : Nat → Nat) (n : Nat) : sumTo (fun k => f k + g k) n = sumTo f n + sumTo g n := by
 induction n with
 | zero => rfl
 | succ n ih => rw [sumTo,sumTo,sumTo,ih];omega
theorem sumTo_mul (c : Nat) (f : Nat → Nat) (n : Nat) : sumTo (fun k => c * f k) n = c * sumTo f n := by
 induction n with
 | zero => rfl
 | succ n ih => rw [sumTo,sumTo,ih,Nat.mul_add]
theorem sumTo_zero (n : Nat) : sumTo (fun _ => 0) n = 0 := by
 induction n with
 | zero => rfl
 | succ n ih => rw [sumTo,ih]
theorem sumTo_const (c n : Nat) : sumTo (fun _ => c) n = n * c := by
 induction n with
 | zero => simp [sumTo]
 | succ n ih => rw [sumTo,ih,Nat.add_mul];omega
theorem sumTo_le {f g : Nat → Nat} {n : Nat} (h : ∀ k,k < n → f k ≤ g k) : sumTo f n ≤ sumTo g n := by
 induction n with
 | zero => exact Nat.le_refl _
 | succ n ih => rw [sumTo,sumTo];exact Nat.add_le_add (ih fun k hk => h k (by omega)) (h n (by omega))
theorem sumTo_one {f : Nat → Nat} {n j : Nat} (hj : j < n) (h : ∀ k,k < n → k ≠ j → f k = 0) : sumTo f n = f j := by
 induction n with
 | zero => omega
 | succ n ih =>
  rw [sumTo]
  by_cases e : j = n
  ·subst e
   rw [sumTo_congr (g := fun _ => 0) (fun k hk => h k (by omega) (by omega)),sumTo_zero,Nat.zero_add]
  ·rw [ih (by omega) (fun k hk => h k (by omega)),h n (by omega) (fun x => e x.symm),Nat.add_zero]
theorem sumTo_front (f : Nat → Nat) (n : Nat) : sumTo f (n + 1) = f 0 + sumTo (fun k => f (k + 1)) n := by
 induction n with
 | zero => simp [sumTo]
 | succ n ih => rw [sumTo,ih,sumTo];omega
theorem sumTo_rev (f : Nat → Nat) (n : Nat) : sumTo (fun k => f (n - k)) (n + 1) = sumTo f (n + 1) := by
 induction n generalizing f with
 | zero => rfl
 | succ n ih =>
  have h := ih (fun k => f (k + 1))
  rw [sumTo_front f,← h,sumTo,Nat.sub_self]
  have e : sumTo (fun k => f (n + 1 - k)) (n + 1) = sumTo (fun k => f (n - k + 1)) (n + 1) := sumTo_congr fun k hk => by
   show f _ = f _
   rw [show n + 1 - k = n - k + 1 by omega]
  rw [e]
  omega
def sumD (d : Nat) : Nat → (List Nat → Nat) → Nat
 | 0,f => f []
 | m + 1,f => sumTo (fun c => sumD d m fun x => f (c :: x)) d
theorem sumD_congr {d m : Nat} {f g : List Nat → Nat} (h : ∀ x : List Nat,x.length = m → (∀ c ∈ x,c < d) → f x = g x) : sumD d m f = sumD d m g := by
 induction m generalizing f g with
 | zero => exact h [] rfl (by simp)
 | succ m ih =>
  rw [sumD,sumD]
  refine sumTo_congr fun c hc => ih fun x hx hm => h (c :: x) (by simp [hx]) fun y hy => ?_
  rcases List.mem_cons.1 hy with rfl | hy
  ·exact hc
  ·exact hm y hy
theorem sumD_add (d m : Nat) (f g : List Nat → Nat) : sumD d m (fun x => f x + g x) = sumD d m f + sumD d m g := by
 induction m generalizing f g with
 | zero => rfl
 | succ m ih =>
  rw [sumD,sumD,sumD,← sumTo_add]
  exact sumTo_congr fun c hc => ih _ _
theorem sumD_mul (d m c : Nat) (f : List Nat → Nat) : sumD d m (fun x => c * f x) = c * sumD d m f := by
 induction m generalizing f with
 | zero => rfl
 | succ m ih =>
  rw [sumD,sumD,← sumTo_mul]
  exact sumTo_congr fun k hk => ih _
theorem sumD_zero (d m : Nat) : sumD d m (fun _ => 0) = 0 := by
 have := sumD_mul d m 0 (fun _ => 0)
 simpa using this
theorem sumD_const (d m c : Nat) : sumD d m (fun _ => c) = d ^ m * c := by
 induction m with
 | zero => simp [sumD]
 | succ m ih => rw [sumD,sumTo_congr (g := fun _ => d ^ m * c) (fun k hk => ih),sumTo_const,Nat.pow_succ];grind
theorem sumD_le {d m : Nat} {f g : List Nat → Nat} (h : ∀ x,f x ≤ g x) : sumD d m f ≤ sumD d m g := by
 induction m generalizing f g with
 | zero => exact h []
 | succ m ih => rw [sumD,sumD];exact sumTo_le fun c hc => ih fun x => h _
theorem sumD_sumTo (d m n : Nat) (f : Nat → List Nat → Nat) : sumD d m (fun x => sumTo (fun k => f k x) n) = sumTo (fun k => sumD d m (f k)) n := by
 induction n with
 | zero => simp only [sumTo];exact sumD_zero d m
 | succ n ih => simp only [sumTo];rw [sumD_add,ih]
theorem sumD_append (d a b : Nat) (f : List Nat → Nat) : sumD d (a + b) f = sumD d a (fun p => sumD d b fun s => f (p ++ s)) := by
 induction a generalizing f with
 | zero => rw [Nat.zero_add];rfl
 | succ a ih =>
  rw [show a + 1 + b = (a + b) + 1 by omega,sumD,sumD]
  exact sumTo_congr fun c hc => ih _
theorem sumD_eq {d m : Nat} {x : List Nat} (hx : x.length = m) (hm : ∀ c ∈ x,c < d) (f : List Nat → Nat) : sumD d m (fun y => if x = y then f y else 0) = f x := by
 induction m generalizing x f with
 | zero => obtain rfl := List.eq_nil_of_length_eq_zero hx;simp [sumD]
 | succ m ih =>
  cases x with
  | nil => cases hx
  | cons c x =>
   rw [sumD,sumTo_one (j := c) (hm c List.mem_cons_self)]
   ·have h := ih (x := x) (by simpa using hx) (fun y hy => hm y (List.mem_cons_of_mem _ hy)) (fun y => f (c :: y))
    rw [← h]
    refine sumD_congr fun y _ _ => ?_
    by_cases e : x = y
    ·rw [if_pos (by rw [e]),if_pos e]
    ·rw [if_neg (fun h => e (List.cons.inj h).2),if_neg e]
   ·intro k hk hkc
    rw [sumD_congr (g := fun _ => 0),sumD_zero]
    intro y _ _
    rw [if_neg (fun h => hkc (List.cons.inj h).1.symm)]
theorem sumD_filter (d m : Nat) (f : List Nat → Nat) : sumD (d + 1) m (fun x => f (x.filter (· != d))) = sumTo (fun k => choose m k * sumD d k f) (m + 1) := by
 induction m generalizing f with
 | zero => simp [sumD,sumTo,choose]
 | succ m ih =>
  rw [sumD,sumTo]
  have e1 : sumD (d + 1) m (fun x => f ((d :: x).filter (· != d))) = sumTo (fun k => choose m k * sumD d k f) (m + 1) := by
   rw [← ih]
   exact sumD_congr fun x _ _ => by simp
  have e2 : sumTo (fun c => sumD (d + 1) m fun x => f ((c :: x).filter (· != d))) d = sumTo (fun k => choose m k * sumD d (k + 1) f) (m + 1) := by
   rw [sumTo_congr (g := fun c => sumTo (fun k => choose m k * sumD d k (fun x => f (c :: x))) (m + 1))]
   ·generalize m + 1 = n
    induction n with
    | zero => simp only [sumTo];exact sumTo_zero d
    | succ n ihn =>
     simp only [sumTo]
     rw [sumTo_add,ihn,sumTo_mul]
     rfl
   ·intro c hc
    rw [← ih (fun x => f (c :: x))]
    refine sumD_congr fun x _ _ => ?_
    rw [List.filter_cons_of_pos (by simp;omega)]
  rw [e1,e2]
  have pas : ∀ n,sumTo (fun k => choose (m + 1) k * sumD d k f) (n + 1) = sumTo (fun k => choose m k * sumD d k f) (n + 1) + sumTo (fun k => choose m k * sumD d (k + 1) f) n := by
   intro n
   induction n with
   | zero => simp [sumTo,choose_zero]
   | succ n ihn =>
    rw [sumTo,ihn,sumTo.eq_def _ (n + 1 + 1),sumTo.eq_def (fun k => choose m k * sumD d (k + 1) f) (n + 1),choose_succ,Nat.add_mul]
    simp only []
    omega
  have h := pas (m + 1)
  rw [h,sumTo.eq_def _ (m + 1 + 1)]
  simp only []
  rw [choose_gt (show m < m + 1 by omega),Nat.zero_mul]
  omega
def cnt2 (d m : Nat) (P : List Nat → List Nat → Prop) [∀ x y,Decidable (P x y)] : Nat := sumD d m fun x => sumD d m fun y => if P x y then 1 else 0
theorem cnt2_congr {d m : Nat} {P Q : List Nat → List Nat → Prop} [∀ x y,Decidable (P x y)] [∀ x y,Decidable (Q x y)] (h : ∀ x y : List Nat,x.length = m → y.length = m → (∀ c ∈ x,c < d) → (∀ c ∈ y,c < d) → (P x y ↔ Q x y)) : cnt2 d m P = cnt2 d m Q := by
 unfold cnt2
 refine sumD_congr fun x hx hxm => sumD_congr fun y hy hym => ?_
 by_cases hp : P x y
 ·rw [if_pos hp,if_pos ((h x y hx hy hxm hym).1 hp)]
 ·rw [if_neg hp,if_neg (fun hq => hp ((h x y hx hy hxm hym).2 hq))]
theorem cnt2_split {d m : Nat} (P Q : List Nat → List Nat → Prop) [∀ x y,Decidable (P x y)] [∀ x y,Decidable (Q x y)] : cnt2 d m P = cnt2 d m (fun x y => P x y ∧ Q x y) + cnt2 d m (fun x y => P x y ∧ ¬ Q x y) := by
 unfold cnt2
 rw [← sumD_add]
 refine sumD_congr fun x hx hxm => ?_
 rw [← sumD_add]
 refine sumD_congr fun y hy hym => ?_
 by_cases hp : P x y <;> by_cases hq : Q x y <;> simp [hp,hq]
theorem cnt2_le {d m : Nat} (P : List Nat → List Nat → Prop) [∀ x y,Decidable (P x y)] : cnt2 d m P ≤ d ^ (2 * m) := by
 have h : cnt2 d m P ≤ sumD d m fun x => sumD d m fun y => 1 := sumD_le fun x => sumD_le fun y => by split <;> omega
 rw [sumD_congr (g := fun _ => d ^ m * 1) (fun x _ _ => sumD_const d m 1),sumD_const] at h
 rw [show 2 * m = m + m by omega,Nat.pow_add]
 rw [Nat.mul_one] at h
 exact h
theorem cnt2_true (d m : Nat) : cnt2 d m (fun _ _ => True) = d ^ (2 * m) := by
 unfold cnt2
 rw [sumD_congr (g := fun _ => d ^ m * 1) (fun x _ _ => by simp [sumD_const]),sumD_const,show 2 * m = m + m by omega,Nat.pow_add,Nat.mul_one]
theorem cnt2_eq (d m : Nat) : cnt2 d m (fun x y => x = y) = d ^ m := by
 unfold cnt2
 rw [sumD_congr (g := fun _ => 1) (fun x hx hm => sumD_eq hx hm (fun _ => 1)),sumD_const,Nat.mul_one]
def bxP : Nat → Nat → Nat
 | 0,m => if m = 0 then 1 else 0
 | d + 1,m => sumTo (fun j => choose m j * choose m j * bxP d (m - j)) (m + 1)
theorem perm_filter {d m : Nat} {x y : List Nat} (hx : x.length = m) (hy : y.length = m) : x.Perm y ↔ (x.filter (· != d)).Perm (y.filter (· != d)) := by
 constructor
 ·exact fun h => h.filter _
 ·intro h
  refine List.perm_iff_count.2 fun a => ?_
  by_cases ha : a = d
  ·subst ha
   have key : ∀ l : List Nat,l.count a + (l.filter (· != a)).length = l.length := by
    intro l
    induction l with
    | nil => rfl
    | cons c l ih =>
     by_cases hc : c = a
     ·subst hc;rw [List.count_cons_self,List.filter_cons_of_neg (by simp),List.length_cons];omega
     ·rw [List.count_cons_of_ne hc,List.filter_cons_of_pos (by simpa using hc),List.length_cons,List.length_cons];omega
   have h1 := key x
   have h2 := key y
   have h3 := h.length_eq
   omega
  ·have h1 := h.count_eq a
   rw [List.count_filter (by simpa using ha),List.count_filter (by simpa using ha)] at h1
   exact h1
theorem bxP_count (d m : Nat) : bxP d m = cnt2 d m fun x y => x.Perm y := by
 induction d generalizing m with
 | zero =>
  cases m with
  | zero => simp [bxP,cnt2,sumD]
  | succ m => simp [bxP,cnt2,sumD,sumTo]
 | succ d ih =>
  have e1 : cnt2 (d + 1) m (fun x y => x.Perm y) = sumD (d + 1) m fun x => sumD (d + 1) m fun y => (fun u v : List Nat => if u.Perm v then 1 else 0) (x.filter (· != d)) (y.filter (· != d)) := by
   unfold cnt2
   refine sumD_congr fun x hx _ => sumD_congr fun y hy _ => ?_
   by_cases h : x.Perm y
   ·rw [if_pos h];simp only [];rw [if_pos ((perm_filter hx hy).1 h)]
   ·rw [if_neg h];simp only [];rw [if_neg (fun k => h ((perm_filter hx hy).2 k))]
  rw [e1,sumD_congr (g := fun x => (fun u => sumTo (fun k => choose m k * sumD d k fun v => if u.Perm v then 1 else 0) (m + 1)) (x.filter (· != d)))]
  rotate_left
  ·intro x _ _
   exact sumD_filter d m fun v => if (x.filter (· != d)).Perm v then 1 else 0
  rw [sumD_filter d m fun u => sumTo (fun k => choose m k * sumD d k fun v => if u.Perm v then 1 else 0) (m + 1)]
  have e2 : ∀ k,k < m + 1 → choose m k * sumD d k (fun u => sumTo (fun j => choose m j * sumD d j fun v => if u.Perm v then 1 else 0) (m + 1)) = choose m k * choose m k * bxP d k := by
   intro k hk
   rw [ih,Nat.mul_assoc]
   congr 1
   unfold cnt2
   rw [← sumD_mul]
   refine sumD_congr fun u hu _ => ?_
   rw [sumTo_one (j := k) hk]
   intro j hj hjk
   rw [sumD_congr (g := fun _ => 0),sumD_zero,Nat.mul_zero]
   intro v hv _
   rw [if_neg (fun h => hjk (by rw [← hu,← hv];exact h.length_eq.symm))]
  rw [sumTo_congr e2,bxP,← sumTo_rev]
  refine sumTo_congr fun k hk => ?_
  show choose m (m - k) * choose m (m - k) * bxP d (m - (m - k)) = choose m k * choose m k * bxP d k
  rw [choose_symm (by omega),show m - (m - k) = k by omega]
end Go.Proofs.YtldikghldcefcaaGreat
end
section
set_option linter.unusedVariables false
set_option linter.unusedSimpArgs false
namespace Go.Proofs.YtldikghldcefcaaGreat
open Go.RowKit
def firstGo (p : TierD → Bool) : List TierD → Nat → Int
 | [],_ => -1
 | t :: r,i => if p t = true then (i : Int) else firstGo p r (i + 1)
def hitT (m x b : Int) (t : TierD) : Bool := decide (t.main ≤ m) && decide (t.extra ≤ x) && decide (t.bonus ≤ b)
def wonC (g : GameD) (m x b : Int) : Int := firstGo (hitT m x b) g.tiers 0
set_option maxHeartbeats 4000000 in
set_option maxRecDepth 100000 in
theorem owon_any (g : GameD) (av tv : Value) (ms : List AddonM) (m x b' : Int) (w : World) (rg : GameR w av tv ms g) :
  Calls Tryz.prog 66 #[gameVal g av tv,.int .i64 m,.int .i64 x,.int .i64 b'] w (IntB (wonC g m x b') w) := by
 have hT := hide rg.2.2
 obtain ⟨R,hR⟩ : ∃ R,R = wonC g m x b' := ⟨_,rfl⟩
 rw [← hR]
 have hR0 : Hid (firstGo (hitT m x b') (g.tiers.drop 0) 0 = R) := by show _ = _;rw [hR];rfl
 clear hR
 obtain ⟨aa,ac,rfl,hal,ham⟩ := rg.1.1.shape
 obtain ⟨ta,tc,rfl,htl,htm⟩ := rg.2.2.shape
 obtain ⟨an,han⟩ : ∃ an,an = ms.length := ⟨_,rfl⟩
 obtain ⟨tn,htn⟩ : ∃ tn,tn = g.tiers.length := ⟨_,rfl⟩
 have htb : g.tiers.length ≤ 9223372036854775807 := by
  obtain ⟨_,c,_,h1,h2,_⟩ := hT.out
  unfold maxLen at h2
  omega
 rw [← htn] at hT htb
 rw [← han,← htn]
 have htbi : (tn : Int) ≤ 9223372036854775807 := by omega
 replace htn := hide htn
 clear rg hal htl ham htm han
 unfold gameVal
 go_enter Tryz.func66,Tryz.ntmps66
 go_upto_region 1 with (fail)
 obtain ⟨W,hW⟩ : ∃ W,W = w.alloc (Obj.cells #[.string g.name,.int .i64 g.kind,.int .i64 g.price,.int .i64 g.main,.int .i64 g.of,.int .i64 g.bonus,.int .i64 g.bonusOf,.int .i64 g.extra,.int .i64 g.draws,.int .i64 g.system,.int .i64 g.days,.int .i64 g.at_,.int .i64 g.close,.int .i64 g.cancel,.int .i64 g.expiry,.int .i64 g.pool,.int .i64 g.reserve,.int .i64 g.round,.int .i64 g.cap,.int .i64 g.rolls,(.slice aa an ac),(.slice ta tn tc)] 25) := ⟨_,rfl⟩
 have bW : Below w.heap.size w W := by rw [hW];exact Bel.al (Below.refl _ _) _
 have r0 : GameAt W w.heap.size g (.slice aa an ac) (.slice ta tn tc) := by rw [hW];exact Row.new _ _ _
 rw [← hW]
 clear hW
 have ct := r0.tiers
 clear r0
 go_wp2
 go_loopw [14] (fun ti wr => ∃ (i : Nat),i ≤ tn ∧ ti = .int .i64 (i : Int) ∧ Hid (firstGo (hitT m x b') (g.tiers.drop i) i = R) ∧ Below W.heap.size W wr) (fun ti _ => tn - (intOf ti).toNat)
 case atStart => exact ⟨0,Nat.zero_le _,rfl,hR0,Below.refl _ _⟩
 case round =>
  obtain ⟨i,hi,rfl,hG,hB⟩ := hrel
  by_cases hlt : i < tn
  ·have hlt2 := hide hlt
   have hil : i < g.tiers.length := by rw [← htn.out];exact hlt
   obtain ⟨b,off,rfl,hbb,hcell⟩ := (hT.out.below (Bel.to bW hB)).at_ hil
   have hG2 := hG.out
   rw [List.drop_eq_getElem_cons hil,firstGo] at hG2
   have i2 : (i : Int) < (tn : Int) := by omega
   obtain ⟨t,ht⟩ : ∃ t,t = g.tiers[i] := ⟨_,rfl⟩
   have hti : g.tiers[i]? = some t := by rw [ht];exact List.getElem?_eq_getElem hil
   have hrange : wr.rangeAt b (off + i * 6) (tierCells t) := fun j u hu => hcell i t hti j u hu
   rw [← ht] at hG2
   clear hcell hti ht
   obtain ⟨tm,tb,tx,tmode,tkind,tvalue⟩ := t
   unfold tierCells at hrange
   simp only [] at hrange
   have hthere := hide (show (wr.alloc (.cells #[.int .i64 0,.int .i64 0,.int .i64 0,.int .i64 0,.int .i64 0,.int .i64 0] 73)).there wr.heap.size 0 6 from Row.there (Row.newOf (cs := [.int .i64 0,.int .i64 0,.int .i64 0,.int .i64 0,.int .i64 0,.int .i64 0]) _ rfl))
   have i1 : (0 : Int) ≤ (i : Int) := by omega
   go_upto_region 4 with (first | (refine wpList_load_mid rfl 73 _ rfl b (off + i * 6) rfl [.int .i64 tm,.int .i64 tb,.int .i64 tx,.int .i64 tmode,.int .i64 tkind,.int .i64 tvalue] _ hrange Tryz.underlying73 rfl (by kernel_rfl) ?_) | (refine wpList_store_mid rfl 73 _ _ rfl wr.heap.size 0 _ rfl rfl hthere.out (by kernel_rfl) (by rfl) ?_) | fail)
   obtain ⟨W1,hW1⟩ : ∃ W1,W1 = wr.alloc (.cells #[.int .i64 tm,.int .i64 tb,.int .i64 tx,.int .i64 tmode,.int .i64 tkind,.int .i64 tvalue] 73) := ⟨_,rfl⟩
   have hb1 : Below wr.heap.size wr W1 := by rw [hW1];exact Bel.al (Below.refl _ _) _
   have hw1 : Row W1 wr.heap.size 73 [.int .i64 tm,.int .i64 tb,.int .i64 tx,.int .i64 tmode,.int .i64 tkind,.int .i64 tvalue] := by rw [hW1];exact Row.newOf _ rfl
   rw [← hW1]
   clear hW1 hthere hrange
   have q0 : W1.cell? ⟨wr.heap.size,0,none⟩ = some (.int .i64 tm) := (hw1.cell? 0).trans rfl
   have q1 : W1.cell? ⟨wr.heap.size,1,none⟩ = some (.int .i64 tb) := (hw1.cell? 1).trans rfl
   have q2 : W1.cell? ⟨wr.heap.size,2,none⟩ = some (.int .i64 tx) := (hw1.cell? 2).trans rfl
   have q3 : W1.cell? ⟨wr.heap.size,3,none⟩ = some (.int .i64 tmode) := (hw1.cell? 3).trans rfl
   clear hw1
   clear hG
   by_cases h1 : tm ≤ m
   ·by_cases h2 : tx ≤ x
    ·by_cases h3 : tb ≤ b'
     ·have hfin : Hid ((i : Int) = R) := by
       show _ = _
       rw [← hG2,if_pos]
       unfold hitT
       simp [h1,h2,h3]
      clear hG2
      go_wp2
      go_ret
      exact ⟨by rw [← hfin.out];rfl,Bel.to bW (Bel.to hB hb1)⟩
     ·skip
      have hG3 : Hid (firstGo (hitT m x b') (g.tiers.drop (i + 1)) (i + 1) = R) := by
       show _ = _
       rw [← hG2,if_neg]
       unfold hitT
       simp only []
       simp [h3]
      clear hG2
      go_wp2
      go_roundw
      case rel => exact ⟨i + 1,by have := hlt2.out;omega,by (have := hlt2.out;go_num),hG3,Bel.to hB hb1⟩
      case measure => simp [intOf];have := hlt2.out;omega
    ·skip
     have hG3 : Hid (firstGo (hitT m x b') (g.tiers.drop (i + 1)) (i + 1) = R) := by
      show _ = _
      rw [← hG2,if_neg]
      unfold hitT
      simp only []
      simp [h2]
     clear hG2
     go_wp2
     go_roundw
     case rel => exact ⟨i + 1,by have := hlt2.out;omega,by (have := hlt2.out;go_num),hG3,Bel.to hB hb1⟩
     case measure => simp [intOf];have := hlt2.out;omega
   ·skip
    have hG3 : Hid (firstGo (hitT m x b') (g.tiers.drop (i + 1)) (i + 1) = R) := by
     show _ = _
     rw [← hG2,if_neg]
     unfold hitT
     simp only []
     simp [h1]
    clear hG2
    go_wp2
    go_roundw
    case rel => exact ⟨i + 1,by have := hlt2.out;omega,by (have := hlt2.out;go_num),hG3,Bel.to hB hb1⟩
    case measure => simp [intOf];have := hlt2.out;omega
  ·obtain rfl : i = tn := by omega
   have hfin : Hid ((-1 : Int) = R) := by
    show _ = _
    rw [← hG.out,List.drop_eq_nil_of_le (by rw [← htn.out];exact Nat.le_refl _)]
    rfl
   clear hG
   go_wp2
   go_ret
   exact ⟨by rw [← hfin.out];rfl,Bel.to bW hB⟩
end Go.Proofs.YtldikghldcefcaaGreat
end
section
namespace Go.Proofs
open Go.Shelf
def Tryz.lays133_ren : Go.Shelf.Ren := ⟨fun | 133 => 127 | 128 => 137 | n => n,fun | 51 => 68 | 3 => 3 | 4 => 4 | 46 => 106 | 5 => 5 | 9 => 9 | n => n,fun | n => n⟩
theorem Tryz.lays133 : Go.Proofs.Lays.n133 Tryz.prog Tryz.lays133_ren := {
 mixed := by kernel_rfl
 f128 := Tryz.func137.trans (congrArg some (by kernel_rfl))
 f133 := Tryz.func127.trans (congrArg some (by kernel_rfl))
 t3 := Tryz.underlying3
 a3 := Tryz.isAgg3
 z3 := Tryz.sizeOf3
 v3 := Tryz.zeroValue3
 t4 := Tryz.underlying4
 a4 := Tryz.isAgg4
 z4 := Tryz.sizeOf4
 v4 := Tryz.zeroValue4
 t5 := Tryz.underlying5
 a5 := Tryz.isAgg5
 z5 := Tryz.sizeOf5
 v5 := Tryz.zeroValue5
 t9 := Tryz.underlying9
 a9 := Tryz.isAgg9
 z9 := Tryz.sizeOf9
 v9 := Tryz.zeroValue9
 t46 := Tryz.underlying106
 a46 := Tryz.isAgg106
 z46 := Tryz.sizeOf106
 v46 := Tryz.zeroValue106
 t51 := Tryz.underlying68
 a51 := Tryz.isAgg68
 z51 := Tryz.sizeOf68
 v51 := Tryz.zeroValue68 }
theorem Tryz.bits_LeadingZeros32 (x : Int) (w : World) (h0 : 0 ≤ x) (h1 : x ≤ 4294967295) :
  Calls Tryz.prog 127 #[.int .u32 x] w fun e w' => e = .returned (.int .i64 (32 - (Lib.bitLen x.toNat : Int))) ∧ w' = w := Any.bits_LeadingZeros32 Tryz.lays133 x w h0 h1
end Go.Proofs
end
section
set_option linter.unusedVariables false
set_option linter.unusedSimpArgs false
namespace Go.Proofs.YtldikghldcefcaaGreat
open Go.RowKit
theorem or_low {x y s : Nat} (hx : x < 2 ^ s) (hxy : x + y * 2 ^ s < 18446744073709551616) : bits BinOp.or IntKind.u64 (x : Int) ((y * 2 ^ s : Nat) : Int) = ((x + y * 2 ^ s : Nat) : Int) := by
 have h := Nat.two_pow_add_eq_or_of_lt (i := s) (b := x) hx y
 rw [u64_or_nat _ _ (by omega) (by omega),Nat.or_comm,Nat.mul_comm y,← h,Nat.add_comm]
theorem shl_bound {x s : Nat} (hx : x < 4294967296) (hs : s < 32) : x * 2 ^ s < 9223372036854775808 := by
 have h1 : (2 : Nat) ^ s ≤ 2 ^ 31 := Nat.pow_le_pow_right (by omega) (by omega)
 have h2 : x * 2 ^ s ≤ 4294967295 * 2147483648 := Nat.mul_le_mul (by omega) h1
 omega
theorem shift_alg {B P S v c x u t : Nat} (h : v + P * c = u * S) (ht : t = c + x * S) (hB : B * (t / B) + t % B = t) : v + P * (t % B) + P * B * (t / B) = (u + P * x) * S := by
 have h1 : P * (t % B) + P * B * (t / B) = P * t := by rw [Nat.mul_assoc,← Nat.mul_add,Nat.add_comm,hB]
 have h2 : P * t = P * c + P * x * S := by rw [ht,Nat.mul_add,Nat.mul_assoc]
 rw [Nat.add_mul]
 omega
theorem shift_step {l P : List Nat} {k c t s : Nat} (hk : k < l.length) (hP : P.length = l.length + 1) (h : val (P.take k) + 4294967296 ^ k * c = val (l.take k) * 2 ^ s) (ht : t = c + l[k] * 2 ^ s) :
  val ((P.set k (t % 4294967296)).take (k + 1)) + 4294967296 ^ (k + 1) * (t / 4294967296) = val (l.take (k + 1)) * 2 ^ s := by
 have h1 := val_take_succ (P.set k (t % 4294967296)) k (by rw [List.length_set];omega)
 rw [List.getElem_set_self,List.take_set_of_le (Nat.le_refl k)] at h1
 rw [h1,val_take_succ l k hk,Nat.pow_succ]
 exact shift_alg h ht (Nat.div_add_mod t 4294967296)
theorem shift_end {l P : List Nat} {c s : Nat} (hP : P.length = l.length + 1) (h : val (P.take l.length) + 4294967296 ^ l.length * c = val (l.take l.length) * 2 ^ s) : val (P.set l.length c) = val l * 2 ^ s := by
 have h1 := val_take_succ (P.set l.length c) l.length (by rw [List.length_set];omega)
 rw [List.getElem_set_self,List.take_set_of_le (Nat.le_refl _),List.take_of_length_le (by rw [List.length_set];omega)] at h1
 rw [List.take_of_length_le (Nat.le_refl l.length)] at h
 rw [h1]
 exact h
theorem shift_carry {c x s t : Nat} (hc : c < 2 ^ s) (hx : x < 4294967296) (ht : t = c + x * 2 ^ s) : t / 4294967296 < 2 ^ s := by
 rw [Nat.div_lt_iff_lt_mul (by omega),ht]
 have : x * 2 ^ s ≤ 4294967295 * 2 ^ s := Nat.mul_le_mul_right _ (by omega)
 omega
set_option maxHeartbeats 1000000 in
set_option maxRecDepth 100000 in
theorem shifted (v : Value) (l : List Nat) (s : Nat) (w : World) (h : Rd U32 w v l) (hs : s < 32) (hl : Small l) (hn : l.length ≤ 1000) :
  Calls Tryz.prog 128 #[v,.int .u64 (s : Int)] w (fun e w' => ∃ g R,e = .returned (.slice (some ⟨g,0,none⟩) (l.length + 1) (l.length + 1)) ∧ w.heap.size ≤ g ∧ Row w' g 68 (R.map U32) ∧ R.length = l.length + 1 ∧ Small R ∧ val R = val l * 2 ^ s ∧ Below w.heap.size w w') := by
 obtain ⟨ao,cap,rfl,hlc,hcm,hr⟩ := h.form
 go_enter Tryz.func128,Tryz.ntmps128
 go_wp2_with (with_reducible refine wpList_make_row _ rfl _ _ 28 rfl 68 (.int .u32 0) 4 Tryz.underlying28 infoU32 rfl .i64 .i64 _ _ (l.length + 1) (l.length + 1) rfl rfl (by omega) (by omega) (Nat.le_refl _) (by omega) (by omega) ?_;intro w3 hrow hb3 hz3)
 obtain ⟨g,hg⟩ : ∃ g,g = w.heap.size := ⟨_,rfl⟩
 rw [← hg] at hrow hz3 ⊢
 have hp2 : 0 < 2 ^ s := Nat.pow_pos (by omega)
 have hp3 : 2 ^ s ≤ 2147483648 := by have := Nat.pow_le_pow_right (n := 2) (by omega) (show s ≤ 31 by omega);exact this
 replace hp2 := hide hp2
 replace hp3 := hide hp3
 replace hg := hide hg
 clear h
 go_loopw [6,15] (fun t i wr => ∃ (k c : Nat) (P : List Nat),k ≤ l.length ∧ t = .int .u64 c ∧ i = .int .i64 k ∧ Hid (c < 2 ^ s) ∧ c < 4294967296 ∧ Row wr g 68 (P.map U32) ∧ Hid (P.length = l.length + 1) ∧ Small P ∧ Hid (val (P.take k) + 4294967296 ^ k * c = val (l.take k) * 2 ^ s) ∧ w3.grownBy wr (some g)) (fun _ i _ => l.length - (intOf i).toNat)
 case atStart =>
  refine ⟨0,0,List.replicate (l.length + 1) 0,Nat.zero_le _,rfl,rfl,hp2.out,by omega,by rw [List.map_replicate];exact hrow,by show _ = _;simp,small_zeros _,by show _ = _;simp [val],Gb.refl _ _⟩
 case round =>
  obtain ⟨k,c,P,hk,rfl,rfl,hcs,hcb,hP,hPl,hPs,hPv,hgb⟩ := hrel
  by_cases hkl : k < l.length
  ·obtain ⟨b,off,rfl,hb,hcell⟩ := hr.at_ hkl
   have e1 := Gb.cellOf hgb (Bel.cellOf hb3 (hcell k hkl)) (by have := hg.out;omega)
   have hx := small_get hl hkl
   have hPlo := hPl.out
   have hkP : k < P.length := by omega
   have e4 := hP.frozen k
   have e3 := hP.cellV hkP
   have hy := shl_bound hx hs
   obtain ⟨t,ht⟩ : ∃ t,t = c + l[k] * 2 ^ s := ⟨_,rfl⟩
   have htb : t < 18446744073709551616 := by omega
   have hbits : bits BinOp.or IntKind.u64 (c : Int) (IntKind.u64.wrap ((l[k] : Nat) * 2 ^ s)) = (t : Int) := by
    have e : ((l[k] : Nat) : Int) * 2 ^ s = ((l[k] * 2 ^ s : Nat) : Int) := by rw [Int.natCast_mul,Int.natCast_pow];rfl
    have e2 : IntKind.u64.wrap (((l[k] * 2 ^ s : Nat) : Int)) = ((l[k] * 2 ^ s : Nat) : Int) := by rw [IntKind.wrap_u64];omega
    rw [e,e2,or_low hcs.out (by omega),← ht]
   have hst := hide (shift_step hkl hPl.out hPv.out ht)
   have hcy := hide (shift_carry hcs.out hx ht)
   have hp3' := hp3.out
   have hcz : t / 4294967296 < 4294967296 := by have := hcy.out;omega
   replace ht := hide ht
   clear hcell hPlo hy hp3' hPv hcs
   go_wp2
   go_roundw
   case rel =>
    refine ⟨k + 1,t / 4294967296,P.set k (t % 4294967296),by omega,by go_num,by go_num,hcy,hcz,?_,?_,small_set hPs _ (by omega),hst,Gb.set hgb (.inl rfl) _⟩
    ·rw [← u32_mod]
     exact hP.setV k (t % 4294967296)
    ·show _ = _;rw [List.length_set];exact hPl.out
   case measure => simp [intOf];omega
  ·obtain rfl : k = l.length := by omega
   have hPlo := hPl.out
   have hkP : l.length < P.length := by omega
   have e3 := hP.cellV hkP
   have e4 := hP.frozen l.length
   have hst := hide (shift_end hPl.out hPv.out)
   have hbel := Bel.st (Gb.bel hb3 hgb (by have := hg.out;omega)) (p := ⟨g,l.length,none⟩) (by simp only [];have := hg.out;omega) (.int .u32 c)
   clear hPlo hPv
   go_wp2
   go_ret
   exact ⟨g,P.set l.length c,rfl,by have := hg.out;omega,hP.setV l.length c,by rw [List.length_set];exact hPl.out,small_set hPs _ hcb,hst.out,hbel⟩
theorem bitLenAux_bounds : ∀ (f x : Nat),x ≠ 0 → x < 2 ^ f → 1 ≤ Lib.bitLenAux f x ∧ 2 ^ (Lib.bitLenAux f x - 1) ≤ x ∧ x < 2 ^ Lib.bitLenAux f x := by
 intro f
 induction f with
 | zero => intro x h0 h;simp at h;exact absurd h h0
 | succ f ih =>
  intro x h0 h
  unfold Lib.bitLenAux
  rw [if_neg h0]
  by_cases h1 : x / 2 = 0
  ·have e : Lib.bitLenAux f (x / 2) = 0 := by rw [h1];cases f <;> simp [Lib.bitLenAux]
   rw [e]
   have : x = 1 := by omega
   subst this
   simp
  ·obtain ⟨a,b,c⟩ := ih (x / 2) h1 (by rw [Nat.pow_succ] at h;omega)
   generalize Lib.bitLenAux f (x / 2) = k at *
   refine ⟨by omega,?_,?_⟩
   ·rw [show 1 + k - 1 = (k - 1) + 1 by omega,Nat.pow_succ];omega
   ·rw [Nat.add_comm,Nat.pow_succ];omega
theorem lead_shift {x : Nat} (h0 : x ≠ 0) (h : x < 4294967296) : ∃ s : Nat,(32 : Int) - ((Lib.bitLen x : Nat) : Int) = (s : Int) ∧ s < 32 ∧ 2147483648 ≤ x * 2 ^ s ∧ (x + 1) * 2 ^ s ≤ 4294967296 := by
 have hb := bitLenAux_bounds 64 x h0 (by omega)
 have hle : Lib.bitLen x ≤ 32 := Lib.bitLen_le x 32 (by omega) (by omega)
 unfold Lib.bitLen at *
 generalize Lib.bitLenAux 64 x = k at *
 obtain ⟨h1,h2,h3⟩ := hb
 refine ⟨32 - k,by omega,by omega,?_,?_⟩
 ·have h4 := Nat.mul_le_mul_right (2 ^ (32 - k)) h2
  rw [← Nat.pow_add,show k - 1 + (32 - k) = 31 by omega] at h4
  exact h4
 ·have h4 := Nat.mul_le_mul_right (2 ^ (32 - k)) (show x + 1 ≤ 2 ^ k from h3)
  rw [← Nat.pow_add,show k + (32 - k) = 32 by omega] at h4
  exact h4
theorem shift_top {b n x s B : Nat} {R : List Nat} (hB : B = 4294967296) (hn : 1 ≤ n) (hlo : x * B ^ (n - 1) ≤ b) (hhi : b < (x + 1) * B ^ (n - 1)) (h1 : 2147483648 ≤ x * 2 ^ s) (h2 : (x + 1) * 2 ^ s ≤ B) (hR : val R = b * 2 ^ s) (hl : R.length = n + 1) (hs : Small R) :
  val (R.take n) = b * 2 ^ s ∧ 2147483648 ≤ R[n - 1] ∧ b * 2 ^ s < B ^ n := by
 have e : B ^ n = B ^ (n - 1) * B := by
  obtain ⟨k,rfl⟩ : ∃ k,n = k + 1 := ⟨n - 1,by omega⟩
  rw [Nat.add_sub_cancel,Nat.pow_succ]
 have h3 : b * 2 ^ s < B ^ n := by
  have h4 : b * 2 ^ s < (x + 1) * B ^ (n - 1) * 2 ^ s := Nat.mul_lt_mul_of_pos_right hhi (Nat.pow_pos (by omega))
  have h5 : (x + 1) * B ^ (n - 1) * 2 ^ s = B ^ (n - 1) * ((x + 1) * 2 ^ s) := by grind
  have h6 : B ^ (n - 1) * ((x + 1) * 2 ^ s) ≤ B ^ (n - 1) * B := Nat.mul_le_mul_left _ h2
  omega
 have h7 := val_take_succ R n (by omega)
 rw [List.take_of_length_le (show R.length ≤ n + 1 by omega),hR,← hB] at h7
 have hz : R[n] = 0 := by
  rcases Nat.eq_zero_or_pos R[n] with h | h
  ·exact h
  ·have := Nat.mul_le_mul_left (B ^ n) h
   omega
 rw [hz,Nat.mul_zero,Nat.add_zero] at h7
 refine ⟨h7.symm,?_,h3⟩
 have h8 := val_take_succ R (n - 1) (by omega)
 rw [show n - 1 + 1 = n by omega,← h7,← hB] at h8
 have h9 := val_take_lt hs (k := n - 1) (by omega)
 rw [← hB] at h9
 have h10 : x * B ^ (n - 1) * 2 ^ s ≤ b * 2 ^ s := Nat.mul_le_mul_right _ hlo
 have h11 : x * B ^ (n - 1) * 2 ^ s = B ^ (n - 1) * (x * 2 ^ s) := by grind
 have h12 : B ^ (n - 1) * 2147483648 ≤ B ^ (n - 1) * (x * 2 ^ s) := Nat.mul_le_mul_left _ h1
 have h13 : B ^ (n - 1) * 2147483648 < B ^ (n - 1) * (R[n - 1] + 1) := by rw [Nat.mul_add];omega
 have := Nat.lt_of_mul_lt_mul_left h13
 omega
structure RoundL (d W top next head w2 : Nat) : Prop where
 dec : ∃ P dl wl,d = (top * 4294967296 + next) * P + dl ∧ dl < P ∧ W = (head * 4294967296 + w2) * P + wl ∧ wl < P
 lt : W < d * 4294967296
 nx : next < 4294967296
 w2b : w2 < 4294967296
 tlo : 2147483648 ≤ top
 thi : top < 4294967296
 hd : head ≤ top * 4294967296 + 4294967295
theorem head_le {B P top next dl wt u w2 wl d W : Nat} (hB : B = 4294967296) (hd : d = (top * B + next) * P + dl) (hdl : dl < P) (hnx : next < B) (hu : u < B) (hW : W = ((wt * B + u) * B + w2) * P + wl) (h : W < d * B) : wt * B + u ≤ top * B + 4294967295 := by
 have h1 : d < (top + 1) * B * P := by
  have h2 : (top * B + next) + 1 ≤ (top + 1) * B := by rw [Nat.add_mul];omega
  have h3 := Nat.mul_le_mul_right P h2
  rw [Nat.add_mul] at h3
  omega
 have h4 : wt * B * B * P ≤ W := by
  have e : ((wt * B + u) * B + w2) * P + wl = wt * B * B * P + (u * B * P + w2 * P + wl) := by grind
  rw [hW,e];omega
 have h5 : d * B < (top + 1) * B * P * B := Nat.mul_lt_mul_of_pos_right h1 (by omega)
 have h6 : wt * (B * B * P) < (top + 1) * (B * B * P) := by
  have e1 : wt * B * B * P = wt * (B * B * P) := by grind
  have e2 : (top + 1) * B * P * B = (top + 1) * (B * B * P) := by grind
  omega
 have h7 := Nat.lt_of_mul_lt_mul_right h6
 have h8 : wt * B ≤ top * B := Nat.mul_le_mul_right B (by omega)
 omega
theorem round_law {D R : List Nat} {d n j : Nat} (hn : 2 ≤ n) (hDl : D.length = n) (hDs : Small D) (hD : val D = d) (htop : 2147483648 ≤ D[n - 1]) (hRs : Small R) (hj : j + 1 + n ≤ R.length) (hlow : val (R.drop (j + 1)) < d) :
  RoundL d (val ((R.drop j).take (n + 1))) D[n - 1] D[n - 2] (R[j + n] * 4294967296 + R[j + (n - 1)]) (R[j + (n - 2)]'(by omega)) := by
 have hdn : d < 4294967296 ^ n := by rw [← hD,← hDl];exact val_lt hDs
 have hw := (long_window hdn hRs hlow hj).2
 have hWl : ((R.drop j).take (n + 1)).length = n + 1 := by rw [List.length_take,List.length_drop];omega
 have h3 := val_top3 hn hWl
 have h2 := val_top2 hn hDl
 simp only [List.getElem_take,List.getElem_drop] at h3
 rw [hD] at h2
 have hdl := val_take_lt hDs (k := n - 2) (by omega)
 have hwl : val (((R.drop j).take (n + 1)).take (n - 2)) < 4294967296 ^ (n - 2) := by
  refine val_take_lt ?_ (by omega)
  exact small_take (fun x hx => hRs x (List.mem_of_mem_drop hx)) _
 have hle := head_le rfl h2 hdl (small_get hDs (by omega)) (small_get hRs (i := j + (n - 1)) (by omega)) h3 hw
 exact ⟨⟨_,_,_,h2,hdl,h3,hwl⟩,hw,small_get hDs (by omega),small_get hRs (by omega),htop,small_get hDs (by omega),hle⟩
structure GuessI (d W top head g left : Nat) : Prop where
 eq : head = g * top + left
 lt : W < (g + 1) * d
 lb : left < 4294967296
 gb : g ≤ 4294967297
structure GuessE (d W g : Nat) : Prop where
 lt : W < (g + 1) * d
 le : g * d ≤ W + d
 gb : g < 4294967296
theorem head_lt {top head B : Nat} (hB : B = 4294967296) (h : head ≤ top * B + 4294967295) (ht : top < B) : head < 18446744073709551616 := by
 have : top * B ≤ 4294967295 * B := Nat.mul_le_mul_right _ (by omega)
 omega
theorem guess_start {d W top next head w2 : Nat} (h : RoundL d W top next head w2) : GuessI d W top head (head / top) (head % top) := by
 obtain ⟨P,dl,wl,h1,h2,h3,h4⟩ := h.dec
 have ht := h.tlo
 have hm := Nat.mod_lt head (show 0 < top by omega)
 have he : head = head / top * top + head % top := by rw [Nat.mul_comm];exact (Nat.div_add_mod head top).symm
 refine ⟨he,?_,by have := h.thi;omega,?_⟩
 ·rw [h1,h3]
  exact guess_first he hm h.w2b h4
 ·have h5 := h.hd
  have h6 : head / top < 4294967298 := by
   rw [Nat.div_lt_iff_lt_mul (by omega)]
   have e : 4294967298 * top = top * 4294967296 + 2 * top := by rw [Nat.mul_comm,show (4294967298 : Nat) = 4294967296 + 2 by rfl,Nat.mul_add];omega
   omega
  omega
theorem guess_le {top B g left : Nat} (hB : B = 4294967296) (hh : g * top + left ≤ top * B + 4294967295) (hl : B ≤ left) : g < B := by
 apply Nat.lt_of_not_le
 intro hg
 have := Nat.mul_le_mul_right top hg
 rw [Nat.mul_comm B top] at this
 omega
theorem guess_less {d W top next head w2 g left : Nat} (h : RoundL d W top next head w2) (hI : GuessI d W top head g left) (hb : 4294967296 ≤ g ∨ left * 4294967296 + w2 < g * next) : 1 ≤ g ∧ W < g * d := by
 obtain ⟨P,dl,wl,h1,h2,h3,h4⟩ := h.dec
 have hlt : W < g * d := by
  rcases hb with hb | hb
  ·exact guess_big h.lt hb
  ·rw [h1,h3];exact guess_dec hI.eq hb h4
 refine ⟨?_,hlt⟩
 rcases Nat.eq_zero_or_pos g with h0 | h0
 ·rw [h0,Nat.zero_mul] at hlt;omega
 ·exact h0
theorem guess_down {d W top next head w2 g left : Nat} (h : RoundL d W top next head w2) (hI : GuessI d W top head g left) (hb : 4294967296 ≤ g ∨ left * 4294967296 + w2 < g * next) :
  (left + top < 4294967296 → GuessI d W top head (g - 1) (left + top)) ∧ (4294967296 ≤ left + top → GuessE d W (g - 1)) := by
 obtain ⟨h1,hlt⟩ := guess_less h hI hb
 have e : head = (g - 1) * top + (left + top) := by
  have := Nat.add_mul (g - 1) 1 top
  rw [Nat.sub_add_cancel h1] at this
  rw [hI.eq,this];omega
 have hlt2 : W < (g - 1 + 1) * d := by rw [Nat.sub_add_cancel h1];exact hlt
 refine ⟨fun hl => ⟨e,hlt2,hl,by have := hI.gb;omega⟩,fun hl => ?_⟩
 have hg : g - 1 < 4294967296 := guess_le rfl (by rw [← e];exact h.hd) hl
 obtain ⟨P,dl,wl,k1,k2,k3,k4⟩ := h.dec
 refine ⟨hlt2,?_,hg⟩
 have ht : (g - 1) * next ≤ (left + top) * 4294967296 + w2 := by
  have a1 : (g - 1) * next ≤ 4294967295 * 4294967295 := Nat.mul_le_mul (by omega) (by have := h.nx;omega)
  omega
 rw [k1,k3]
 exact guess_end e ht k2 (by have := h.tlo;omega) hg
theorem guess_stop {d W top next head w2 g left : Nat} (h : RoundL d W top next head w2) (hI : GuessI d W top head g left) (h1 : g < 4294967296) (h2 : g * next ≤ left * 4294967296 + w2) : GuessE d W g := by
 obtain ⟨P,dl,wl,k1,k2,k3,k4⟩ := h.dec
 refine ⟨hI.lt,?_,h1⟩
 rw [k1,k3]
 exact guess_end hI.eq h2 k2 (by have := h.tlo;omega) h1
theorem told_alg {v v' F P : Nat} {bo : Bool} (h1 : v' + F = v + P * bo.toNat) (h2 : v' < P) : (bo = true → v < F ∧ v' = v + P - F) ∧ (bo = false → F ≤ v ∧ v' = v - F) := by
 constructor
 ·rintro rfl
  simp only [Bool.toNat_true,Nat.mul_one] at h1
  omega
 ·rintro rfl
  simp only [Bool.toNat_false,Nat.mul_zero,Nat.add_zero] at h1
  omega
theorem sub_told {R R' D : List Nat} {off n f : Nat} {bo : Bool} (hS : SubP R R' D off n f bo) (hl : off + (n + 1) ≤ R.length) : (bo = true → val ((R.drop off).take (n + 1)) < f * val D ∧ val ((R'.drop off).take (n + 1)) = val ((R.drop off).take (n + 1)) + 4294967296 ^ (n + 1) - f * val D) ∧ (bo = false → f * val D ≤ val ((R.drop off).take (n + 1)) ∧ val ((R'.drop off).take (n + 1)) = val ((R.drop off).take (n + 1)) - f * val D) := by
 have hlen : n + 1 ≤ (R'.drop off).length := by rw [List.length_drop,hS.win.len];omega
 have h2 : val ((R'.drop off).take (n + 1)) < 4294967296 ^ (n + 1) := val_take_lt (fun x hx => hS.small x (List.mem_of_mem_drop hx)) hlen
 exact told_alg hS.sum h2
theorem rest_told {x y d v w c P F : Nat} (h : v + P * c = y + d) (hy : y = w + P - F) (hF : F ≤ w + d) (hlt : w < F) (hdP : d < P) (hvP : v < P) : v = w + d - F := by
 have hc : c = 0 ∨ c = 1 ∨ 2 ≤ c := by omega
 rcases hc with rfl | rfl | hc
 ·simp only [Nat.mul_zero,Nat.add_zero] at h
  omega
 ·simp only [Nat.mul_one] at h;omega
 ·have := Nat.mul_le_mul_left P hc
  omega
theorem WinI.row {R R' : List Nat} {off k : Nat} (h : WinI R R' off k) (hl : off + k ≤ R.length) : R' = R.take off ++ (R'.drop off).take k ++ R.drop (off + k) := by
 have h1 : R' = R'.take off ++ ((R'.drop off).take k ++ (R'.drop off).drop k) := by rw [List.take_append_drop,List.take_append_drop]
 rw [List.drop_drop,h.front,h.back] at h1
 rw [List.append_assoc]
 exact h1
theorem WinI.trans {R R' R'' : List Nat} {off k : Nat} (h : WinI R R' off k) (h' : WinI R' R'' off k) : WinI R R'' off k := ⟨h'.len.trans h.len,h'.front.trans h.front,h'.back.trans h.back⟩
theorem digit_right {A d n j g : Nat} {Q R R' D : List Nat} (hd : d < 4294967296 ^ n) (hRs : Small R) (hq : Q.length = R.length - n) (hj : j + 1 + n ≤ R.length) (hI : LongI A d n (j + 1) Q R) (hD : val D = d) (hE : GuessE d (val ((R.drop j).take (n + 1))) g) (hS : SubP R R' D j n g false) :
  LongI A d n j (Q.set j g) R' := by
 obtain ⟨h1,h2⟩ := (sub_told hS (by omega)).2 rfl
 rw [hD] at h1 h2
 have he := digit_end (q := g) (r := val ((R'.drop j).take (n + 1))) hE.lt hE.le (by rw [if_neg (by omega)];exact h2) (by rw [if_neg (by omega)])
 have hV : ((R'.drop j).take (n + 1)).length = n + 1 := by rw [List.length_take,List.length_drop,hS.win.len];omega
 rw [hS.win.row (by omega)]
 exact long_step hd hRs hq hj hI hV he.1 he.2
theorem digit_less {A d n j g c : Nat} {Q R R1 R2 D : List Nat} (hd : d < 4294967296 ^ n) (hRs : Small R) (hq : Q.length = R.length - n) (hj : j + 1 + n ≤ R.length) (hI : LongI A d n (j + 1) Q R) (hD : val D = d) (hE : GuessE d (val ((R.drop j).take (n + 1))) g) (hS : SubP R R1 D j n g true)
  (hW : WinI R1 R2 j (n + 1)) (h2s : Small R2) (hv : val ((R2.drop j).take (n + 1)) + 4294967296 ^ (n + 1) * c = val ((R1.drop j).take (n + 1)) + val D) : LongI A d n j (Q.set j (g - 1)) R2 ∧ 1 ≤ g := by
 obtain ⟨h1,h2⟩ := (sub_told hS (by omega)).1 rfl
 rw [hD] at h1 h2 hv
 have hl2 := hW.len
 have hl1 := hS.win.len
 have hv2 : val ((R2.drop j).take (n + 1)) < 4294967296 ^ (n + 1) := val_take_lt (fun x hx => h2s x (List.mem_of_mem_drop hx)) (by rw [List.length_drop];omega)
 have hdP : d < 4294967296 ^ (n + 1) := Nat.lt_of_lt_of_le hd (Nat.pow_le_pow_right (by omega) (by omega))
 have h3 := rest_told (x := 0) hv h2 hE.le h1 hdP hv2
 have he := digit_end (q := g - 1) (r := val ((R2.drop j).take (n + 1))) hE.lt hE.le (by rw [if_pos h1];exact h3) (by rw [if_pos h1])
 have hW2 := hS.win.trans hW
 have hV : ((R2.drop j).take (n + 1)).length = n + 1 := by rw [List.length_take,List.length_drop,hW2.len];omega
 refine ⟨?_,?_⟩
 ·rw [hW2.row (by omega)]
  exact long_step hd hRs hq hj hI hV he.1 he.2
 ·rcases Nat.eq_zero_or_pos g with h0 | h0
  ·rw [h0,Nat.zero_mul] at h1;omega
  ·exact h0
structure DownI (O S : List Nat) (s i : Nat) : Prop where
 mid : ∀ hi : i < O.length,2 ^ s * val (S.take i) + O.headD 0 % 2 ^ s = val (O.take i) + 4294967296 ^ i * (O[i] % 2 ^ s)
 fin : i = O.length → 2 ^ s * val (S.take i) + O.headD 0 % 2 ^ s = val O
theorem DownI.start {O S : List Nat} {s : Nat} (h : 0 < O.length) : DownI O S s 0 := by
 cases O with
 | nil => cases h
 | cons x O => exact ⟨fun _ => by simp [val],fun h => by cases h⟩
theorem DownI.step {O S : List Nat} {s i z : Nat} (h : DownI O S s i) (hs : s < 32) (hi : i < O.length) (hS : i < S.length) (hz : if h : i + 1 < O.length then z = O[i] / 2 ^ s + O[i + 1] % 2 ^ s * 2 ^ (32 - s) else z = O[i] / 2 ^ s) : DownI O (S.set i z) s (i + 1) := by
 have hl : (S.take i).length = i := by rw [List.length_take];omega
 have e : (S.set i z).take (i + 1) = S.take i ++ [z] := by
  rw [List.take_succ_eq_append_getElem (by rw [List.length_set];omega),List.getElem_set_self,List.take_set_of_le (Nat.le_refl i)]
 have h1 := h.mid hi
 refine ⟨fun hi2 => ?_,fun hi2 => ?_⟩
 ·rw [dif_pos hi2] at hz
  rw [e]
  exact down_step hs hi2 hl h1 hz
 ·rw [dif_neg (by omega)] at hz
  rw [e]
  exact down_last hi2 hl h1 hz
theorem DownI.stop {O S : List Nat} {s : Nat} (h : DownI O S s O.length) : val (S.take O.length) = val O / 2 ^ s :=
 down_end (h.fin rfl) (Nat.mod_lt _ (Nat.pow_pos (by omega)))
theorem high_mod (y s : Nat) (hs : s ≤ 32) : y * 2 ^ (32 - s) % 4294967296 = y % 2 ^ s * 2 ^ (32 - s) := by
 have e : (4294967296 : Nat) = 2 ^ s * 2 ^ (32 - s) := by rw [← Nat.pow_add,show s + (32 - s) = 32 by omega]
 rw [e,Nat.mul_mod_mul_right]
theorem low_lt {x s : Nat} (hx : x < 4294967296) (hs : s ≤ 32) : x / 2 ^ s < 2 ^ (32 - s) := by
 rw [Nat.div_lt_iff_lt_mul (Nat.pow_pos (by omega)),← Nat.pow_add,show 32 - s + s = 32 by omega]
 exact hx
theorem or_down {x y s : Nat} (hx : x < 4294967296) (hs : s ≤ 32) : bits BinOp.or IntKind.u32 ((x / 2 ^ s : Nat) : Int) ((y * 2 ^ (32 - s) % 4294967296 : Nat) : Int) = ((x / 2 ^ s + y % 2 ^ s * 2 ^ (32 - s) : Nat) : Int) ∧ x / 2 ^ s + y % 2 ^ s * 2 ^ (32 - s) < 4294967296 := by
 have h1 := low_lt hx hs
 have h2 := Nat.two_pow_add_eq_or_of_lt h1 (y % 2 ^ s)
 have h4 := Nat.mod_lt y (show 0 < 2 ^ s from Nat.pow_pos (by omega))
 have h5 : (y % 2 ^ s + 1) * 2 ^ (32 - s) ≤ 2 ^ s * 2 ^ (32 - s) := Nat.mul_le_mul_right _ h4
 have e : 2 ^ s * 2 ^ (32 - s) = 4294967296 := by rw [← Nat.pow_add,show s + (32 - s) = 32 by omega]
 have hpos : 0 < 2 ^ (32 - s) := Nat.pow_pos (by omega)
 rw [e,Nat.add_mul,Nat.one_mul] at h5
 have h6 : x / 2 ^ s ≤ x := Nat.div_le_self _ _
 refine ⟨?_,by omega⟩
 rw [high_mod y s hs,u32_or_nat _ _ (by omega) (by omega),Nat.or_comm,Nat.mul_comm (y % 2 ^ s),← h2,Nat.add_comm]
end Go.Proofs.YtldikghldcefcaaGreat
end
section
set_option linter.unusedVariables false
set_option linter.unusedSimpArgs false
open Go
namespace Go.Proofs.YtldikghldcefcaaGreat
section
variable {P : Program} {ops : Array Oper} {Q : Exit → Act → World → Prop} {md : Region.Mode} {F : World → Prop} {k : Nat}
def TillK (P : Program) (md : Region.Mode) (ops : Array Oper) (Q : Exit → Act → World → Prop) (F : World → Prop) (k : Nat) : Nat → Array Bool → Act → World → Prop
 | 0,listed,a,w => Region.ready md ops listed = [] ∧ Q .normal a w
 | fuel + 1,listed,a,w =>
  (Region.ready md ops listed = [] → Q .normal a w) ∧
  ∀ i ∈ Region.ready md ops listed,wpOp P ops Q i (fun a' w' => ((listed.setIfInBounds i true).getD k true = false → F w') ∧ TillK P md ops Q F k fuel (listed.setIfInBounds i true) a' w') a w
theorem till_any : ∀ (fuel : Nat) (listed : Array Bool) (a : Act) (w : World),TillK P md ops Q F k fuel listed a w → wpAny P md ops Q fuel listed a w
 | 0,_,_,_,h => h
 | fuel + 1,_,_,_,h => ⟨h.1,fun i hi => wpOp_mono (fun a' w' h' => till_any fuel _ a' w' h'.2) (h.2 i hi)⟩
def waitsB (md : Region.Mode) (ops : Array Oper) (k i : Nat) : Bool := match ops[k]? with
 | some o => o.after.any fun e => Region.binds md e && (e.on == i)
 | none => false
theorem till_first {i : Nat} {oi : Oper} {v : Value} (hi : ops[i]? = some oi) (hsel : ∀ (j : Nat) (o : Oper) cs b,ops[j]? = some o → o.op ≠ .select cs b)
  (hQ : ∀ c a w,Q (.panic c) (a.put oi.dst v) w → Q (.panic c) a w) (hki : waitsB md ops k i = true) (hne : k ≠ i) :
  ∀ (fuel : Nat) (listed : Array Bool) (a : Act) (w : World),
   (∀ j oj,ops[j]? = some oj → j ≠ i → listed.getD j true = false → (∀ e ∈ oj.after,Region.binds md e = true → e.on ≠ i) → oi.apart ops oj = true) →
   i ∈ Region.ready md ops listed → listed.getD k true = false → YieldsIf P ops F oi v a → F w →
   TillK P md ops Q F k fuel (listed.setIfInBounds i true) (a.put oi.dst v) w → TillK P md ops Q F k (fuel + 1) listed a w := by
 intro fuel
 induction fuel with
 | zero =>
  intro listed a w _ hr hkl hy hS H
  refine ⟨fun h => (by rw [h] at hr;cases hr),fun j hj => ?_⟩
  by_cases hji : j = i
  ·subst hji;exact hy.wpOp hi hS ⟨fun _ => hS,H⟩
  ·have := ready_mono hj hji
   rw [H.1] at this
   cases this
 | succ fuel ih =>
  intro listed a w hfree hr hkl hy hS H
  refine ⟨fun h => (by rw [h] at hr;cases hr),fun j hj => ?_⟩
  by_cases hji : j = i
  ·subst hji;exact hy.wpOp hi hS ⟨fun _ => hS,H⟩
  ·have h1 := H.2 j (ready_mono hj hji)
   obtain ⟨hjun,oj,hoj,hall⟩ := mem_ready.1 hj
   have hnot : ∀ e ∈ oj.after,Region.binds md e = true → e.on ≠ i := fun e he hb heq => by
    have h1 := hall e he hb
    have h0 := (mem_ready.1 hr).1
    rw [heq] at h1
    rcases Nat.lt_or_ge i listed.size with h' | h'
    ·simp [h'] at h0 h1;rw [h0] at h1;cases h1
    ·simp [Array.getElem?_eq_none h'] at h1
   have hjk : j ≠ k := by
    intro e
    subst e
    unfold waitsB at hki
    rw [hoj] at hki
    simp only [Array.any_eq_true'] at hki
    obtain ⟨e,he,hb⟩ := hki
    simp only [Bool.and_eq_true,beq_iff_eq] at hb
    exact hnot e he hb.1 hb.2
   have h2 := wpOp_putIf hoj (hfree j oj hoj hji hjun hnot) (fun cs b => hsel i oi cs b hi) (fun cs b => hsel j oj cs b hoj) hQ hy h1
   have hfree' : ∀ m om,ops[m]? = some om → m ≠ i → (listed.setIfInBounds j true).getD m true = false →
     (∀ e ∈ om.after,Region.binds md e = true → e.on ≠ i) → oi.apart ops om = true := fun m om hm hmi hun hno => by
    refine hfree m om hm hmi ?_ hno
    by_cases hjm : j = m
    ·subst hjm;exact hjun
    ·rw [getD_set_ne true hjm] at hun;exact hun
   have hkl' : (listed.setIfInBounds j true).getD k true = false := by rw [getD_set_ne true hjk];exact hkl
   refine wpOp_mono (fun a' w' h3 => ?_) h2
   have hF : F w' := h3.2.1 (by rw [getD_set_ne true hjk,getD_set_ne true (Ne.symm hne)];exact hkl)
   refine ⟨fun _ => hF,ih (listed.setIfInBounds j true) a' w' hfree' (ready_mono hr (Ne.symm hji)) hkl' h3.1 hF ?_⟩
   rw [Array.setIfInBounds_comm _ _ hji]
   exact h3.2.2
theorem till_pure0 {i : Nat} {oi : Oper} {v : Value} (hi : ops[i]? = some oi) (hsel : ∀ (j : Nat) (o : Oper) cs b,ops[j]? = some o → o.op ≠ .select cs b)
  (hQ : ∀ c a w,Q (.panic c) (a.put oi.dst v) w → Q (.panic c) a w) (hne : k ≠ i) :
  ∀ (fuel : Nat) (listed : Array Bool) (a : Act) (w : World),
   (∀ j oj,ops[j]? = some oj → j ≠ i → listed.getD j true = false → (∀ e ∈ oj.after,Region.binds md e = true → e.on ≠ i) → oi.apart ops oj = true) →
   i ∈ Region.ready md ops listed → YieldsIf P ops (fun _ => True) oi v a → ((listed.getD k true = false) → F w) →
   TillK P md ops Q F k fuel (listed.setIfInBounds i true) (a.put oi.dst v) w → TillK P md ops Q F k (fuel + 1) listed a w := by
 intro fuel
 induction fuel with
 | zero =>
  intro listed a w _ hr hy hS H
  refine ⟨fun h => (by rw [h] at hr;cases hr),fun j hj => ?_⟩
  by_cases hji : j = i
  ·subst hji;exact hy.wpOp hi trivial ⟨fun h => hS (by rw [getD_set_ne true (Ne.symm hne)] at h;exact h),H⟩
  ·have := ready_mono hj hji
   rw [H.1] at this
   cases this
 | succ fuel ih =>
  intro listed a w hfree hr hy hS H
  refine ⟨fun h => (by rw [h] at hr;cases hr),fun j hj => ?_⟩
  by_cases hji : j = i
  ·subst hji;exact hy.wpOp hi trivial ⟨fun h => hS (by rw [getD_set_ne true (Ne.symm hne)] at h;exact h),H⟩
  ·have h1 := H.2 j (ready_mono hj hji)
   obtain ⟨hjun,oj,hoj,hall⟩ := mem_ready.1 hj
   have hnot : ∀ e ∈ oj.after,Region.binds md e = true → e.on ≠ i := fun e he hb heq => by
    have h1 := hall e he hb
    have h0 := (mem_ready.1 hr).1
    rw [heq] at h1
    rcases Nat.lt_or_ge i listed.size with h' | h'
    ·simp [h'] at h0 h1;rw [h0] at h1;cases h1
    ·simp [Array.getElem?_eq_none h'] at h1
   have h2 := wpOp_putIf hoj (hfree j oj hoj hji hjun hnot) (fun cs b => hsel i oi cs b hi) (fun cs b => hsel j oj cs b hoj) hQ hy h1
   have hfree' : ∀ m om,ops[m]? = some om → m ≠ i → (listed.setIfInBounds j true).getD m true = false →
     (∀ e ∈ om.after,Region.binds md e = true → e.on ≠ i) → oi.apart ops om = true := fun m om hm hmi hun hno => by
    refine hfree m om hm hmi ?_ hno
    by_cases hjm : j = m
    ·subst hjm;exact hjun
    ·rw [getD_set_ne true hjm] at hun;exact hun
   refine wpOp_mono (fun a' w' h3 => ?_) h2
   have hF : (listed.setIfInBounds j true).getD k true = false → F w' := fun h => h3.2.1 (by
    by_cases hjk : j = k
    ·subst hjk
     rw [Array.setIfInBounds_comm _ _ (Ne.symm hji),getD_set_ne true (Ne.symm hne)]
     exact h
    ·rw [getD_set_ne true hjk] at h ⊢
     rw [getD_set_ne true (Ne.symm hne)]
     exact h)
   refine ⟨hF,ih (listed.setIfInBounds j true) a' w' hfree' (ready_mono hr (Ne.symm hji)) h3.1 hF ?_⟩
   rw [Array.setIfInBounds_comm _ _ hji]
   exact h3.2.2
theorem till_pure {i : Nat} {oi : Oper} {v : Value} {fuel : Nat} {listed : Array Bool} {a : Act} {w : World} (hi : ops[i]? = some oi)
  (hs : Region.noSelect ops = true) (hf : Region.free md ops listed i = true) (hr : (Region.ready md ops listed).contains i = true) (hk : (k != i) = true)
  (hQ : ∀ c a w,Q (.panic c) (a.put oi.dst v) w → Q (.panic c) a w) (hy : YieldsIf P ops (fun _ => True) oi v a) (hS : F w)
  (h : TillK P md ops Q F k fuel (listed.setIfInBounds i true) (a.put oi.dst v) w) : TillK P md ops Q F k (fuel + 1) listed a w :=
 till_pure0 hi (Region.noSelect_spec hs) hQ (bne_iff_ne.1 hk) fuel listed a w (Region.free_spec hi hf) (by simpa using hr) hy (fun _ => hS) h
theorem till_take {i : Nat} {oi : Oper} {v : Value} {fuel : Nat} {listed : Array Bool} {a : Act} {w : World} (hi : ops[i]? = some oi)
  (hs : Region.noSelect ops = true) (hf : Region.free md ops listed i = true) (hr : (Region.ready md ops listed).contains i = true)
  (hk : (waitsB md ops k i && (k != i) && (listed.getD k true == false)) = true)
  (hQ : ∀ c a w,Q (.panic c) (a.put oi.dst v) w → Q (.panic c) a w) (hy : YieldsIf P ops F oi v a) (hS : F w)
  (h : TillK P md ops Q F k fuel (listed.setIfInBounds i true) (a.put oi.dst v) w) : TillK P md ops Q F k (fuel + 1) listed a w := by
 simp only [Bool.and_eq_true,bne_iff_ne,beq_iff_eq] at hk
 exact till_first hi (Region.noSelect_spec hs) hQ hk.1.1 hk.1.2 fuel listed a w (Region.free_spec hi hf) (by simpa using hr) hk.2 hy hS h
def TillReady (P : Program) (md : Region.Mode) (ops : Array Oper) (Q : Exit → Act → World → Prop) (F : World → Prop) (k fuel : Nat) (listed : Array Bool) (a : Act) (w : World) (rs : List Nat) : Prop :=
 ∀ i ∈ rs,wpOp P ops Q i (fun a' w' => ((listed.setIfInBounds i true).getD k true = false → F w') ∧ TillK P md ops Q F k fuel (listed.setIfInBounds i true) a' w') a w
theorem TillReady.nil {fuel : Nat} {listed : Array Bool} {a : Act} {w : World} : TillReady P md ops Q F k fuel listed a w [] := fun _ h => by cases h
theorem TillReady.cons {fuel : Nat} {listed : Array Bool} {a : Act} {w : World} {i : Nat} {o : Oper} {rs : List Nat} (ho : ops[i]? = some o)
  (h : ∀ K' : Act → World → Prop,Shut (∀ a w,F w → (F w → TillK P md ops Q F k fuel (listed.setIfInBounds i true) a w) → K' a w) → if Region.wanted o (yielded ops a.tmps) = true then Oper.wp P o a w K' Q else K' (a.put o.dst undef) w)
  (hs : TillReady P md ops Q F k fuel listed a w rs) : TillReady P md ops Q F k fuel listed a w (i :: rs) := fun j hj => by
 rcases List.mem_cons.1 hj with rfl | hj
 ·exact wpOp_step ho (fun K' hK => h K' (fun a w hS hW => hK a w ⟨fun _ => hS,hW hS⟩))
 ·exact hs j hj
theorem TillReady.last {fuel : Nat} {listed : Array Bool} {a : Act} {w : World} {i : Nat} {o : Oper} {rs : List Nat} (ho : ops[i]? = some o) (hl : (listed.setIfInBounds i true).getD k true = true)
  (h : ∀ K' : Act → World → Prop,Shut (∀ a w,TillK P md ops Q F k fuel (listed.setIfInBounds i true) a w → K' a w) → if Region.wanted o (yielded ops a.tmps) = true then Oper.wp P o a w K' Q else K' (a.put o.dst undef) w)
  (hs : TillReady P md ops Q F k fuel listed a w rs) : TillReady P md ops Q F k fuel listed a w (i :: rs) := fun j hj => by
 rcases List.mem_cons.1 hj with rfl | hj
 ·exact wpOp_step ho (fun K' hK => h K' (fun a w hW => hK a w ⟨fun h => absurd h (by rw [hl];simp),hW⟩))
 ·exact hs j hj
theorem till_ready {rs : List Nat} {fuel : Nat} {listed : Array Bool} {a : Act} {w : World} (hr : Region.ready md ops listed = rs) (hne : rs ≠ [])
  (h : TillReady P md ops Q F k fuel listed a w rs) : TillK P md ops Q F k (fuel + 1) listed a w :=
 ⟨fun h0 => absurd (hr ▸ h0) hne,hr ▸ h⟩
theorem till_done {listed : Array Bool} {a : Act} {w : World} (hr : Region.ready md ops listed = []) (h : Q .normal a w) :
  ∀ fuel,TillK P md ops Q F k fuel listed a w
 | 0 => ⟨hr,h⟩
 | _ + 1 => ⟨fun _ => h,by rw [hr];simp⟩
theorem till_begin {id : Nat} {a : Act} {w : World} (k : Nat) (F : World → Prop) (hm : P.follows .mixedOrders = true) (hF : F w.drew)
  (h : F w.drew → TillK P .any ops Q F k ops.size (Array.replicate ops.size false) a w.drew) : (Code.region id ops true).wp P Q a w :=
 wp_region_any hm (till_any _ _ _ _ (h hF))
theorem till_late {i : Nat} {oi : Oper} {v : Value} {fuel : Nat} {listed : Array Bool} {a : Act} {w : World} (hi : ops[i]? = some oi)
  (hl : (listed.setIfInBounds i true).getD k true = true) (hr : Region.ready md ops listed = [i]) (hy : YieldsIf P ops (fun _ => True) oi v a)
  (h : TillK P md ops Q F k fuel (listed.setIfInBounds i true) (a.put oi.dst v) w) : TillK P md ops Q F k (fuel + 1) listed a w := by
 refine till_ready hr (by simp) fun j hj => ?_
 rcases List.mem_singleton.1 hj with rfl
 exact hy.wpOp hi trivial ⟨fun h => absurd h (by rw [hl];simp),h⟩
end
end Go.Proofs.YtldikghldcefcaaGreat
end

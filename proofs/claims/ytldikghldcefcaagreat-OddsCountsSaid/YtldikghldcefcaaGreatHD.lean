/- Lemmas, merged out of smaller texts (wip/tools/mergedce.py). No condition. -/
import Derived.Test.YtldikghldcefcaaGreatProg
import Derived.Deep.LoopGhost
import Derived.BigQuiet
import Derived.Deep.RegionHeld3
import Derived.Deep.DeepCutAuto
import Derived.Laws.Rows
import Derived.Deep.MidRow
import Derived.Deep.RegionWith
import Derived.WalkKit
import Derived.Maps.OwnOps
import Derived.Maps.Views
import Derived.WalkMore
import Derived.Test.YtldikghldcefcaaGreatHCore
import Derived.Test.YtldikghldcefcaaGreatHC
import Derived.Test.YtldikghldcefcaaGreatHB
section
set_option linter.unusedVariables false
set_option linter.unusedSimpArgs false
namespace Go.Proofs.YtldikghldcefcaaGreat
open Go.RowKit
theorem oof_any (n : Int) (w : World) (h : n ≤ 9223372036854775807) : Calls Tryz.prog 41 #[.int .i64 n] w (SomeNat n.toNat w) := by
 have hR0 : Row (w.alloc (.cells #[.slice none 0 0] 30)) w.heap.size 30 [.slice none 0 0] := Row.newOf _ rfl
 by_cases h0 : n < 0
 ·have e : n.toNat = 0 := by omega
  rw [e]
  clear e
  go_enter Tryz.func41,Tryz.ntmps41
  go_wp2
  refine bodyPost_ret (v := .agg #[.slice none 0 0]) (by simp [results,Tryz.results41,go_sem]) rfl ⟨_,rfl,NV.zero _,?_⟩
  first | exact Bel.al (Below.refl _ _) _ | exact Bel.st (Bel.al (Below.refl _ _) _) (Nat.le_refl _) _
 ·have wr : IntKind.u64.wrap n = n := by rw [IntKind.wrap_u64];omega
  go_enter Tryz.func41,Tryz.ntmps41
  go_wp2_with fail
  refine (of_int n _ (by omega) (by omega)).mono ?_
  rintro e w1 ⟨u,rfl,hu,hb1⟩
  obtain ⟨ua,ul,uc,rfl⟩ := Rd.shape hu
  have rR := Row.keep hR0 hb1
  have cR := rR.cell? 0
  have fR := rR.frozen 0
  simp only [List.getElem?_cons_zero] at cR
  have hbw := Bel.one _ hb1
  have hf := Rd.setNe hu cR (fun _ h => by cases h) (.slice ua ul uc)
  have bel := Bel.st hbw (p := ⟨w.heap.size,0,none⟩) (Nat.le_refl _) (.slice ua ul uc)
  clear hR0 hb1 rR hu hbw
  go_wp2
  exact bodyPost_ret (v := .agg #[.slice ua ul uc]) (by simp [results,Tryz.results41,go_sem,cR]) rfl ⟨_,rfl,hf,bel⟩
set_option maxHeartbeats 4000000 in
set_option maxRecDepth 100000 in
theorem oprod_any (v : Value) (ps : List NatM) (w : World) (h : NatsR w v ps) (hl : limS (ps.map (·.2)) ≤ 63) (hn : ps.length ≤ 1000) :
  Calls Tryz.prog 40 #[v] w (NatC (prodL (ps.map (·.2))) 0 w) := by
 obtain ⟨aa,ca,rfl,hlc,hcm⟩ := RdS.shape h.1
 have hR0 : Row (w.alloc (.cells #[.slice none 0 0] 30)) w.heap.size 30 [.slice none 0 0] := Row.newOf _ rfl
 have hh := hide h
 obtain ⟨n,hnn⟩ : ∃ n,n = ps.length := ⟨_,rfl⟩
 rw [← hnn] at hn ⊢
 have hnn2 := hide hnn
 clear h hlc hcm hnn
 go_enter Tryz.func40,Tryz.ntmps40
 go_wp2_with fail
 refine (of_int 1 _ (by omega) (by omega)).mono ?_
 rintro e w1 ⟨u,rfl,hu,hb1⟩
 obtain ⟨ua,ul,uc,rfl⟩ := Rd.shape hu
 have rR := Row.keep hR0 hb1
 have bel := Bel.one _ hb1
 clear hR0 hb1
 go_upto_region 2 with (fail)
 obtain ⟨b4,hb4⟩ : ∃ b4,b4 = w1.heap.size := ⟨_,rfl⟩
 obtain ⟨w2,hw2⟩ : ∃ X,X = w1.alloc (.cells #[.slice ua ul uc] 30) := ⟨_,rfl⟩
 have b2 : Below w1.heap.size w1 w2 := by rw [hw2];exact Bel.al (Below.refl _ _) _
 have rP : Row w2 b4 30 [.slice ua ul uc] := by rw [hw2,hb4];exact Row.newOf _ rfl
 have h40 : w.heap.size < b4 := by have := rR.lt;omega
 rw [← hw2,← hb4]
 clear hw2 hb4
 replace rR := Row.keep rR b2
 replace bel := Bel.to bel b2
 replace hu := Rd.below hu b2
 clear b2
 go_wp2
 go_loopw [11] (fun ti wr => ∃ (i : Nat) (pa : Option Addr) (pn pc : Nat),i ≤ n ∧ ti = .int .i64 (i : Int) ∧ Row wr b4 30 [.slice pa pn pc] ∧ NV wr (.slice pa pn pc) (prodL ((ps.map (·.2)).take i)) ∧ Row wr w.heap.size 30 [.slice none 0 0] ∧ Below w.heap.size w wr) (fun ti _ => n - (intOf ti).toNat)
 case atStart => exact ⟨0,ua,ul,uc,Nat.zero_le _,rfl,rP,hu,rR,bel⟩
 case round =>
  clear rP hu rR bel
  obtain ⟨i,pa,pn,pc,hi,rfl,rP,hp,rR,bel⟩ := hrel
  have c4 := rP.cell? 0
  have f4 := rP.frozen 0
  simp only [List.getElem?_cons_zero] at c4
  by_cases hin : i < n
  ·have hil : i < ps.length := by have := hnn2.out;omega
   obtain ⟨b,off,rfl,hbb,hcell⟩ := hh.out.1.at_ hil
   obtain ⟨m,hm⟩ : ∃ m,m = ps[i] := ⟨_,rfl⟩
   have hmi : ps[i]? = some m := by rw [hm];exact List.getElem?_eq_getElem hil
   have hmem : m ∈ ps := by rw [hm];exact List.getElem_mem _
   have e1 : wr.cell? ⟨b,off + i,none⟩ = some m.1 := by
    have h1 := hcell i m hmi 0 m.1 rfl
    rw [Nat.mul_one,Nat.add_zero] at h1
    exact Bel.cellOf bel h1
   have hmv := Rd.below (hh.out.2 m hmem) bel
   have hml : (limbs m.2).length ≤ 64 := by have := limS_mem (List.mem_map_of_mem (f := (·.2)) hmem);omega
   have hpl : (limbs (prodL ((ps.map (·.2)).take i))).length ≤ 64 := by have := limS_pre (ps.map (·.2)) i;omega
   have hpl2 := limS_pre (ps.map (·.2)) (i + 1)
   have hst : Hid (prodL ((ps.map (·.2)).take (i + 1)) = prodL ((ps.map (·.2)).take i) * m.2) := by
    show _ = _
    rw [prodL_take _ _ (by rw [List.length_map];exact hil),List.getElem_map,hm]
   have hpl3 : (limbs (prodL ((ps.map (·.2)).take i) * m.2)).length ≤ 64 := by rw [← hst.out];omega
   obtain ⟨q,hq⟩ : ∃ q,q = prodL ((ps.map (·.2)).take i) := ⟨_,rfl⟩
   rw [← hq] at hp hpl hst hpl3
   clear hq hcell hmi hmem hm hpl2
   obtain ⟨mv,mn⟩ := m
   simp only [] at e1 hmv hml hst hpl3
   obtain ⟨ma,ml,mc,rfl⟩ := Rd.shape hmv
   have i2 : (i : Int) < (n : Int) := by omega
   go_upto_region 5 with (fail)
   obtain ⟨w6,hw6⟩ : ∃ X,X = wr.alloc (.cells #[.slice ma ml mc] 30) := ⟨_,rfl⟩
   have b6 : Below wr.heap.size wr w6 := by rw [hw6];exact Bel.al (Below.refl _ _) _
   have rM : Row w6 wr.heap.size 30 [.slice ma ml mc] := by rw [hw6];exact Row.newOf _ rfl
   rw [← hw6]
   clear hw6 c4 f4 e1
   replace rP := Row.keep rP b6
   replace rR := Row.keep rR b6
   replace bel := Bel.to bel b6
   replace hp := Rd.below hp b6
   replace hmv := Rd.below hmv b6
   have c4 := rP.cell? 0
   have c6 := rM.cell? 0
   simp only [List.getElem?_cons_zero] at c4 c6
   clear b6
   go_wp2_with fail
   refine (mul_any _ _ q mn _ hp hmv hpl hml).mono ?_
   rintro e w7 ⟨u,c,rfl,hc,hu,hb7⟩
   have hc0 := hc.out
   rw [if_pos hpl3] at hc0 hu
   subst hc0
   obtain ⟨ya,yl,yc,rfl⟩ := Rd.shape hu
   replace rP := Row.keep rP hb7
   replace rR := Row.keep rR hb7
   replace bel := Bel.to bel hb7
   have c4 := rP.cell? 0
   have f4 := rP.frozen 0
   simp only [List.getElem?_cons_zero] at c4
   have hu2 := Rd.setNe hu c4 (fun _ h => by cases h) (.slice ya yl yc)
   have rP2 := Row.set rP 0 (.slice ya yl yc)
   simp only [zsB] at rP2
   have rR2 := Row.far rR (p := ⟨b4,0,none⟩) (by simp only [];omega) (.slice ya yl yc)
   have bel2 := Bel.st bel (p := ⟨b4,0,none⟩) (by simp only [];omega) (.slice ya yl yc)
   rw [← hst.out] at hu2
   clear hb7 hu hp hmv rM hc
   go_wp2
   go_roundw
   case rel => exact ⟨i + 1,ya,yl,yc,by omega,by go_num,rP2,hu2,rR2,bel2⟩
   case measure => simp [intOf];omega
  ·obtain rfl : i = n := by omega
   rw [List.take_of_length_le (by rw [List.length_map,← hnn2.out];exact Nat.le_refl _)] at hp
   have cR := rR.cell? 0
   have fR := rR.frozen 0
   simp only [List.getElem?_cons_zero] at cR
   have hf := Rd.setNe hp cR (fun _ h => by cases h) (.slice pa pn pc)
   have belf := Bel.st bel (p := ⟨w.heap.size,0,none⟩) (Nat.le_refl _) (.slice pa pn pc)
   go_wp2
   exact bodyPost_ret (v := .tuple #[.agg #[.slice pa pn pc],.int .i64 0]) (by simp [results,Tryz.results40,go_sem,cR]) rfl ⟨_,rfl,hf,belf⟩
end Go.Proofs.YtldikghldcefcaaGreat
end
section
open Go.RowKit
set_option linter.unusedVariables false
set_option linter.unusedSimpArgs false
namespace Go.Proofs.YtldikghldcefcaaGreat
def lotT (k : Nat) : List TierD := (List.range k).map fun (i : Nat) => (⟨6 - (i : Int),0,0,0,1,1000⟩ : TierD)
def lotG (k : Nat) : GameD := ⟨⟨#[97]⟩,1,200,6,49,0,0,0,1,6,1,0,0,0,1,0,0,1,0,0,[],lotT k⟩
def lottoG : GameD := lotG 4
theorem lotT_succ (k : Nat) : lotT (k + 1) = lotT k ++ [⟨6 - (k : Int),0,0,0,1,1000⟩] := by simp [lotT,List.range_succ]
theorem lotT_len (k : Nat) : (lotT k).length = k := by simp [lotT]
theorem tier_lenL (t : TierD) : (tierCells t).length = 6 := rfl
theorem infoTL : (Tryz.prog.info? 73).map (fun i => (i.zero,i.size,i.bytes)) = some (some (.agg #[.int .i64 0,.int .i64 0,.int .i64 0,.int .i64 0,.int .i64 0,.int .i64 0]),6,48) := by kernel_rfl
abbrev LOwn (w : World) (base : Nat) (v : Value) (k : Nat) : Prop := OwnS 6 tierCells (fun _ _ => True) w base 73 v (lotT k)
theorem LOwn.far {w : World} {base : Nat} {v : Value} {k : Nat} (h : LOwn w base v k) {p : Addr} (hp : p.block < base) (u : Value) : LOwn (w.setCell p u) base v k :=
 ⟨ownsRow_setCell_below h.1 hp u,fun _ _ _ _ => trivial⟩
set_option maxHeartbeats 4000000 in
set_option maxRecDepth 100000 in
theorem lotto35_any (w : World) : Calls Tryz.prog 27 #[] w (GameB lottoG w) := by
  go_enter Tryz.func27, Tryz.ntmps27
  go_upto_region 1 with (fail)
  obtain ⟨W, hW⟩ : ∃ W, W = (w.alloc (Obj.cells #[.string ⟨#[]⟩, .int .i64 0, .int .i64 0, .int .i64 0, .int .i64 0, .int .i64 0, .int .i64 0, .int .i64 0, .int .i64 0, .int .i64 0, .int .i64 0, .int .i64 0, .int .i64 0, .int .i64 0, .int .i64 0, .int .i64 0, .int .i64 0, .int .i64 0, .int .i64 0, .int .i64 0, .slice none 0 0, .slice none 0 0] 25)) := ⟨_, rfl⟩
  have bW : Below w.heap.size w W := by rw [hW]; exact Bel.al (Below.refl _ _) _
  have r0 : Row W ((w.heap.size)) 25 [.string ⟨#[]⟩, .int .i64 0, .int .i64 0, .int .i64 0, .int .i64 0, .int .i64 0, .int .i64 0, .int .i64 0, .int .i64 0, .int .i64 0, .int .i64 0, .int .i64 0, .int .i64 0, .int .i64 0, .int .i64 0, .int .i64 0, .int .i64 0, .int .i64 0, .int .i64 0, .int .i64 0, .slice none 0 0, .slice none 0 0] := by rw [hW]; exact Row.new _ _ _
  have sW0 : W.heap.size = w.heap.size + 1 := by rw [hW]; simp
  have sW := hide sW0
  clear sW0
  rw [← hW]
  clear hW
  go_wp2_with (first | (with_reducible refine wpList_store_whole rfl 25 _ _ rfl W.heap.size _ rfl rfl 25 _ (Row.new _ _ _) ?_ ?_ ?_ ?_) | fail)
  case refine_1 => kernel_rfl
  case refine_2 => rfl
  case refine_3 => simp [Value.oneCell']
  intro W2 hrow hgr
  have r2 : Row W2 (w.heap.size + 1) 25 (gameCells (lotG 0) (.slice none 0 0) (.slice none 0 0)) := by rw [← sW.out]; exact hrow
  have bW2 : Below w.heap.size w W2 := Below.grown (Bel.al bW _) hgr (by have t9 := sW.out; simp; omega) (fun k hk => by injection hk with hk; have := sW.out; omega)
  have s2 : w.heap.size + 2 ≤ W2.heap.size := by
                                                    have h8 := hgr.size
                                                    have t9 := sW.out
                                                    simp at h8
                                                    omega
  have q0 : Row W2 w.heap.size 25 [.string ⟨#[]⟩, .int .i64 0, .int .i64 0, .int .i64 0, .int .i64 0, .int .i64 0, .int .i64 0, .int .i64 0, .int .i64 0, .int .i64 0, .int .i64 0, .int .i64 0, .int .i64 0, .int .i64 0, .int .i64 0, .int .i64 0, .int .i64 0, .int .i64 0, .int .i64 0, .int .i64 0, .slice none 0 0, .slice none 0 0] := Row.grown (Row.alloc r0 _) hgr (by intro e; injection e with e; have := sW.out; omega)
  have sW1 := sW.out
  rw [sW1]
  clear hrow hgr bW r0 sW sW1
  go_wp2
  go_loopg [2] 4 (fun gh mi wr => ∃ (k : Nat) (ta : Option Addr) (tc : Nat), gh = 4 - k ∧ k ≤ 4 ∧ mi = .int .i64 (6 - (k : Int)) ∧ LOwn wr (w.heap.size + 2) (.slice ta k tc) k ∧ Row wr (w.heap.size + 1) 25 (gameCells (lotG k) (.slice none 0 0) (.slice ta k tc)) ∧ Row wr w.heap.size 25 [.string ⟨#[]⟩, .int .i64 0, .int .i64 0, .int .i64 0, .int .i64 0, .int .i64 0, .int .i64 0, .int .i64 0, .int .i64 0, .int .i64 0, .int .i64 0, .int .i64 0, .int .i64 0, .int .i64 0, .int .i64 0, .int .i64 0, .int .i64 0, .int .i64 0, .int .i64 0, .int .i64 0, .slice none 0 0, .slice none 0 0] ∧ Below w.heap.size w wr ∧ w.heap.size + 2 ≤ wr.heap.size)
  case atStart => exact ⟨0, none, 0, rfl, by omega, rfl, OwnS.nil _ _ _, r2, q0, bW2, s2⟩
  case round =>
    clear r2 q0 bW2 s2
    obtain ⟨k, ta, tc, hgh, hk, rfl, ho, r2, q0, bel, s2⟩ := hrel
    replace hgh := hide hgh
    have c21 : wr.cell? ⟨w.heap.size + 1, 21, none⟩ = some (.slice ta k tc) := (Row.cell? r2 21).trans rfl
    by_cases hlt : k < 4
    · have hlt2 := hide hlt
      have h3 : (3 : Int) ≤ 6 - (k : Int) := by omega
      have f21 := Row.frozen r2 21
      go_wp2_with (first | (with_reducible refine wpList_appendS _ rfl _ _ 23 rfl (sz := 6) (V := tierCells) (R := fun _ _ => True) tier_lenL (w.heap.size + 2) 73 (.agg #[.int .i64 0, .int .i64 0, .int .i64 0, .int .i64 0, .int .i64 0, .int .i64 0]) 48 Tryz.underlying23 infoTL rfl (by decide) _ (lotT k) rfl ?_ _ [⟨6 - (k : Int), 0, 0, 0, 1, 1000⟩] rfl ?_ ?_ ?_ ?_ ?_ ?_ ?_) | fail)
      case refine_1 => exact ho.keep (Bel.al (Below.refl _ _) _)
      case refine_2 => exact RdS.one (Row.new wr 73 (tierCells ⟨6 - (k : Int), 0, 0, 0, 1, 1000⟩))
      case refine_3 => exact fun _ _ _ _ => trivial
      case refine_4 => intro x hx u hu; simp at hx; subst hx; simp [tierCells] at hu; rcases hu with rfl | rfl | rfl | rfl | rfl | rfl <;> rfl
      case refine_5 => rw [lotT_len]; simp; omega
      case refine_6 => rw [lotT_len]; simp; omega
      case refine_7 => simp; omega
      intro v6 W6 ho6 hg6 hv6
      rw [← lotT_succ] at ho6
      have r6 : Row W6 (w.heap.size + 1) 25 (gameCells (lotG k) (.slice none 0 0) (.slice ta k tc)) := Row.grown (Row.alloc r2 _) hg6 (fun e => by have := ho.lt _ e.symm; omega)
      have q6 := Row.grown (Row.alloc q0 (Obj.cells (tierCells ⟨6 - (k : Int), 0, 0, 0, 1, 1000⟩).toArray 73)) hg6 (fun e => by have := ho.lt _ e.symm; omega)
      have bel6 : Below w.heap.size w W6 := Below.grown (Bel.al bel _) hg6 (by simp; omega) (fun j hj => by have := ho.lt _ hj; omega)
      have s6 : w.heap.size + 2 ≤ W6.heap.size := by have := hg6.size; simp at this; omega
      have hsh := ho6.shape
      rw [lotT_len] at hsh
      obtain ⟨t6, c6, rfl⟩ := hsh
      clear hg6 hv6 r2 q0 bel s2 ho c21 f21
      have f6 := Row.frozen r6 21
      have c6x : W6.cell? ⟨w.heap.size + 1, 21, none⟩ = some (.slice ta k tc) := (Row.cell? r6 21).trans rfl
      have r7 : Row (W6.setCell ⟨w.heap.size + 1, 21, none⟩ (.slice t6 (k + 1) c6)) (w.heap.size + 1) 25 (gameCells (lotG (k + 1)) (.slice none 0 0) (.slice t6 (k + 1) c6)) := Row.set r6 21 _
      have ho7 := LOwn.far ho6 (p := ⟨w.heap.size + 1, 21, none⟩) (show w.heap.size + 1 < w.heap.size + 2 by omega) (.slice t6 (k + 1) c6)
      have q7 := q6.far (p := ⟨w.heap.size + 1, 21, none⟩) (show w.heap.size ≠ w.heap.size + 1 by omega) (.slice t6 (k + 1) c6)
      have bel7 := Bel.st bel6 (p := ⟨w.heap.size + 1, 21, none⟩) (show w.heap.size ≤ w.heap.size + 1 by omega) (.slice t6 (k + 1) c6)
      have s7 : w.heap.size + 2 ≤ (W6.setCell ⟨w.heap.size + 1, 21, none⟩ (.slice t6 (k + 1) c6)).heap.size := by simpa using s6
      clear ho6 q6 bel6 s6 r6
      go_wp2
      go_roundg (4 - (k + 1))
      case measure => have := hgh.out; have := hlt2.out; omega
      case rel => exact ⟨k + 1, t6, c6, rfl, by have := hlt2.out; omega, by go_num, ho7, r7, q7, bel7, s7⟩
    · obtain rfl : k = 4 := by omega
      have h3 : ¬ (3 : Int) ≤ 6 - ((4 : Nat) : Int) := by omega
      have rT := OwnS.rd tier_lenL ho
      have hown := ho
      clear c21
      go_wp2_with (first | (refine wpList_load_row rfl 25 _ rfl _ rfl _ _ _ _ r2 Tryz.underlying25 rfl (by kernel_rfl) ?_) | (with_reducible refine wpList_store_game rfl _ _ rfl w.heap.size (lotG 4) (.slice none 0 0) (.slice ta 4 tc) rfl rfl ⟨_, _, _, rfl⟩ ⟨_, _, _, rfl⟩ _ q0 ?_ ?_) | fail)
      intro W8 r8 g8
      have bel8 : Below w.heap.size w W8 := Below.grown bel g8 (by omega) (fun j hj => by injection hj with hj; omega)
      have hG : GameR W8 (.slice none 0 0) (.slice ta 4 tc) [] lottoG := ⟨⟨RdS.nil, fun i m hm => by simp at hm⟩, rfl, OwnS.rd tier_lenL (⟨World.ownsRow.kept hown.1 g8 (by
        cases hx : (Value.slice ta 4 tc).ownBlock with
        | none => exact .inl rfl
        | some j => exact .inr (fun e => by have h1 := (hown.lt j hx).1; injection e with e; omega)), fun _ _ _ _ => trivial⟩ : LOwn W8 (w.heap.size + 2) (.slice ta 4 tc) 4)⟩
      clear rT hown ho g8 r2 q0 bel
      go_wp2
      exact bodyPost_ret (v := gameVal lottoG (.slice none 0 0) (.slice ta 4 tc)) (results_cell_row rfl _ _ w.heap.size 25 _ (0, 0) _ rfl r8 Tryz.underlying25 rfl (by kernel_rfl)) rfl ⟨_, _, _, rfl, hG, bel8⟩
theorem within_any (x lo hi : Int) (w : World) : Calls Tryz.prog 92 #[.int .i64 x,.int .i64 lo,.int .i64 hi] w (Pure (.bool (inB x lo hi)) w) := by
 by_cases h1 : lo ≤ x
 ·by_cases h2 : x ≤ hi
  ·rw [inB_yes h1 h2]
   go_enter Tryz.func92,Tryz.ntmps92
   go_wp2
   go_ret
   exact ⟨rfl,rfl⟩
  ·rw [inB_hi (show hi < x by omega)]
   go_enter Tryz.func92,Tryz.ntmps92
   go_wp2
   go_ret
   exact ⟨rfl,rfl⟩
 ·rw [inB_lo (show x < lo by omega)]
  go_enter Tryz.func92,Tryz.ntmps92
  go_wp2
  go_ret
  exact ⟨rfl,rfl⟩
theorem rin_any (x lo hi : Int) (w : World) : Calls Tryz.prog 45 #[.int .i64 x,.int .i64 lo,.int .i64 hi] w (Pure (.bool (inB x lo hi)) w) := by
 by_cases h1 : lo ≤ x
 ·by_cases h2 : x ≤ hi
  ·rw [inB_yes h1 h2]
   go_enter Tryz.func45,Tryz.ntmps45
   go_wp2
   go_ret
   exact ⟨rfl,rfl⟩
  ·rw [inB_hi (show hi < x by omega)]
   go_enter Tryz.func45,Tryz.ntmps45
   go_wp2
   go_ret
   exact ⟨rfl,rfl⟩
 ·rw [inB_lo (show x < lo by omega)]
  go_enter Tryz.func45,Tryz.ntmps45
  go_wp2
  go_ret
  exact ⟨rfl,rfl⟩
set_option maxHeartbeats 1000000 in
theorem name_any (s : ByteArray) (w : World) : Calls Tryz.prog 60 #[.string s] w (Pure (.bool (nameB s)) w) := by
 by_cases h1 : 1 ≤ s.size ∧ s.size ≤ 24
 ·obtain ⟨h1,h2⟩ := h1
  have hp : 0 < s.size := by omega
  obtain ⟨c,hc⟩ : ∃ c,c = (s[0]'hp).toNat := ⟨_,rfl⟩
  have hcb := byteN_eq hp
  rw [← hc] at hcb
  by_cases h3 : 97 ≤ c ∧ c ≤ 122
  ·have h3a : 97 ≤ byteN s 0 := by rw [hcb];exact h3.1
   have h3b : byteN s 0 ≤ 122 := by rw [hcb];exact h3.2
   replace h3a := hide h3a
   replace h3b := hide h3b
   clear hcb
   subst hc
   obtain ⟨h3,h4⟩ := h3
   go_enter Tryz.func60,Tryz.ntmps60
   go_wp2
   go_loopg [25] s.size (fun g t wr => ∃ (i : Nat),g = s.size - i ∧ i ≤ s.size ∧ t = .int .i64 i ∧ w = wr ∧ ∀ j,j < i → nameC (byteN s j) = true)
   case atStart => exact ⟨0,rfl,Nat.zero_le _,rfl,rfl,fun j hj => absurd hj (Nat.not_lt_zero _)⟩
   case round =>
    obtain ⟨i,hg,hi,rfl,rfl,hall⟩ := hrel
    replace hg := hide hg
    replace hall := hide hall
    by_cases hlt : i < s.size
    ·have hb := byteN_eq hlt
     obtain ⟨d,hd⟩ : ∃ d,d = (s[i]'hlt).toNat := ⟨_,rfl⟩
     rw [← hd] at hb
     replace hb := hide hb
     by_cases hc : nameC d = true
     ·have hcc := hide hc
      unfold nameC at hc
      rw [decide_eq_true_iff] at hc
      have hnext : ∀ j,j < i + 1 → nameC (byteN s j) = true := by
       intro j hj
       rcases Nat.lt_succ_iff_lt_or_eq.1 hj with h | rfl
       ·exact hall.out j h
       ·rw [hb.out];exact hcc.out
      replace hnext := hide hnext
      rcases (show ((97 : Int) ≤ d ∧ (d : Int) ≤ 122) ∨ ((48 : Int) ≤ d ∧ (d : Int) ≤ 57 ∧ (d : Int) < 97) ∨ (((d : Int) != 45) = false ∧ (d : Int) < 48 ∧ (d : Int) < 97) by
       rcases hc with h | h | h
       ·exact .inl (by omega)
       ·exact .inr (.inl (by omega))
       ·exact .inr (.inr ⟨by subst h;rfl,by omega,by omega⟩)) with ⟨f1,f2⟩ | ⟨f1,f2,f3⟩ | ⟨f1,f2,f3⟩
      all_goals
       clear hc
       subst hd
       go_wp2
       all_goals
        go_roundg (s.size - (i + 1))
        case measure => have := hg.out;omega
        case rel => exact ⟨i + 1,rfl,by omega,by go_num,rfl,hnext.out⟩
     ·have hf : nameB s = false := name_at hlt (by rw [hb.out];simpa using hc)
      unfold nameC at hc
      rw [decide_eq_true_iff] at hc
      rw [hf]
      have f0 : ((d : Int) != 45) = true := by
       have : (d : Int) ≠ 45 := by omega
       simpa using this
      rcases (show ((d : Int) < 48 ∧ (d : Int) < 97) ∨ ((57 : Int) < d ∧ (48 : Int) ≤ d ∧ (d : Int) < 97) ∨ ((122 : Int) < d ∧ (57 : Int) < d ∧ (48 : Int) ≤ d ∧ (97 : Int) ≤ d) by omega) with ⟨f1,f2⟩ | ⟨f1,f2,f3⟩ | ⟨f1,f2,f3,f4⟩
      all_goals
       clear hc
       subst hd
       go_wp2
       all_goals
        first | (go_ret;exact ⟨rfl,rfl⟩) | (exfalso;rename_i k1 k2;(try simp at k1);(try simp at k2);omega)
    ·have hie : i = s.size := by omega
     have hyes := hide (name_yes h1 h2 h3a.out h3b.out (fun j hj => hall.out j (by omega)))
     go_wp2
     go_ret
     rw [hyes.out]
     exact ⟨rfl,rfl⟩
  ·rw [name_first (by rw [hcb];exact h3)]
   clear hcb
   rcases (show c < 97 ∨ 122 < c by omega) with h | h
   all_goals
    subst hc
    go_enter Tryz.func60,Tryz.ntmps60
    go_wp2
    all_goals
     go_ret
     exact ⟨rfl,rfl⟩
 ·rw [name_short h1]
  rcases (show s.size < 1 ∨ 24 < s.size by omega) with h | h
  all_goals
   clear h1
   go_enter Tryz.func60,Tryz.ntmps60
   go_wp2
   go_ret
   exact ⟨rfl,rfl⟩
set_option maxHeartbeats 1000000 in
theorem rname_any (s : ByteArray) (w : World) : Calls Tryz.prog 43 #[.string s] w (Pure (.bool (nameB s)) w) := by
 by_cases h1 : 1 ≤ s.size ∧ s.size ≤ 24
 ·obtain ⟨h1,h2⟩ := h1
  have hp : 0 < s.size := by omega
  obtain ⟨c,hc⟩ : ∃ c,c = (s[0]'hp).toNat := ⟨_,rfl⟩
  have hcb := byteN_eq hp
  rw [← hc] at hcb
  by_cases h3 : 97 ≤ c ∧ c ≤ 122
  ·have h3a : 97 ≤ byteN s 0 := by rw [hcb];exact h3.1
   have h3b : byteN s 0 ≤ 122 := by rw [hcb];exact h3.2
   replace h3a := hide h3a
   replace h3b := hide h3b
   clear hcb
   subst hc
   obtain ⟨h3,h4⟩ := h3
   go_enter Tryz.func43,Tryz.ntmps43
   go_wp2
   go_loopg [3] s.size (fun g t wr => ∃ (i : Nat),g = s.size - i ∧ i ≤ s.size ∧ t = .int .i64 i ∧ w = wr ∧ ∀ j,j < i → nameC (byteN s j) = true)
   case atStart => exact ⟨0,rfl,Nat.zero_le _,rfl,rfl,fun j hj => absurd hj (Nat.not_lt_zero _)⟩
   case round =>
    obtain ⟨i,hg,hi,rfl,rfl,hall⟩ := hrel
    replace hg := hide hg
    replace hall := hide hall
    by_cases hlt : i < s.size
    ·have hb := byteN_eq hlt
     obtain ⟨d,hd⟩ : ∃ d,d = (s[i]'hlt).toNat := ⟨_,rfl⟩
     rw [← hd] at hb
     replace hb := hide hb
     by_cases hc : nameC d = true
     ·have hcc := hide hc
      unfold nameC at hc
      rw [decide_eq_true_iff] at hc
      have hnext : ∀ j,j < i + 1 → nameC (byteN s j) = true := by
       intro j hj
       rcases Nat.lt_succ_iff_lt_or_eq.1 hj with h | rfl
       ·exact hall.out j h
       ·rw [hb.out];exact hcc.out
      replace hnext := hide hnext
      rcases (show ((97 : Int) ≤ d ∧ (d : Int) ≤ 122) ∨ ((48 : Int) ≤ d ∧ (d : Int) ≤ 57 ∧ (d : Int) < 97) ∨ (((d : Int) != 45) = false ∧ (d : Int) < 48 ∧ (d : Int) < 97) by
       rcases hc with h | h | h
       ·exact .inl (by omega)
       ·exact .inr (.inl (by omega))
       ·exact .inr (.inr ⟨by subst h;rfl,by omega,by omega⟩)) with ⟨f1,f2⟩ | ⟨f1,f2,f3⟩ | ⟨f1,f2,f3⟩
      all_goals
       clear hc
       subst hd
       go_wp2
       all_goals
        go_roundg (s.size - (i + 1))
        case measure => have := hg.out;omega
        case rel => exact ⟨i + 1,rfl,by omega,by go_num,rfl,hnext.out⟩
     ·have hf : nameB s = false := name_at hlt (by rw [hb.out];simpa using hc)
      unfold nameC at hc
      rw [decide_eq_true_iff] at hc
      rw [hf]
      have f0 : ((d : Int) != 45) = true := by
       have : (d : Int) ≠ 45 := by omega
       simpa using this
      rcases (show ((d : Int) < 48 ∧ (d : Int) < 97) ∨ ((57 : Int) < d ∧ (48 : Int) ≤ d ∧ (d : Int) < 97) ∨ ((122 : Int) < d ∧ (57 : Int) < d ∧ (48 : Int) ≤ d ∧ (97 : Int) ≤ d) by omega) with ⟨f1,f2⟩ | ⟨f1,f2,f3⟩ | ⟨f1,f2,f3,f4⟩
      all_goals
       clear hc
       subst hd
       go_wp2
       all_goals
        first | (go_ret;exact ⟨rfl,rfl⟩) | (exfalso;rename_i k1 k2;(try simp at k1);(try simp at k2);omega)
    ·have hie : i = s.size := by omega
     have hyes := hide (name_yes h1 h2 h3a.out h3b.out (fun j hj => hall.out j (by omega)))
     go_wp2
     go_ret
     rw [hyes.out]
     exact ⟨rfl,rfl⟩
  ·rw [name_first (by rw [hcb];exact h3)]
   clear hcb
   rcases (show c < 97 ∨ 122 < c by omega) with h | h
   all_goals
    subst hc
    go_enter Tryz.func43,Tryz.ntmps43
    go_wp2
    all_goals
     go_ret
     exact ⟨rfl,rfl⟩
 ·rw [name_short h1]
  rcases (show s.size < 1 ∨ 24 < s.size by omega) with h | h
  all_goals
   clear h1
   go_enter Tryz.func43,Tryz.ntmps43
   go_wp2
   go_ret
   exact ⟨rfl,rfl⟩
theorem allE_at {l : List Int} {lo hi : Int} {k : Nat} (hk : k < l.length) (h : inB l[k] lo hi = false) : allE l lo hi = 2 := by
 unfold allE
 rw [if_neg]
 intro e
 have := List.all_eq_true.1 e l[k] (List.getElem_mem hk)
 rw [h] at this;cases this
theorem allE_yes {l : List Int} {lo hi : Int} (h : ∀ k (hk : k < l.length),inB l[k] lo hi = true) : allE l lo hi = 0 := by
 unfold allE
 rw [if_pos]
 rw [List.all_eq_true]
 intro x hx
 obtain ⟨k,hk,rfl⟩ := List.getElem_of_mem hx
 exact h k hk
set_option maxHeartbeats 1000000 in
theorem checkAll_any (v : Value) (l : List Int) (lo hi : Int) (w : World) (h : Rd I64 w v l) :
  Calls Tryz.prog 118 #[v,.int .i64 lo,.int .i64 hi] w (Pure (.int .i64 (allE l lo hi)) w) := by
 obtain ⟨ao,cap,rfl,hle,hmax,hrd⟩ := Rd.form h
 have hmax2 : cap ≤ 9223372036854775807 := by unfold maxLen at hmax;omega
 go_enter Tryz.func118,Tryz.ntmps118
 go_wp2
 go_loopg [11] l.length (fun g t wr => ∃ (i : Nat),g = l.length - i ∧ i ≤ l.length ∧ t = .int .i64 i ∧ w = wr ∧ ∀ k (hk : k < l.length),k < i → inB l[k] lo hi = true)
 case atStart => exact ⟨0,rfl,Nat.zero_le _,rfl,rfl,fun k hk hki => absurd hki (Nat.not_lt_zero _)⟩
 case round =>
  obtain ⟨i,hg,hi',rfl,rfl,hall⟩ := hrel
  replace hg := hide hg
  replace hall := hide hall
  by_cases hlt : i < l.length
  ·have hlt2 := hide hlt
   obtain ⟨b,off,rfl,hbb,hcell⟩ := hrd.at_ hlt
   have i1 : (0 : Int) ≤ (i : Int) := by omega
   have i2 : (i : Int) < (l.length : Int) := by omega
   obtain ⟨x,hx,c1⟩ : ∃ x,x = l[i] ∧ w.cell? ⟨b,off + i,none⟩ = some (.int .i64 x) := ⟨_,rfl,hcell _ hlt⟩
   clear hcell
   by_cases hin : inB l[i] lo hi = true
   ·have hnext : ∀ k (hk : k < l.length),k < i + 1 → inB l[k] lo hi = true := by
     intro k hk hki
     rcases Nat.lt_succ_iff_lt_or_eq.1 hki with h | rfl
     ·exact hall.out k hk h
     ·exact hin
    replace hnext := hide hnext
    rw [← hx] at hin
    replace hx := hide hx
    go_wp2_with fail
    refine (within_any _ _ _ _).mono ?_
    rintro e w' ⟨rfl,rfl⟩
    rw [hin]
    go_wp2
    go_roundg (l.length - (i + 1))
    case measure => have := hg.out;omega
    case rel => exact ⟨i + 1,rfl,by have := hlt2.out;omega,by go_num,rfl,hnext.out⟩
   ·have hin' : inB l[i] lo hi = false := by simpa using hin
    have hr := hide (allE_at hlt hin')
    rw [← hx] at hin'
    clear hin
    replace hx := hide hx
    go_wp2_with fail
    refine (within_any _ _ _ _).mono ?_
    rintro e w' ⟨rfl,rfl⟩
    rw [hin']
    go_wp2
    go_ret
    rw [hr.out]
    exact ⟨rfl,rfl⟩
  ·have hr := hide (allE_yes (lo := lo) (hi := hi) (fun k hk => hall.out k hk (by omega)))
   go_wp2
   go_ret
   rw [hr.out]
   exact ⟨rfl,rfl⟩
theorem chooseT_any (g : GameD) (t : TierD) (av tv : Value) (w : World) :
  Calls Tryz.prog 119 #[gameVal g av tv,tierVal t] w (IntB (chooseTE g t) w) := by
 obtain ⟨gname,gkind,gprice,gmain,gof,gbonus,gbonusOf,gextra,gdraws,gsystem,gdays,gat,gclose,gcancel,gexpiry,gpool,greserve,ground,gcap,grolls,ga,gt⟩ := g
 obtain ⟨tmain,tbonus,textra,tmode,tkind,tvalue⟩ := t
 unfold gameVal tierVal chooseTE
 simp only []
 go_enter Tryz.func119,Tryz.ntmps119
 go_wp2_with (first | (go_at_call 92;refine (within_any _ _ _ _).mono ?_;rintro e w' ⟨rfl,rfl⟩) | fail)
 all_goals
  go_ret
  refine ⟨ret_int ?_,by first | exact Bel.al (Bel.al (Below.refl _ _) _) _ | exact Below.drew (Bel.al (Bel.al (Below.refl _ _) _) _) | exact Bel.drN (Bel.al (Bel.al (Below.refl _ _) _) _) _⟩
  simp_all
theorem mode_cases {m : Int} (h : ¬ (m = 1 ∨ m = 2 ∨ m = 3 ∨ m = 4)) : inB m 1 4 = false := decide_eq_false (by omega)
set_option maxHeartbeats 1000000 in
theorem digitsT_any (g : GameD) (t : TierD) (av tv : Value) (w : World) :
  Calls Tryz.prog 120 #[gameVal g av tv,tierVal t] w (IntB (digitsTE g t) w) := by
 obtain ⟨gname,gkind,gprice,gmain,gof,gbonus,gbonusOf,gextra,gdraws,gsystem,gdays,gat,gclose,gcancel,gexpiry,gpool,greserve,ground,gcap,grolls,ga,gt⟩ := g
 obtain ⟨tmain,tbonus,textra,tmode,tkind,tvalue⟩ := t
 unfold gameVal tierVal digitsTE
 simp only []
 by_cases hm : tmode = 1 ∨ tmode = 2 ∨ tmode = 3 ∨ tmode = 4
 ·rcases hm with rfl | rfl | rfl | rfl
  ·simp only [show inB 1 1 4 = true from rfl,show inB 2 1 4 = true from rfl,show ((1 : Int) ≤ 2) = True by simp,show ((2 : Int) ≤ 2) = True by simp,if_true]
   go_enter Tryz.func120,Tryz.ntmps120
   go_wp2_with (first | (go_at_call 92;refine (within_any _ _ _ _).mono ?_;rintro e w' ⟨rfl,rfl⟩) | fail)
   all_goals
    go_ret
    refine ⟨ret_int ?_,by first | exact Bel.al (Bel.al (Below.refl _ _) _) _ | exact Below.drew (Bel.al (Bel.al (Below.refl _ _) _) _) | exact Bel.drN (Bel.al (Bel.al (Below.refl _ _) _) _) _⟩
    simp_all
  ·simp only [show inB 1 1 4 = true from rfl,show inB 2 1 4 = true from rfl,show ((1 : Int) ≤ 2) = True by simp,show ((2 : Int) ≤ 2) = True by simp,if_true]
   go_enter Tryz.func120,Tryz.ntmps120
   go_wp2_with (first | (go_at_call 92;refine (within_any _ _ _ _).mono ?_;rintro e w' ⟨rfl,rfl⟩) | fail)
   all_goals
    go_ret
    refine ⟨ret_int ?_,by first | exact Bel.al (Bel.al (Below.refl _ _) _) _ | exact Below.drew (Bel.al (Bel.al (Below.refl _ _) _) _) | exact Bel.drN (Bel.al (Bel.al (Below.refl _ _) _) _) _⟩
    simp_all
  ·simp only [show inB 3 1 4 = true from rfl,show ((3 : Int) ≤ 2) = False by simp,if_false]
   go_enter Tryz.func120,Tryz.ntmps120
   go_wp2_with (first | (go_at_call 92;refine (within_any _ _ _ _).mono ?_;rintro e w' ⟨rfl,rfl⟩) | fail)
   all_goals (try (go_quiet (fail)))
   all_goals (try (go_wp2_with (first | (go_at_call 92;refine (within_any _ _ _ _).mono ?_;rintro e w' ⟨rfl,rfl⟩) | fail)))
   all_goals
    go_ret
    refine ⟨ret_int ?_,by first | exact Bel.al (Bel.al (Below.refl _ _) _) _ | exact Below.drew (Bel.al (Bel.al (Below.refl _ _) _) _) | exact Bel.drN (Bel.al (Bel.al (Below.refl _ _) _) _) _⟩
    simp_all
  ·simp only [show inB 4 1 4 = true from rfl,show ((4 : Int) ≤ 2) = False by simp,if_false]
   go_enter Tryz.func120,Tryz.ntmps120
   go_wp2_with (first | (go_at_call 92;refine (within_any _ _ _ _).mono ?_;rintro e w' ⟨rfl,rfl⟩) | fail)
   all_goals (try (go_quiet (fail)))
   all_goals (try (go_wp2_with (first | (go_at_call 92;refine (within_any _ _ _ _).mono ?_;rintro e w' ⟨rfl,rfl⟩) | fail)))
   all_goals
    go_ret
    refine ⟨ret_int ?_,by first | exact Bel.al (Bel.al (Below.refl _ _) _) _ | exact Below.drew (Bel.al (Bel.al (Below.refl _ _) _) _) | exact Bel.drN (Bel.al (Bel.al (Below.refl _ _) _) _) _⟩
    simp_all
 ·rw [if_pos (mode_cases hm)]
  simp only [not_or] at hm
  obtain ⟨h1,h2,h3,h4⟩ := hm
  go_enter Tryz.func120,Tryz.ntmps120
  go_wp2_with (first | (go_at_call 92;refine (within_any _ _ _ _).mono ?_;rintro e w' ⟨rfl,rfl⟩) | fail)
  go_ret
  exact ⟨rfl,Bel.al (Bel.al (Below.refl _ _) _) _⟩
set_option maxHeartbeats 1000000 in
theorem effMode_any (g : GameD) (t : TierD) (av tv : Value) (w : World) :
  Calls Tryz.prog 121 #[gameVal g av tv,tierVal t] w (IntB (modeV g t) w) := by
 obtain ⟨gname,gkind,gprice,gmain,gof,gbonus,gbonusOf,gextra,gdraws,gsystem,gdays,gat,gclose,gcancel,gexpiry,gpool,greserve,ground,gcap,grolls,ga,gt⟩ := g
 obtain ⟨tmain,tbonus,textra,tmode,tkind,tvalue⟩ := t
 unfold gameVal tierVal modeV
 simp only []
 go_enter Tryz.func121,Tryz.ntmps121
 go_wp2_with (first | (go_at_call 92;refine (within_any _ _ _ _).mono ?_;rintro e w' ⟨rfl,rfl⟩) | fail)
 all_goals
  go_ret
  refine ⟨ret_int ?_,by first | exact Bel.al (Bel.al (Below.refl _ _) _) _ | exact Below.drew (Bel.al (Bel.al (Below.refl _ _) _) _) | exact Bel.drN (Bel.al (Bel.al (Below.refl _ _) _) _) _⟩
  first | (rw [if_pos (by omega)];done) | (rw [if_neg (by simp_all;omega)];done) | (simp_all;done) | skip
theorem tierE_choose {g : GameD} {t : TierD} (h : g.kind ≠ 2) : tierE g t = if chooseTE g t ≠ 0 then chooseTE g t else if inB t.kind 1 3 = false then 7 else if inB t.value 0 1000000000 = false then 2 else 0 := by
 unfold tierE;simp only [if_neg h]
theorem tierE_digits {g : GameD} {t : TierD} (h : g.kind = 2) : tierE g t = if digitsTE g t ≠ 0 then digitsTE g t else if inB t.kind 1 3 = false then 7 else if inB t.value 0 1000000000 = false then 2 else 0 := by
 unfold tierE;simp only [if_pos h]
theorem kind_no {k : Int} (h : ¬ (k = 1 ∨ k = 2 ∨ k = 3)) : inB k 1 3 = false := decide_eq_false (by omega)
theorem kind_yes {k : Int} (h : k = 1 ∨ k = 2 ∨ k = 3) : inB k 1 3 = true := decide_eq_true (by omega)
set_option maxHeartbeats 2000000 in
set_option maxRecDepth 100000 in
theorem checkTier_choose (g : GameD) (t : TierD) (av tv : Value) (w : World) (hk : g.kind ≠ 2) :
  Calls Tryz.prog 94 #[gameVal g av tv,tierVal t] w (IntB (tierE g t) w) := by
 rw [tierE_choose hk]
 obtain ⟨r,hr⟩ : ∃ r,r = (if chooseTE g t ≠ 0 then chooseTE g t else if inB t.kind 1 3 = false then 7 else if inB t.value 0 1000000000 = false then 2 else 0) := ⟨_,rfl⟩
 rw [← hr]
 have c1 := hide (fun w => chooseT_any g t av tv w)
 obtain ⟨c,hc⟩ : ∃ c,c = chooseTE g t := ⟨_,rfl⟩
 rw [← hc] at hr c1
 clear hc
 obtain ⟨gname,gkind,gprice,gmain,gof,gbonus,gbonusOf,gextra,gdraws,gsystem,gdays,gat,gclose,gcancel,gexpiry,gpool,greserve,ground,gcap,grolls,ga,gt⟩ := g
 obtain ⟨tmain,tbonus,textra,tmode,tkind,tvalue⟩ := t
 simp only [] at hk hr
 unfold gameVal tierVal at c1 ⊢
 simp only [] at c1 ⊢
 replace hr := hide hr
 go_enter Tryz.func94,Tryz.ntmps94
 have hkb : (gkind == 2) = false := by simpa using hk
 replace hk := hide hk
 go_upto_region 1 with (fail)
 obtain ⟨W,hW⟩ : ∃ W,W = ((w.alloc (Obj.cells #[.string gname,.int .i64 gkind,.int .i64 gprice,.int .i64 gmain,.int .i64 gof,.int .i64 gbonus,.int .i64 gbonusOf,.int .i64 gextra,.int .i64 gdraws,.int .i64 gsystem,.int .i64 gdays,.int .i64 gat,.int .i64 gclose,.int .i64 gcancel,.int .i64 gexpiry,.int .i64 gpool,.int .i64 greserve,.int .i64 ground,.int .i64 gcap,.int .i64 grolls,av,tv] 25)).alloc (Obj.cells #[.int .i64 tmain,.int .i64 tbonus,.int .i64 textra,.int .i64 tmode,.int .i64 tkind,.int .i64 tvalue] 73)) := ⟨_,rfl⟩
 have bW : Below w.heap.size w W := by rw [hW];exact Bel.al (Bel.al (Below.refl _ _) _) _
 have r0 : Row W (w.heap.size) 25 [.string gname,.int .i64 gkind,.int .i64 gprice,.int .i64 gmain,.int .i64 gof,.int .i64 gbonus,.int .i64 gbonusOf,.int .i64 gextra,.int .i64 gdraws,.int .i64 gsystem,.int .i64 gdays,.int .i64 gat,.int .i64 gclose,.int .i64 gcancel,.int .i64 gexpiry,.int .i64 gpool,.int .i64 greserve,.int .i64 ground,.int .i64 gcap,.int .i64 grolls,av,tv] := by rw [hW];exact Row.alloc (Row.new _ _ _) _
 have c0_1 : W.cell? ⟨w.heap.size,1,none⟩ = some (.int .i64 gkind) := Row.cell r0 (i := 1) (by simp)
 have r1 : Row W (w.heap.size + 1) 73 [.int .i64 tmain,.int .i64 tbonus,.int .i64 textra,.int .i64 tmode,.int .i64 tkind,.int .i64 tvalue] := by rw [hW];exact Row.at2 _ _ _ _
 have c1_4 : W.cell? ⟨w.heap.size + 1,4,none⟩ = some (.int .i64 tkind) := Row.cell r1 (i := 4) (by simp)
 have c1_5 : W.cell? ⟨w.heap.size + 1,5,none⟩ = some (.int .i64 tvalue) := Row.cell r1 (i := 5) (by simp)
 have sW : w.heap.size + 1 < W.heap.size := by rw [hW];simp
 rw [← hW]
 clear hW
 go_wp2_with (first | (refine wpList_load_row rfl 25 _ rfl _ rfl _ _ _ _ r0 Tryz.underlying25 rfl (by kernel_rfl) ?_) | (refine wpList_load_row rfl 73 _ rfl _ rfl _ _ _ _ r1 Tryz.underlying73 rfl (by kernel_rfl) ?_) | fail)
 refine (c1.out _).mono ?_
 rintro e w1 ⟨rfl,hb1⟩
 have b1' : Below w.heap.size w w1 := Bel.to bW hb1
 have k4 := Bel.cellOf hb1 c1_4
 have k5 := Bel.cellOf hb1 c1_5
 clear hb1 c1 r0 r1 c0_1 c1_4 c1_5 bW sW
 by_cases hc0 : c = 0
 ·have e1 : tkind = 1 ∨ tkind = 2 ∨ tkind = 3 ∨ ¬ (tkind = 1 ∨ tkind = 2 ∨ tkind = 3) := by omega
  subst hc0
  rcases e1 with rfl | rfl | rfl | h
  case inr.inr.inr =>
   have hf := hide (kind_no h)
   have n1 : (tkind != 1) = true := by simp;omega
   have n2 : (tkind != 2) = true := by simp;omega
   have n3 : (tkind != 3) = true := by simp;omega
   clear h
   go_wp2
   go_ret
   refine ⟨ret_int ?_,b1'⟩
   rw [hr.out,if_neg (by simp),if_pos hf.out]
  all_goals
   go_wp2_with (first | (go_at_call 92;refine (within_any _ _ _ _).mono ?_;rintro e w' ⟨rfl,rfl⟩) | fail)
   all_goals
    go_ret
    refine ⟨ret_int ?_,b1'⟩
    rw [hr.out,if_neg (by simp),if_neg (by rw [kind_yes (by omega)];simp)]
    simp_all
 ·have hcb : (c != 0) = true := by simpa using hc0
  go_wp2
  go_ret
  refine ⟨ret_int ?_,b1'⟩
  rw [hr.out,if_pos hc0]
set_option maxHeartbeats 2000000 in
set_option maxRecDepth 100000 in
theorem checkTier_digits (g : GameD) (t : TierD) (av tv : Value) (w : World) (hk : g.kind = 2) :
  Calls Tryz.prog 94 #[gameVal g av tv,tierVal t] w (IntB (tierE g t) w) := by
 rw [tierE_digits hk]
 obtain ⟨r,hr⟩ : ∃ r,r = (if digitsTE g t ≠ 0 then digitsTE g t else if inB t.kind 1 3 = false then 7 else if inB t.value 0 1000000000 = false then 2 else 0) := ⟨_,rfl⟩
 rw [← hr]
 have c1 := hide (fun w => digitsT_any g t av tv w)
 obtain ⟨c,hc⟩ : ∃ c,c = digitsTE g t := ⟨_,rfl⟩
 rw [← hc] at hr c1
 clear hc
 obtain ⟨gname,gkind,gprice,gmain,gof,gbonus,gbonusOf,gextra,gdraws,gsystem,gdays,gat,gclose,gcancel,gexpiry,gpool,greserve,ground,gcap,grolls,ga,gt⟩ := g
 obtain ⟨tmain,tbonus,textra,tmode,tkind,tvalue⟩ := t
 simp only [] at hk hr
 unfold gameVal tierVal at c1 ⊢
 simp only [] at c1 ⊢
 replace hr := hide hr
 go_enter Tryz.func94,Tryz.ntmps94
 have hkb : (gkind == 2) = true := by simpa using hk
 replace hk := hide hk
 go_upto_region 1 with (fail)
 obtain ⟨W,hW⟩ : ∃ W,W = ((w.alloc (Obj.cells #[.string gname,.int .i64 gkind,.int .i64 gprice,.int .i64 gmain,.int .i64 gof,.int .i64 gbonus,.int .i64 gbonusOf,.int .i64 gextra,.int .i64 gdraws,.int .i64 gsystem,.int .i64 gdays,.int .i64 gat,.int .i64 gclose,.int .i64 gcancel,.int .i64 gexpiry,.int .i64 gpool,.int .i64 greserve,.int .i64 ground,.int .i64 gcap,.int .i64 grolls,av,tv] 25)).alloc (Obj.cells #[.int .i64 tmain,.int .i64 tbonus,.int .i64 textra,.int .i64 tmode,.int .i64 tkind,.int .i64 tvalue] 73)) := ⟨_,rfl⟩
 have bW : Below w.heap.size w W := by rw [hW];exact Bel.al (Bel.al (Below.refl _ _) _) _
 have r0 : Row W (w.heap.size) 25 [.string gname,.int .i64 gkind,.int .i64 gprice,.int .i64 gmain,.int .i64 gof,.int .i64 gbonus,.int .i64 gbonusOf,.int .i64 gextra,.int .i64 gdraws,.int .i64 gsystem,.int .i64 gdays,.int .i64 gat,.int .i64 gclose,.int .i64 gcancel,.int .i64 gexpiry,.int .i64 gpool,.int .i64 greserve,.int .i64 ground,.int .i64 gcap,.int .i64 grolls,av,tv] := by rw [hW];exact Row.alloc (Row.new _ _ _) _
 have c0_1 : W.cell? ⟨w.heap.size,1,none⟩ = some (.int .i64 gkind) := Row.cell r0 (i := 1) (by simp)
 have r1 : Row W (w.heap.size + 1) 73 [.int .i64 tmain,.int .i64 tbonus,.int .i64 textra,.int .i64 tmode,.int .i64 tkind,.int .i64 tvalue] := by rw [hW];exact Row.at2 _ _ _ _
 have c1_4 : W.cell? ⟨w.heap.size + 1,4,none⟩ = some (.int .i64 tkind) := Row.cell r1 (i := 4) (by simp)
 have c1_5 : W.cell? ⟨w.heap.size + 1,5,none⟩ = some (.int .i64 tvalue) := Row.cell r1 (i := 5) (by simp)
 have sW : w.heap.size + 1 < W.heap.size := by rw [hW];simp
 rw [← hW]
 clear hW
 go_wp2_with (first | (refine wpList_load_row rfl 25 _ rfl _ rfl _ _ _ _ r0 Tryz.underlying25 rfl (by kernel_rfl) ?_) | (refine wpList_load_row rfl 73 _ rfl _ rfl _ _ _ _ r1 Tryz.underlying73 rfl (by kernel_rfl) ?_) | fail)
 refine (c1.out _).mono ?_
 rintro e w1 ⟨rfl,hb1⟩
 have b1' : Below w.heap.size w w1 := Bel.to bW hb1
 have k4 := Bel.cellOf hb1 c1_4
 have k5 := Bel.cellOf hb1 c1_5
 clear hb1 c1 r0 r1 c0_1 c1_4 c1_5 bW sW
 by_cases hc0 : c = 0
 ·have e1 : tkind = 1 ∨ tkind = 2 ∨ tkind = 3 ∨ ¬ (tkind = 1 ∨ tkind = 2 ∨ tkind = 3) := by omega
  subst hc0
  rcases e1 with rfl | rfl | rfl | h
  case inr.inr.inr =>
   have hf := hide (kind_no h)
   have n1 : (tkind != 1) = true := by simp;omega
   have n2 : (tkind != 2) = true := by simp;omega
   have n3 : (tkind != 3) = true := by simp;omega
   clear h
   go_wp2
   go_ret
   refine ⟨ret_int ?_,b1'⟩
   rw [hr.out,if_neg (by simp),if_pos hf.out]
  all_goals
   go_wp2_with (first | (go_at_call 92;refine (within_any _ _ _ _).mono ?_;rintro e w' ⟨rfl,rfl⟩) | fail)
   all_goals
    go_ret
    refine ⟨ret_int ?_,b1'⟩
    rw [hr.out,if_neg (by simp),if_neg (by rw [kind_yes (by omega)];simp)]
    simp_all
 ·have hcb : (c != 0) = true := by simpa using hc0
  go_wp2
  go_ret
  refine ⟨ret_int ?_,b1'⟩
  rw [hr.out,if_pos hc0]
theorem checkTier_any (g : GameD) (t : TierD) (av tv : Value) (w : World) :
  Calls Tryz.prog 94 #[gameVal g av tv,tierVal t] w (IntB (tierE g t) w) := by
 by_cases h : g.kind = 2
 ·exact checkTier_digits g t av tv w h
 ·exact checkTier_choose g t av tv w h
theorem rangeAt_below {X X' : World} {b o : Nat} {cs : List Value} (hb : Below X.heap.size X X') (h : X.rangeAt b o cs) : X'.rangeAt b o cs := fun j v hv => Bel.cellOf hb (h j v hv)
theorem cov_keep {X X' : World} {b c d : Nat} {cs ds es : List Value} (hb : Below X.heap.size X X') (h : X.rangeAt b 0 cs ∧ X.rangeAt c 0 ds ∧ X.rangeAt d 0 es) : X'.rangeAt b 0 cs ∧ X'.rangeAt c 0 ds ∧ X'.rangeAt d 0 es :=
 ⟨rangeAt_below hb h.1,rangeAt_below hb h.2.1,rangeAt_below hb h.2.2⟩
theorem covers_choose (g : GameD) (a t : TierD) (av tv : Value) (w : World) (hk : g.kind = 1) :
  Calls Tryz.prog 95 #[gameVal g av tv,tierVal a,tierVal t] w (BoolB (coversB g a t) w) := by
 obtain ⟨r,hr⟩ : ∃ r,r = coversB g a t := ⟨_,rfl⟩
 rw [← hr]
 unfold coversB at hr
 rw [if_pos hk] at hr
 obtain ⟨gname,gkind,gprice,gmain,gof,gbonus,gbonusOf,gextra,gdraws,gsystem,gdays,gat,gclose,gcancel,gexpiry,gpool,greserve,ground,gcap,grolls,ga,gt⟩ := g
 obtain ⟨amain,abonus,aextra,amode,akind,avalue⟩ := a
 obtain ⟨tmain,tbonus,textra,tmode,tkind,tvalue⟩ := t
 simp only [] at hk hr
 unfold gameVal tierVal
 simp only []
 replace hr := hide hr
 subst hk
 go_enter Tryz.func95,Tryz.ntmps95
 go_wp2
 all_goals
  go_ret
  refine ⟨?_,Bel.al (Bel.al (Bel.al (Below.refl _ _) _) _) _⟩
  rw [hr.out]
  first | (simp_all;done) | (congr 2;simp_all;omega) | (rw [decide_eq_false (by omega)];done) | (rw [decide_eq_true (by omega)];done)
set_option maxHeartbeats 4000000 in
set_option maxRecDepth 100000 in
theorem covers_digits (g : GameD) (a t : TierD) (av tv : Value) (w : World) (hk : g.kind ≠ 1) :
  Calls Tryz.prog 95 #[gameVal g av tv,tierVal a,tierVal t] w (BoolB (coversB g a t) w) := by
 obtain ⟨r,hr⟩ : ∃ r,r = coversB g a t := ⟨_,rfl⟩
 rw [← hr]
 unfold coversB at hr
 rw [if_neg hk] at hr
 obtain ⟨gname,gkind,gprice,gmain,gof,gbonus,gbonusOf,gextra,gdraws,gsystem,gdays,gat,gclose,gcancel,gexpiry,gpool,greserve,ground,gcap,grolls,ga,gt⟩ := g
 obtain ⟨amain,abonus,aextra,amode,akind,avalue⟩ := a
 obtain ⟨tmain,tbonus,textra,tmode,tkind,tvalue⟩ := t
 obtain ⟨ma,hma⟩ : ∃ m,m = modeV ⟨gname,gkind,gprice,gmain,gof,gbonus,gbonusOf,gextra,gdraws,gsystem,gdays,gat,gclose,gcancel,gexpiry,gpool,greserve,ground,gcap,grolls,ga,gt⟩ ⟨amain,abonus,aextra,amode,akind,avalue⟩ := ⟨_,rfl⟩
 obtain ⟨mt,hmt⟩ : ∃ m,m = modeV ⟨gname,gkind,gprice,gmain,gof,gbonus,gbonusOf,gextra,gdraws,gsystem,gdays,gat,gclose,gcancel,gexpiry,gpool,greserve,ground,gcap,grolls,ga,gt⟩ ⟨tmain,tbonus,textra,tmode,tkind,tvalue⟩ := ⟨_,rfl⟩
 rw [← hma,← hmt] at hr
 simp only [] at hk hr
 unfold gameVal tierVal
 simp only []
 replace hr := hide hr
 replace hma := hide hma
 replace hmt := hide hmt
 have hkb : (gkind == 1) = false := by simpa using hk
 replace hk := hide hk
 go_enter Tryz.func95,Tryz.ntmps95
 go_upto_region 1 with (fail)
 obtain ⟨W,hW⟩ : ∃ W,W = (((w.alloc (Obj.cells #[.string gname,.int .i64 gkind,.int .i64 gprice,.int .i64 gmain,.int .i64 gof,.int .i64 gbonus,.int .i64 gbonusOf,.int .i64 gextra,.int .i64 gdraws,.int .i64 gsystem,.int .i64 gdays,.int .i64 gat,.int .i64 gclose,.int .i64 gcancel,.int .i64 gexpiry,.int .i64 gpool,.int .i64 greserve,.int .i64 ground,.int .i64 gcap,.int .i64 grolls,av,tv] 25)).alloc (Obj.cells #[.int .i64 amain,.int .i64 abonus,.int .i64 aextra,.int .i64 amode,.int .i64 akind,.int .i64 avalue] 73)).alloc (Obj.cells #[.int .i64 tmain,.int .i64 tbonus,.int .i64 textra,.int .i64 tmode,.int .i64 tkind,.int .i64 tvalue] 73)) := ⟨_,rfl⟩
 have bW : Below w.heap.size w W := by rw [hW];exact Bel.al (Bel.al (Bel.al (Below.refl _ _) _) _) _
 have r0 : Row W (w.heap.size) 25 [.string gname,.int .i64 gkind,.int .i64 gprice,.int .i64 gmain,.int .i64 gof,.int .i64 gbonus,.int .i64 gbonusOf,.int .i64 gextra,.int .i64 gdraws,.int .i64 gsystem,.int .i64 gdays,.int .i64 gat,.int .i64 gclose,.int .i64 gcancel,.int .i64 gexpiry,.int .i64 gpool,.int .i64 greserve,.int .i64 ground,.int .i64 gcap,.int .i64 grolls,av,tv] := by rw [hW];exact Row.alloc (Row.alloc (Row.new _ _ _) _) _
 have c0_1 : W.cell? ⟨w.heap.size,1,none⟩ = some (.int .i64 gkind) := Row.cell r0 (i := 1) (by simp)
 have r1 : Row W (w.heap.size + 1) 73 [.int .i64 amain,.int .i64 abonus,.int .i64 aextra,.int .i64 amode,.int .i64 akind,.int .i64 avalue] := by rw [hW];exact Row.alloc (Row.at2 _ _ _ _) _
 have c1_0 : W.cell? ⟨w.heap.size + 1,0,none⟩ = some (.int .i64 amain) := Row.cell r1 (i := 0) (by simp)
 have c1_1 : W.cell? ⟨w.heap.size + 1,1,none⟩ = some (.int .i64 abonus) := Row.cell r1 (i := 1) (by simp)
 have c1_2 : W.cell? ⟨w.heap.size + 1,2,none⟩ = some (.int .i64 aextra) := Row.cell r1 (i := 2) (by simp)
 have r2 : Row W (w.heap.size + 1 + 1) 73 [.int .i64 tmain,.int .i64 tbonus,.int .i64 textra,.int .i64 tmode,.int .i64 tkind,.int .i64 tvalue] := by rw [hW];exact Row.at3 _ _ _ _ _
 have c2_0 : W.cell? ⟨w.heap.size + 1 + 1,0,none⟩ = some (.int .i64 tmain) := Row.cell r2 (i := 0) (by simp)
 have c2_1 : W.cell? ⟨w.heap.size + 1 + 1,1,none⟩ = some (.int .i64 tbonus) := Row.cell r2 (i := 1) (by simp)
 have c2_2 : W.cell? ⟨w.heap.size + 1 + 1,2,none⟩ = some (.int .i64 textra) := Row.cell r2 (i := 2) (by simp)
 have sW : w.heap.size + 1 + 1 < W.heap.size := by rw [hW];simp
 rw [← hW]
 clear hW
 have pW : World.rangeAt W.drew (w.heap.size) 0 [.string gname,.int .i64 gkind,.int .i64 gprice,.int .i64 gmain,.int .i64 gof,.int .i64 gbonus,.int .i64 gbonusOf,.int .i64 gextra,.int .i64 gdraws,.int .i64 gsystem,.int .i64 gdays,.int .i64 gat,.int .i64 gclose,.int .i64 gcancel,.int .i64 gexpiry,.int .i64 gpool,.int .i64 greserve,.int .i64 ground,.int .i64 gcap,.int .i64 grolls,av,tv] ∧ World.rangeAt W.drew (w.heap.size + 1) 0 [.int .i64 amain,.int .i64 abonus,.int .i64 aextra,.int .i64 amode,.int .i64 akind,.int .i64 avalue] ∧ World.rangeAt W.drew (w.heap.size + 1 + 1) 0 [.int .i64 tmain,.int .i64 tbonus,.int .i64 textra,.int .i64 tmode,.int .i64 tkind,.int .i64 tvalue] := ⟨fun j v hv => by rw [Nat.zero_add];exact (Row.cell? r0 j).trans hv,fun j v hv => by rw [Nat.zero_add];exact (Row.cell? r1 j).trans hv,fun j v hv => by rw [Nat.zero_add];exact (Row.cell? r2 j).trans hv⟩
 clear c0_1 c1_0 c1_1 c1_2 c2_0 c2_1 c2_2
 have c0_1 : W.cell? ⟨w.heap.size,1,none⟩ = some (.int .i64 gkind) := Row.cell r0 (i := 1) (by simp)
 replace pW := hide pW
 go_upto_region 3 with (fail)
 go_cut [7,8] (fun x y X => x = .int .i64 ma ∧ y = .int .i64 mt ∧ X.cell? ⟨w.heap.size + 1,0,none⟩ = some (.int .i64 amain) ∧ X.cell? ⟨w.heap.size + 1 + 1,0,none⟩ = some (.int .i64 tmain) ∧ Below w.heap.size w X)
 case first =>
  have pV := pW.out
  refine wp_region_held_drew (S := fun X => World.rangeAt X (w.heap.size) 0 [.string gname,.int .i64 gkind,.int .i64 gprice,.int .i64 gmain,.int .i64 gof,.int .i64 gbonus,.int .i64 gbonusOf,.int .i64 gextra,.int .i64 gdraws,.int .i64 gsystem,.int .i64 gdays,.int .i64 gat,.int .i64 gclose,.int .i64 gcancel,.int .i64 gexpiry,.int .i64 gpool,.int .i64 greserve,.int .i64 ground,.int .i64 gcap,.int .i64 grolls,av,tv] ∧ World.rangeAt X (w.heap.size + 1) 0 [.int .i64 amain,.int .i64 abonus,.int .i64 aextra,.int .i64 amode,.int .i64 akind,.int .i64 avalue] ∧ World.rangeAt X (w.heap.size + 1 + 1) 0 [.int .i64 tmain,.int .i64 tbonus,.int .i64 textra,.int .i64 tmode,.int .i64 tkind,.int .i64 tvalue]) (by kernel_rfl) pV (fun hHeld => ?_)
  refine' wpAnyH_take (i := 0) (oi := _) (v := _) rfl (by kernel_rfl) (by kernel_rfl) (by kernel_rfl) (fun _ _ _ h => h) (yieldsIf_load_mid (by rfl) 25 _ rfl _ _ rfl [.string gname,.int .i64 gkind,.int .i64 gprice,.int .i64 gmain,.int .i64 gof,.int .i64 gbonus,.int .i64 gbonusOf,.int .i64 gextra,.int .i64 gdraws,.int .i64 gsystem,.int .i64 gdays,.int .i64 gat,.int .i64 gclose,.int .i64 gcancel,.int .i64 gexpiry,.int .i64 gpool,.int .i64 greserve,.int .i64 ground,.int .i64 gcap,.int .i64 grolls,av,tv] _ (fun X h => h.1) Tryz.underlying25 rfl (by kernel_rfl)) hHeld ?_
  try simp only [Act.put,zsA,zsB,zsC]
  refine' wpAnyH_take (i := 1) (oi := _) (v := _) rfl (by kernel_rfl) (by kernel_rfl) (by kernel_rfl) (fun _ _ _ h => h) (yieldsIf_load_mid (by rfl) 73 _ rfl _ _ rfl [.int .i64 amain,.int .i64 abonus,.int .i64 aextra,.int .i64 amode,.int .i64 akind,.int .i64 avalue] _ (fun X h => h.2.1) Tryz.underlying73 rfl (by kernel_rfl)) hHeld ?_
  try simp only [Act.put,zsA,zsB,zsC]
  refine' wpAnyH_take (i := 3) (oi := _) (v := _) rfl (by kernel_rfl) (by kernel_rfl) (by kernel_rfl) (fun _ _ _ h => h) (yieldsIf_load_mid (by rfl) 25 _ rfl _ _ rfl [.string gname,.int .i64 gkind,.int .i64 gprice,.int .i64 gmain,.int .i64 gof,.int .i64 gbonus,.int .i64 gbonusOf,.int .i64 gextra,.int .i64 gdraws,.int .i64 gsystem,.int .i64 gdays,.int .i64 gat,.int .i64 gclose,.int .i64 gcancel,.int .i64 gexpiry,.int .i64 gpool,.int .i64 greserve,.int .i64 ground,.int .i64 gcap,.int .i64 grolls,av,tv] _ (fun X h => h.1) Tryz.underlying25 rfl (by kernel_rfl)) hHeld ?_
  try simp only [Act.put,zsA,zsB,zsC]
  refine' wpAnyH_take (i := 4) (oi := _) (v := _) rfl (by kernel_rfl) (by kernel_rfl) (by kernel_rfl) (fun _ _ _ h => h) (yieldsIf_load_mid (by rfl) 73 _ rfl _ _ rfl [.int .i64 tmain,.int .i64 tbonus,.int .i64 textra,.int .i64 tmode,.int .i64 tkind,.int .i64 tvalue] _ (fun X h => h.2.2) Tryz.underlying73 rfl (by kernel_rfl)) hHeld ?_
  try simp only [Act.put,zsA,zsB,zsC]
  refine wpAnyH_ready (rs := [2]) (by kernel_rfl) (by simp) ?_
  refine AllReadyH.cons (o := _) rfl (fun K hK => ?_) AllReadyH.nil
  ·
   go_simp
   refine (effMode_any ⟨gname,gkind,gprice,gmain,gof,gbonus,gbonusOf,gextra,gdraws,gsystem,gdays,gat,gclose,gcancel,gexpiry,gpool,greserve,ground,gcap,grolls,ga,gt⟩ ⟨amain,abonus,aextra,amode,akind,avalue⟩ av tv _).mono ?_
   rintro e wa ⟨rfl,hba⟩
   have Ba := Bel.to (Below.drew bW) hba
   have pa := cov_keep hba pV
   go_wp2_with fail
   refine hK.out _ _ pa (fun hHeld => ?_)
   clear hK K
   try simp only [Act.put,zsA,zsB,zsC]
   refine wpAnyH_ready (rs := [5]) (by kernel_rfl) (by simp) ?_
   refine AllReadyH.cons (o := _) rfl (fun K hK => ?_) AllReadyH.nil
   go_simp
   refine (effMode_any ⟨gname,gkind,gprice,gmain,gof,gbonus,gbonusOf,gextra,gdraws,gsystem,gdays,gat,gclose,gcancel,gexpiry,gpool,greserve,ground,gcap,grolls,ga,gt⟩ ⟨tmain,tbonus,textra,tmode,tkind,tvalue⟩ av tv _).mono ?_
   rintro e wt ⟨rfl,hbt⟩
   have Bt := Bel.to Ba hbt
   have pt := cov_keep hbt pa
   go_wp2_with fail
   refine hK.out _ _ pt (fun hHeld => ?_)
   clear hK K
   try simp only [Act.put,zsA,zsB,zsC]
   refine' wpAnyH_take (i := 6) (oi := _) (v := .int .i64 (modeV ⟨gname,gkind,gprice,gmain,gof,gbonus,gbonusOf,gextra,gdraws,gsystem,gdays,gat,gclose,gcancel,gexpiry,gpool,greserve,ground,gcap,grolls,ga,gt⟩ ⟨amain,abonus,aextra,amode,akind,avalue⟩)) rfl (by kernel_rfl) (by kernel_rfl) (by kernel_rfl) (fun _ _ _ h => h) (Or.inl ⟨by rfl,fun X _ => by go_simp⟩) hHeld ?_
   try simp only [Act.put,zsA,zsB,zsC]
   refine' wpAnyH_take (i := 7) (oi := _) (v := .int .i64 (modeV ⟨gname,gkind,gprice,gmain,gof,gbonus,gbonusOf,gextra,gdraws,gsystem,gdays,gat,gclose,gcancel,gexpiry,gpool,greserve,ground,gcap,grolls,ga,gt⟩ ⟨tmain,tbonus,textra,tmode,tkind,tvalue⟩)) rfl (by kernel_rfl) (by kernel_rfl) (by kernel_rfl) (fun _ _ _ h => h) (Or.inl ⟨by rfl,fun X _ => by go_simp⟩) hHeld ?_
   try simp only [Act.put,zsA,zsB,zsC]
   refine wpAnyH_done (by kernel_rfl) ?_ _
   go_simp
   go_wp2_with fail
   go_meet
   rw [← hma.out,← hmt.out]
   have q := pt
   obtain ⟨h0,h1,h2⟩ := q
   exact ⟨rfl,rfl,h1 0 _ rfl,h2 0 _ rfl,Bt⟩
 case rest =>
  obtain ⟨rfl,rfl,k1,k2,hbel⟩ := hcut
  clear r0 r1 r2 bW sW c0_1 pW
  go_wp2
  all_goals
   go_ret
   refine ⟨?_,hbel⟩
   rw [hr.out]
   simp_all
theorem covers_any (g : GameD) (a t : TierD) (av tv : Value) (w : World) :
  Calls Tryz.prog 95 #[gameVal g av tv,tierVal a,tierVal t] w (BoolB (coversB g a t) w) := by
 by_cases h : g.kind = 1
 ·exact covers_choose g a t av tv w h
 ·exact covers_digits g a t av tv w h
set_option maxHeartbeats 1000000 in
set_option maxRecDepth 100000 in
theorem checkAddon_any (m : AddonM) (w : World) (h : AddonR w m) :
  Calls Tryz.prog 93 #[addonVal m] w (IntB (addonE m.d) w) := by
 obtain ⟨⟨aname,akind,aprice,afactors,adigits,aprizes⟩,fv,pv⟩ := m
 obtain ⟨hf,hp⟩ := h
 simp only [] at hf hp
 obtain ⟨fa,fc,rfl,hfl,hfm,hfr⟩ := Rd.form hf
 obtain ⟨pa,pc,rfl,hpl,hpm,hpr⟩ := Rd.form hp
 obtain ⟨r,hr⟩ : ∃ r,r = addonE ⟨aname,akind,aprice,afactors,adigits,aprizes⟩ := ⟨_,rfl⟩
 simp only []
 rw [← hr]
 unfold addonE at hr
 unfold addonVal
 simp only [] at hr ⊢
 obtain ⟨nm,hnm⟩ : ∃ b,b = nameB aname := ⟨_,rfl⟩
 obtain ⟨cf,hcf⟩ : ∃ c,c = allE afactors 1 100 := ⟨_,rfl⟩
 obtain ⟨cp,hcp⟩ : ∃ c,c = allE aprizes 0 1000000000 := ⟨_,rfl⟩
 rw [← hnm,← hcf,← hcp] at hr
 replace hr := hide hr
 replace hnm := hide hnm
 replace hcf := hide hcf
 replace hcp := hide hcp
 clear hf hp
 go_enter Tryz.func93,Tryz.ntmps93
 go_wp2_with (first | (go_at_call 92;refine (within_any _ _ _ _).mono ?_;rintro e w' ⟨rfl,rfl⟩) | (go_at_call 60;refine (name_any _ _).mono ?_;rintro e w' ⟨rfl,rfl⟩;rw [← hnm.out]) | (go_at_call_of 118 fa;refine (checkAll_any _ afactors _ _ _ (hfr.alloc _)).mono ?_;rintro e w' ⟨rfl,rfl⟩;rw [← hcf.out]) | (go_at_call_of 118 pa;refine (checkAll_any _ aprizes _ _ _ (hpr.alloc _)).mono ?_;rintro e w' ⟨rfl,rfl⟩;rw [← hcp.out]) | fail)
 all_goals
  go_ret
  refine ⟨ret_int ?_,Bel.al (Below.refl _ _) _⟩
  replace hr := hr.out
  first | (simp_all <;> omega) | skip
end Go.Proofs.YtldikghldcefcaaGreat
end
section
open Go.RowKit
set_option linter.unusedVariables false
namespace Go.Proofs.YtldikghldcefcaaGreat
open Go.Maps (Keyed)
theorem plainElem_bool_inv {H : Type} {P : Program} {e : TypeId} (he : P.underlying e = some .bool) {v : Value} {z : DataW H × List MemPlace} (h : plainElem P e v = some z) : ∃ x,v = .bool x ∧ z = (.lit (.bool x),[]) := by
 unfold plainElem at h
 rw [he] at h
 cases v <;> simp at h
 exact ⟨_,rfl,h.symm⟩
def SetIs (P : Program) (k e : TypeId) (w : World) (b n : Nat) (S : List Lit) : Prop :=
 ∃ D : DataW Unit,Go.Maps.IsMap D ∧ w.ownsMap P k (plainElem P e) b n D ∧ ∀ kl,WideAt.IsKeyLit kl → D.atKey kl (.lit (.bool false)) = .lit (.bool (S.any (fun y => y.sameKey kl)))
theorem SetIs.made (P : Program) (k e : TypeId) (w : World) : SetIs P k e (w.alloc (.map #[] 0)) w.heap.size 0 [] :=
 ⟨.map [],Go.Maps.isMap_empty,World.ownsMap_made w P k _,fun _ _ => rfl⟩
theorem SetIs.alloc {P : Program} {k e : TypeId} {w : World} {b n : Nat} {S : List Lit} (h : SetIs P k e w b n S) (o : Obj) : SetIs P k e (w.alloc o) b n S := by
 obtain ⟨D,h1,h2,h3⟩ := h
 exact ⟨D,h1,h2.alloc o,h3⟩
theorem SetIs.drew {P : Program} {k e : TypeId} {w : World} {b n : Nat} {S : List Lit} (h : SetIs P k e w b n S) : SetIs P k e w.drew b n S := h
theorem SetIs.kept {P : Program} {k e : TypeId} {w w' : World} {b n : Nat} {S : List Lit} {row : Option Nat} (h : SetIs P k e w b n S) (hg : w.grownBy w' row) (hne : some b ≠ row) : SetIs P k e w' b n S := by
 obtain ⟨D,h1,h2,h3⟩ := h
 exact ⟨D,h1,h2.kept hg hne,h3⟩
theorem SetIs.lt {P : Program} {k e : TypeId} {w : World} {b n : Nat} {S : List Lit} (h : SetIs P k e w b n S) : b < w.heap.size := by
 obtain ⟨D,h1,h2,h3⟩ := h
 exact h2.lt
theorem SetIs.below {P : Program} {k e : TypeId} {w w' : World} {b n : Nat} {S : List Lit} (h : SetIs P k e w b n S) (hb : Below w.heap.size w w') : SetIs P k e w' b n S := by
 have hl := h.lt
 obtain ⟨D,h1,⟨es,clock,h4,F,hs,hD⟩,h3⟩ := h
 exact ⟨D,h1,⟨es,clock,(hb.block b hl).trans h4,F,hs,hD⟩,h3⟩
theorem SetIs.look {P : Program} {k e t : TypeId} {w : World} {b n : Nat} {S : List Lit} (hown : SetIs P k e w b n S) (K : Keyed P k) (ht : P.underlying t = some (.map k e)) (he : P.underlying e = some .bool) (hz : (zeroValue e).run P w = .ok (.bool false) w)
  {key : Value} {kl : Lit} (hkey : keyOf P k key = some kl) (hkl : WideAt.IsKeyLit kl) : (Instr.lookup t (.map (some b)) key false).run P w = .ok (.bool (S.any (fun y => y.sameKey kl))) w := by
 obtain ⟨D,h1,h2,h3⟩ := hown
 obtain ⟨v,ps,hrun,hv⟩ := h2.lookup K ht hz (plainElem_bool he false) hkey
 obtain ⟨c,rfl,hc⟩ := plainElem_bool_inv he hv
 simp only [Prod.mk.injEq] at hc
 rw [h3 kl hkl] at hc
 have hcc : c = S.any (fun y => y.sameKey kl) := by
  have := hc.1
  injection this with this
  injection this with this
  exact this.symm
 rw [hrun,hcc]
theorem wp_update_set {P : Program} {w : World} {o : Oper} {a : Act} {K' : Act → World → Prop} {Q : Exit → Act → World → Prop}
  (m x v : Operand) (t : TypeId) (hop : o.op = Op.mapUpdate t m x v)
  (k e : TypeId) (K : Keyed P k) (ht : P.underlying t = some (.map k e)) (he : P.underlying e = some .bool) (b n : Nat) (S : List Lit)
  (hm : a.eval m = .map (some b)) (hown : SetIs P k e w b n S) (hn : n < maxLen) (key : Value) (kl : Lit) (hx : a.eval x = key) (hv : a.eval v = .bool true) (hkey : keyOf P k key = some kl) (hkl : WideAt.IsKeyLit kl)
  (hK : ∀ w',SetIs P k e w' b (n + 1) (S ++ [kl]) → w.grownBy w' (some b) → K' (a.put o.dst undef) w') :
  o.wp P a w K' Q := by
 obtain ⟨D,h1,h2,h3⟩ := hown
 obtain ⟨w',hrun,r1,r2⟩ := h2.update K ht hn hkey (plainElem_bool he true)
 unfold Oper.wp
 simp [execOp,hop,hm,hx,hv,hrun,Result.andThen]
 refine hK w' ⟨_,h1.put kl _,r1,fun kl' hkl' => ?_⟩ r2
 rw [List.any_append]
 by_cases e' : kl' = kl
 ·subst e'
  rw [Go.Maps.atKey_put_same h1 hkl]
  simp [WideAt.sameKey_self hkl]
 ·rw [Go.Maps.atKey_put_other e',h3 kl' hkl']
  simp [Go.Maps.sameKey_ne (fun h => e' h.symm)]
theorem bytes_loop (s : ByteArray) : ∀ i r,ByteArray.toList.loop s i r = r.reverse ++ s.data.toList.drop i := by
 intro i r
 induction i,r using ByteArray.toList.loop.induct s with
 | case1 i r h ih =>
  unfold ByteArray.toList.loop;rw [if_pos h,ih]
  have hl : i < s.data.toList.length := by simpa using h
  rw [List.drop_eq_getElem_cons hl,List.reverse_cons,List.append_assoc]
  have hg : s.get! i = s.data.toList[i] := by
   obtain ⟨d⟩ := s
   show d[i]! = _
   simp at hl
   simp [getElem!_pos,hl]
  rw [hg];rfl
 | case2 i r h =>
  unfold ByteArray.toList.loop;rw [if_neg h]
  rw [List.drop_of_length_le (by simpa using h)];simp
theorem bytes_list (s : ByteArray) : s.toList = s.data.toList := by
 unfold ByteArray.toList;rw [bytes_loop];simp
theorem bytes_inj {a b : ByteArray} (h : a.toList = b.toList) : a = b := by
 rw [bytes_list,bytes_list] at h
 obtain ⟨⟨x⟩⟩ := a
 obtain ⟨⟨y⟩⟩ := b
 simp at h
 rw [h]
theorem bytes_ne {a b : ByteArray} (h : a ≠ b) : (a.toList == b.toList) = false := by
 rw [beq_eq_false_iff_ne]
 exact fun e => h (bytes_inj e)
end Go.Proofs.YtldikghldcefcaaGreat
end
section
open Go.RowKit
set_option linter.unusedVariables false
set_option linter.unusedSimpArgs false
namespace Go.Proofs.YtldikghldcefcaaGreat
open Go.Maps (Keyed string_keyed int_keyed)
theorem zeroBool (w : World) : (zeroValue 4).run Tryz.prog w = .ok (.bool false) w := by kernel_rfl
def nameLit (a : AddonD) : Lit := .string a.name.data.toList
def kindLit (a : AddonD) : Lit := .int .i64 a.kind
theorem addonsGo_step {l : List AddonD} {i : Nat} {a : AddonD} (h : l[i]? = some a) : addonsGo (l.take i) (l.drop i) = if addonE a ≠ 0 then addonE a else if (l.take i).any (fun s => decide (s.name = a.name) || decide (s.kind = a.kind)) then 6 else addonsGo (l.take (i + 1)) (l.drop (i + 1)) := by
 have h1 : l.drop i = a :: l.drop (i + 1) := by
  obtain ⟨hi,h⟩ := List.getElem?_eq_some_iff.1 h
  rw [List.drop_eq_getElem_cons hi,h]
 have h2 : l.take (i + 1) = l.take i ++ [a] := by rw [List.take_add_one,h];rfl
 rw [h1,h2]
 rfl
theorem take_snoc? {α : Type} {l : List α} {i : Nat} {a : α} (h : l[i]? = some a) : l.take (i + 1) = l.take i ++ [a] := by rw [List.take_add_one,h];rfl
theorem nameLit_same (a b : AddonD) : (nameLit a).sameKey (nameLit b) = decide (a.name = b.name) := by
 obtain ⟨⟨⟨x⟩⟩,_⟩ := a
 obtain ⟨⟨⟨y⟩⟩,_⟩ := b
 show (x == y) = _
 by_cases h : x = y
 ·subst h;simp
 ·rw [decide_eq_false (by simpa using h)]
  simpa using h
theorem kindLit_same (a b : AddonD) : (kindLit a).sameKey (kindLit b) = decide (a.kind = b.kind) := by
 show decide (IntKind.i64 = IntKind.i64 ∧ a.kind = b.kind) = _
 simp
theorem any_two {l : List AddonD} (a : AddonD) : l.any (fun s => decide (s.name = a.name) || decide (s.kind = a.kind)) = ((l.map nameLit).any (fun y => y.sameKey (nameLit a)) || (l.map kindLit).any (fun y => y.sameKey (kindLit a))) := by
 induction l with
 | nil => rfl
 | cons x r ih =>
  simp only [List.any_cons,List.map_cons,nameLit_same,kindLit_same] at ih ⊢
  rw [ih]
  cases decide (x.name = a.name) <;> cases decide (x.kind = a.kind) <;> simp
theorem addonsGo_end {l : List AddonD} {i : Nat} (hi : ¬ i < l.length) : addonsGo (l.take i) (l.drop i) = 0 := by
 rw [List.drop_of_length_le (by omega)]
 rfl
theorem Row.there {w : World} {g : Nat} {t : TypeId} {cs : List Value} (h : Row w g t cs) : w.there g 0 cs.length := fun j hj => by
 rw [Nat.zero_add]
 exact ⟨by rw [h.cell hj];rfl,h.frozen j⟩
theorem grown_cell {w w' : World} {row : Option Nat} (hg : w.grownBy w' row) {b o : Nat} {v : Value} (h : w.cell? ⟨b,o,none⟩ = some v) (hne : some b ≠ row) : w'.cell? ⟨b,o,none⟩ = some v := by
 rw [← h]
 exact World.cell?_of_block (hg.block b (World.block_lt_of_cell? w _ h) hne)
theorem any_take_no {α : Type} {l : List α} {p : α → Bool} {i : Nat} (h : ∀ j x,j < i → l[j]? = some x → p x = false) : (l.take i).any p = false := by
 rw [List.any_eq_false]
 intro x hx
 obtain ⟨j,hj,rfl⟩ := List.getElem_of_mem hx
 rw [List.length_take] at hj
 have := h j _ (by omega) (List.getElem?_eq_getElem (show j < l.length by omega))
 rw [List.getElem_take]
 rw [this]
 simp
theorem any_take_yes {α : Type} {l : List α} {p : α → Bool} {i j : Nat} {x : α} (hj : j < i) (hx : l[j]? = some x) (h : p x = true) : (l.take i).any p = true := by
 rw [List.any_eq_true]
 obtain ⟨hl,e⟩ := List.getElem?_eq_some_iff.1 hx
 refine ⟨x,?_,h⟩
 rw [← e,List.mem_take_iff_getElem]
 exact ⟨j,by omega,rfl⟩
theorem string_isKey (s : List UInt8) : WideAt.IsKeyLit (.string s) := by trivial
theorem int_isKey (x : Int) : WideAt.IsKeyLit (.int .i64 x) := by trivial
set_option maxHeartbeats 1000000 in
set_option maxRecDepth 100000 in
theorem checkAddons_any (v : Value) (ms : List AddonM) (w : World) (h : AddonsR w v ms) :
  Calls Tryz.prog 63 #[v] w (IntB (addonsE (ms.map (·.d))) w) := by
 obtain ⟨l,hl⟩ : ∃ l,l = ms.map (·.d) := ⟨_,rfl⟩
 have hlen : l.length = ms.length := by rw [hl];simp
 rw [← hl]
 obtain ⟨ao,cap,rfl,hle,hmax⟩ := h.1.shape
 unfold addonsE
 by_cases h4 : 4 < l.length
 ·rw [if_pos h4]
  have h4' : 4 < ms.length := by omega
  clear h4 hl hlen h
  go_enter Tryz.func63,Tryz.ntmps63
  go_wp2
  go_ret
  exact ⟨rfl,Below.refl _ _⟩
 ·rw [if_neg h4]
  have h4' : ms.length ≤ 4 := by omega
  have hl' := hide hl
  clear hl
  replace hlen := hide hlen
  have hmm := @run_makeMap Tryz.prog
  go_enter Tryz.func63,Tryz.ntmps63
  go_wp2
  have hset1 := (SetIs.made Tryz.prog 9 4 w).alloc (.map #[] 0)
  have hset2 := SetIs.made Tryz.prog 3 4 (w.alloc (.map #[] 0))
  rw [alloc_size] at hset2
  have hbel : Below w.heap.size w ((w.alloc (.map #[] 0)).alloc (.map #[] 0)) := Bel.al (Bel.al (Below.refl _ _) _) _
  clear hmm
  have hh := hide h
  clear h
  obtain ⟨W,hW⟩ : ∃ W,W = (w.alloc (.map #[] 0)).alloc (.map #[] 0) := ⟨_,rfl⟩
  rw [← hW] at hset1 hset2 hbel ⊢
  clear hW
  go_loopg [15] ms.length (fun g t wr => ∃ i : Nat,g = ms.length - i ∧ i ≤ ms.length ∧ t = .int .i64 i ∧ Below w.heap.size w wr ∧ SetIs Tryz.prog 9 4 wr w.heap.size i ((l.take i).map nameLit) ∧ SetIs Tryz.prog 3 4 wr (w.heap.size + 1) i ((l.take i).map kindLit) ∧ addonsGo (l.take i) (l.drop i) = addonsGo [] l)
  case atStart => exact ⟨0,rfl,Nat.zero_le _,rfl,hbel,hset1,hset2,rfl⟩
  case round =>
   clear hset1 hset2 hbel
   obtain ⟨i,hg,hi,rfl,hbel,hset1,hset2,hgo⟩ := hrel
   replace hg := hide hg
   replace hgo := hide hgo
   replace hset1 := hide hset1
   replace hset2 := hide hset2
   by_cases hlt : i < ms.length
   ·have hlt2 := hide hlt
    have i1 : (0 : Int) ≤ (i : Int) := by omega
    have i2 : (i : Int) < (ms.length : Int) := by omega
    have hA := hh.out.below hbel
    obtain ⟨b,off,rfl,hbb,hcell⟩ := hA.1.at_ hlt
    obtain ⟨m,hm⟩ : ∃ m,ms[i]? = some m := ⟨_,List.getElem?_eq_getElem hlt⟩
    have hrange : wr.rangeAt b (off + i * 6) (AddonM.cells m) := fun j u hu => hcell i m hm j u hu
    have hAd := hA.2 i m hm
    clear hcell
    have hlm : l[i]? = some m.d := by rw [hl'.out,List.getElem?_map,hm];rfl
    have hstep := addonsGo_step hlm
    have htake := take_snoc? hlm
    rw [any_two] at hstep
    clear hm hlm
    replace hstep := hide hstep
    replace htake := hide htake
    obtain ⟨⟨aname,akind,aprice,afactors,adigits,aprizes⟩,fv,pv⟩ := m
    unfold AddonM.cells at hrange
    obtain ⟨hf,hp⟩ := hAd
    simp only [] at hrange hf hp
    obtain ⟨fa,fn,fc,rfl⟩ := Rd.shape hf
    obtain ⟨pa,pn,pc,rfl⟩ := Rd.shape hp
    have hAd : AddonR wr ⟨⟨aname,akind,aprice,afactors,adigits,aprizes⟩,.slice fa fn fc,.slice pa pn pc⟩ := ⟨hf,hp⟩
    clear hf hp hA
    have hthere : (wr.alloc (.cells #[.string ⟨#[]⟩,.int .i64 0,.int .i64 0,.slice none 0 0,.int .i64 0,.slice none 0 0] 62)).there wr.heap.size 0 6 := Row.there (Row.newOf (cs := [.string ⟨#[]⟩,.int .i64 0,.int .i64 0,.slice none 0 0,.int .i64 0,.slice none 0 0]) _ rfl)
    replace hthere := hide hthere
    go_upto_region 7 with (first | (refine wpList_load_mid rfl 62 _ rfl b (off + i * 6) rfl [.string aname,.int .i64 akind,.int .i64 aprice,.slice fa fn fc,.int .i64 adigits,.slice pa pn pc] _ hrange Tryz.underlying62 rfl (by kernel_rfl) ?_) | (refine wpList_store_mid rfl 62 _ _ rfl wr.heap.size 0 _ rfl rfl hthere.out (by kernel_rfl) (by rfl) ?_) | fail)
    obtain ⟨W1,hW1⟩ : ∃ W1,W1 = wr.alloc (.cells #[.string aname,.int .i64 akind,.int .i64 aprice,.slice fa fn fc,.int .i64 adigits,.slice pa pn pc] 62) := ⟨_,rfl⟩
    have hb1 : Below wr.heap.size wr W1 := by rw [hW1];exact Bel.al (Below.refl _ _) _
    have hw1 : Row W1 wr.heap.size 62 [.string aname,.int .i64 akind,.int .i64 aprice,.slice fa fn fc,.int .i64 adigits,.slice pa pn pc] := by rw [hW1];exact Row.newOf _ rfl
    have hr1 : W1.rangeAt wr.heap.size 0 [.string aname,.int .i64 akind,.int .i64 aprice,.slice fa fn fc,.int .i64 adigits,.slice pa pn pc] := fun j v hv => by rw [Nat.zero_add];exact (hw1.cell? j).trans hv
    rw [← hW1]
    clear hW1 hthere hrange hw1
    go_wp2_with (first | (refine wpList_load_mid rfl 62 _ rfl wr.heap.size 0 rfl [.string aname,.int .i64 akind,.int .i64 aprice,.slice fa fn fc,.int .i64 adigits,.slice pa pn pc] _ hr1 Tryz.underlying62 rfl (by kernel_rfl) ?_) | fail)
    refine (checkAddon_any ⟨⟨aname,akind,aprice,afactors,adigits,aprizes⟩,.slice fa fn fc,.slice pa pn pc⟩ _ (hAd.below hb1)).mono ?_
    rintro e w2 ⟨rfl,hb2⟩
    have hb12 : Below wr.heap.size wr w2 := Bel.to hb1 hb2
    have hbw : Below w.heap.size w w2 := Bel.to hbel hb12
    have k0 : w2.cell? ⟨wr.heap.size,0,none⟩ = some (.string aname) := Bel.cellOf hb2 (hr1 0 _ rfl)
    have k1 : w2.cell? ⟨wr.heap.size,1,none⟩ = some (.int .i64 akind) := Bel.cellOf hb2 (hr1 1 _ rfl)
    obtain ⟨c,hc⟩ : ∃ c,c = addonE ⟨aname,akind,aprice,afactors,adigits,aprizes⟩ := ⟨_,rfl⟩
    have hstep1 := hstep.out
    rw [hgo.out,← hc] at hstep1
    (try simp only [])
    rw [← hc]
    by_cases hc0 : c = 0
    ·have hname : nameB aname = true := by
      rw [hc0] at hc
      unfold addonE at hc
      simp only [] at hc
      cases hn : nameB aname with
      | true => rfl
      | false => rw [hn,if_pos rfl] at hc;omega
     have hkd : akind = 1 ∨ akind = 2 := by
      rw [hc0] at hc
      unfold addonE at hc
      simp only [hname] at hc
      by_cases h1 : akind = 1
      ·exact .inl h1
      ·by_cases h2 : akind = 2
       ·exact .inr h2
       ·rw [if_neg (by simp),if_pos ⟨h1,h2⟩] at hc;omega
     have hwf : (Lit.int .i64 akind).wf = true := by rcases hkd with h | h <;> subst h <;> decide
     have hsz : aname.size ≤ maxLen := by have := name_size hname;unfold maxLen;omega
     rw [hc0,if_neg (by simp)] at hstep1
     have hlt3 := hset2.out.lt
     have hs1 := hset1.out.below hb12
     have hs2 := hset2.out.below hb12
     have hkey1 : keyOf Tryz.prog 9 (.string aname) = some (.string aname.data.toList) := Go.WideMaps.keyOf_string_mk Tryz.underlying9 hsz
     have hkey2 : keyOf Tryz.prog 3 (.int .i64 akind) = some (.int .i64 akind) := Go.Maps.keyOf_int_mk Tryz.underlying3 hwf
     have look1 := hs1.look (string_keyed Tryz.underlying9) Tryz.underlying116 Tryz.underlying4 (zeroBool w2) hkey1 (string_isKey _)
     have look2 := hs2.look (int_keyed Tryz.underlying3) Tryz.underlying117 Tryz.underlying4 (zeroBool w2) hkey2 (int_isKey _)
     obtain ⟨q1,hq1⟩ : ∃ q,q = ((l.take i).map nameLit).any (fun y => y.sameKey (.string aname.data.toList)) := ⟨_,rfl⟩
     obtain ⟨q2,hq2⟩ : ∃ q,q = ((l.take i).map kindLit).any (fun y => y.sameKey (.int .i64 akind)) := ⟨_,rfl⟩
     rw [← hq1] at look1
     rw [← hq2] at look2
     have hstep2 : addonsGo [] l = if (q1 || q2) = true then 6 else addonsGo (l.take (i + 1)) (l.drop (i + 1)) := by rw [hstep1,hq1,hq2];rfl
     clear hstep1 hset1 hset2 hc hname hkd hwf
     replace hstep2 := hide hstep2
     replace hs1 := hide hs1
     replace hs2 := hide hs2
     replace hkey1 := hide hkey1
     replace hkey2 := hide hkey2
     replace hq1 := hide hq1
     replace hq2 := hide hq2
     replace hsz := hide hsz
     subst hc0
     cases q1
     ·cases q2
      ·go_wp2_with fail
       refine wp_region_held_drew (S := fun X => X.cell? ⟨wr.heap.size,0,none⟩ = some (.string aname) ∧ X.cell? ⟨wr.heap.size,1,none⟩ = some (.int .i64 akind)) (by kernel_rfl) ⟨k0,k1⟩ (fun hHeld => ?_)
       refine' wpAnyH_take (i := 0) (oi := _) (v := .map (some w.heap.size)) rfl (by kernel_rfl) (by kernel_rfl) (by kernel_rfl) (fun _ _ _ h => h) (Or.inl ⟨by rfl,fun X hX => by go_simp⟩) hHeld ?_
       try simp only [Act.put,zsA,zsB,zsC,List.getElem_toArray,List.getElem_cons_zero,List.getElem_cons_succ]
       refine' wpAnyH_take (i := 1) (oi := _) (v := .pointer (some ⟨wr.heap.size,0,none⟩)) rfl (by kernel_rfl) (by kernel_rfl) (by kernel_rfl) (fun _ _ _ h => h) (Or.inl ⟨by rfl,fun X hX => by go_simp⟩) hHeld ?_
       try simp only [Act.put,zsA,zsB,zsC,List.getElem_toArray,List.getElem_cons_zero,List.getElem_cons_succ]
       refine' wpAnyH_take (i := 2) (oi := _) (v := .string aname) rfl (by kernel_rfl) (by kernel_rfl) (by kernel_rfl) (fun _ _ _ h => h) (Or.inl ⟨by rfl,fun X hX => by (have hX1 := hX.1;go_simp)⟩) hHeld ?_
       try simp only [Act.put,zsA,zsB,zsC,List.getElem_toArray,List.getElem_cons_zero,List.getElem_cons_succ]
       refine' wpAnyH_take (i := 3) (oi := _) (v := .map (some (w.heap.size + 1))) rfl (by kernel_rfl) (by kernel_rfl) (by kernel_rfl) (fun _ _ _ h => h) (Or.inl ⟨by rfl,fun X hX => by go_simp⟩) hHeld ?_
       try simp only [Act.put,zsA,zsB,zsC,List.getElem_toArray,List.getElem_cons_zero,List.getElem_cons_succ]
       refine' wpAnyH_take (i := 4) (oi := _) (v := .pointer (some ⟨wr.heap.size,1,none⟩)) rfl (by kernel_rfl) (by kernel_rfl) (by kernel_rfl) (fun _ _ _ h => h) (Or.inl ⟨by rfl,fun X hX => by go_simp⟩) hHeld ?_
       try simp only [Act.put,zsA,zsB,zsC,List.getElem_toArray,List.getElem_cons_zero,List.getElem_cons_succ]
       refine' wpAnyH_take (i := 5) (oi := _) (v := .int .i64 akind) rfl (by kernel_rfl) (by kernel_rfl) (by kernel_rfl) (fun _ _ _ h => h) (Or.inl ⟨by rfl,fun X hX => by (have hX2 := hX.2;go_simp)⟩) hHeld ?_
       try simp only [Act.put,zsA,zsB,zsC,List.getElem_toArray,List.getElem_cons_zero,List.getElem_cons_succ]
       refine wpAnyH_ready (rs := [6]) (by kernel_rfl) (by simp) ?_
       refine AllReadyH.cons (o := _) rfl (fun K hK => ?_) AllReadyH.nil
       rw [if_pos (by rfl)]
       refine wp_update_set _ _ _ 116 rfl 9 4 (string_keyed Tryz.underlying9) Tryz.underlying116 Tryz.underlying4 (w.heap.size) i _ rfl hs1.out.drew (by unfold maxLen;omega) (.string aname) (.string aname.data.toList) rfl rfl hkey1.out (string_isKey _) ?_
       intro w3 hs13 hg3
       have hs23 := hs2.out.drew.kept hg3 (by simp)
       have hb3 : Below w.heap.size w w3 := (Below.drew hbw).grown hg3 hbw.size (fun k hk => by injection hk with hk;omega)
       have k03 : w3.cell? ⟨wr.heap.size,0,none⟩ = some (.string aname) := grown_cell hg3 hHeld.1 (by simp;omega)
       have k13 : w3.cell? ⟨wr.heap.size,1,none⟩ = some (.int .i64 akind) := grown_cell hg3 hHeld.2 (by simp;omega)
       refine hK.out _ _ ⟨k03,k13⟩ (fun hHeld => ?_)
       clear hK K
       try simp only [Act.put,zsA,zsB,zsC,List.getElem_toArray,List.getElem_cons_zero,List.getElem_cons_succ]
       refine wpAnyH_ready (rs := [7]) (by kernel_rfl) (by simp) ?_
       refine AllReadyH.cons (o := _) rfl (fun K hK => ?_) AllReadyH.nil
       rw [if_pos (by rfl)]
       refine wp_update_set _ _ _ 117 rfl 3 4 (int_keyed Tryz.underlying3) Tryz.underlying117 Tryz.underlying4 (w.heap.size + 1) i _ rfl hs23 (by unfold maxLen;omega) (.int .i64 akind) (.int .i64 akind) rfl rfl hkey2.out (int_isKey _) ?_
       intro w4 hs24 hg4
       have hs14 := hs13.kept hg4 (by simp)
       have hb4 : Below w.heap.size w w4 := hb3.grown hg4 hb3.size (fun k hk => by injection hk with hk;omega)
       refine hK.out _ _ ⟨grown_cell hg4 k03 (by simp;omega),grown_cell hg4 k13 (by simp;omega)⟩ (fun hHeld => ?_)
       clear hK K
       try simp only [Act.put,zsA,zsB,zsC,List.getElem_toArray,List.getElem_cons_zero,List.getElem_cons_succ]
       refine wpAnyH_done (by kernel_rfl) ?_ _
       go_simp
       go_wp2
       go_roundg (ms.length - (i + 1))
       case measure => have := hg.out;have := hlt2.out;omega
       case rel =>
        refine ⟨i + 1,rfl,by have := hlt2.out;omega,by go_num,hb4,?_,?_,?_⟩
        ·rw [htake.out,List.map_append];exact hs14
        ·rw [htake.out,List.map_append];exact hs24
        ·have := hstep2.out;simpa using this.symm
      ·go_wp2
       go_ret
       rw [hstep2.out]
       exact ⟨rfl,hbw⟩
     ·go_wp2
      go_ret
      rw [hstep2.out]
      exact ⟨rfl,hbw⟩
    ·have hcb : (c != 0) = true := by simpa using hc0
     rw [if_pos hc0] at hstep1
     replace hstep1 := hide hstep1
     clear hset1 hset2
     go_wp2
     go_ret
     rw [hstep1.out]
     exact ⟨rfl,hbw⟩
   ·have hend := addonsGo_end (l := l) (i := i) (by have := hlen.out;omega)
    rw [hgo.out] at hend
    replace hend := hide hend
    clear hset1 hset2
    go_wp2
    go_ret
    rw [hend.out]
    exact ⟨rfl,hbel⟩
end Go.Proofs.YtldikghldcefcaaGreat
end
section
open Go.RowKit
set_option linter.unusedVariables false
set_option linter.unusedSimpArgs false
namespace Go.Proofs.YtldikghldcefcaaGreat
theorem tiersGo_step {g : GameD} {l : List TierD} {i : Nat} {a : TierD} (h : l[i]? = some a) : tiersGo g (l.take i) (l.drop i) = if tierE g a ≠ 0 then tierE g a else if (l.take i).any (fun s => coversB g s a) then 6 else tiersGo g (l.take (i + 1)) (l.drop (i + 1)) := by
 have h1 : l.drop i = a :: l.drop (i + 1) := by
  obtain ⟨hi,h⟩ := List.getElem?_eq_some_iff.1 h
  rw [List.drop_eq_getElem_cons hi,h]
 rw [h1,take_snoc? h]
 rfl
theorem tiersGo_end {g : GameD} {l : List TierD} {i : Nat} (hi : ¬ i < l.length) : tiersGo g (l.take i) (l.drop i) = 0 := by
 rw [List.drop_of_length_le (by omega)]
 rfl
set_option maxHeartbeats 2000000 in
set_option maxRecDepth 100000 in
theorem checkTiers_any (g : GameD) (av tv : Value) (w : World) (h : RdS 6 tierCells w tv g.tiers) (hav : ∃ ao n cap,av = .slice ao n cap) :
  Calls Tryz.prog 64 #[gameVal g av tv] w (IntB (tiersE g) w) := by
 obtain ⟨ta,tc,rfl,hle,hmax⟩ := h.shape
 obtain ⟨aa,an,ac,rfl⟩ := hav
 obtain ⟨G,hG⟩ : ∃ G,G = g := ⟨_,rfl⟩
 unfold tiersE
 by_cases hn : inB g.tiers.length 1 12 = true
 ·rw [if_neg (by rw [hn];simp)]
  have hlen : g.tiers.length ≤ 12 := by have := (inB_iff.1 hn).2;omega
  have hn' := hn
  clear hn
  obtain ⟨r,hr0⟩ : ∃ r,r = tiersGo g [] g.tiers := ⟨_,rfl⟩
  rw [← hr0]
  rw [← hG] at hr0
  obtain ⟨gname,gkind,gprice,gmain,gof,gbonus,gbonusOf,gextra,gdraws,gsystem,gdays,gat,gclose,gcancel,gexpiry,gpool,greserve,ground,gcap,grolls,ga,gt⟩ := g
  simp only [] at h hle hn' hlen
  unfold gameVal
  (try simp only [])
  replace hG := hide hG
  replace hr0 := hide hr0
  have hh := hide h
  clear h
  go_enter Tryz.func64,Tryz.ntmps64
  go_wp2
  obtain ⟨W,hW⟩ : ∃ W,W = (w.alloc (Obj.cells #[.string gname,.int .i64 gkind,.int .i64 gprice,.int .i64 gmain,.int .i64 gof,.int .i64 gbonus,.int .i64 gbonusOf,.int .i64 gextra,.int .i64 gdraws,.int .i64 gsystem,.int .i64 gdays,.int .i64 gat,.int .i64 gclose,.int .i64 gcancel,.int .i64 gexpiry,.int .i64 gpool,.int .i64 greserve,.int .i64 ground,.int .i64 gcap,.int .i64 grolls,(.slice aa an ac),(.slice ta gt.length tc)] 25)) := ⟨_,rfl⟩
  have bW : Below w.heap.size w W := by rw [hW];exact Bel.al (Below.refl _ _) _
  have r0 : Row W (w.heap.size) 25 [.string gname,.int .i64 gkind,.int .i64 gprice,.int .i64 gmain,.int .i64 gof,.int .i64 gbonus,.int .i64 gbonusOf,.int .i64 gextra,.int .i64 gdraws,.int .i64 gsystem,.int .i64 gdays,.int .i64 gat,.int .i64 gclose,.int .i64 gcancel,.int .i64 gexpiry,.int .i64 gpool,.int .i64 greserve,.int .i64 ground,.int .i64 gcap,.int .i64 grolls,(.slice aa an ac),(.slice ta gt.length tc)] := by rw [hW];exact Row.new _ _ _
  have c0_21 : W.cell? ⟨w.heap.size,21,none⟩ = some ((.slice ta gt.length tc)) := Row.cell r0 (i := 21) (by simp)
  have sW : w.heap.size < W.heap.size := by rw [hW];simp
  rw [← hW]
  clear hW
  go_step3
  go_wp2_with fail
  refine (within_any _ _ _ _).mono ?_
  rintro e w' ⟨rfl,rfl⟩
  rw [hn']
  go_wp2
  go_step3
  go_wp2
  have hstart : tiersGo G (gt.take 0) (gt.drop 0) = r := by rw [hr0.out,hG.out];rfl
  clear hn'
  have hlen2 : gt.length ≤ 9223372036854775807 := by omega
  go_loopg [16,3] gt.length (fun g t f wr => ∃ i : Nat,g = gt.length - i ∧ i ≤ gt.length ∧ t = .int .i64 i ∧ f = .int .i64 0 ∧ Below W.heap.size W wr ∧ tiersGo G (gt.take i) (gt.drop i) = r)
  case atStart => exact ⟨0,rfl,Nat.zero_le _,rfl,rfl,Below.refl _ _,hstart⟩
  case round =>
   clear hstart
   obtain ⟨i,hg,hi,rfl,rfl,hbel,hgo⟩ := hrel
   replace hg := hide hg
   replace hgo := hide hgo
   by_cases hlt : i < gt.length
   ·have hlt2 := hide hlt
    have i1 : (0 : Int) ≤ (i : Int) := by omega
    have i2 : (i : Int) < (gt.length : Int) := by omega
    obtain ⟨t,ht⟩ : ∃ t,gt[i]? = some t := ⟨_,List.getElem?_eq_getElem hlt⟩
    have hT := hh.out.below (Bel.to bW hbel)
    obtain ⟨b,off,rfl,hbb,hcell⟩ := hT.at_ hlt
    have hrange : wr.rangeAt b (off + i * 6) (tierCells t) := fun j u hu => hcell i t ht j u hu
    clear hcell hT
    have hstep := tiersGo_step (g := G) ht
    rw [hgo.out] at hstep
    replace hstep := hide hstep
    have ht' := hide ht
    clear ht
    have q0 := Row.keep r0 hbel
    have d21 := Bel.cellOf hbel c0_21
    have c1 := hide (fun X => checkTier_any G t (.slice aa an ac) (.slice (some ⟨b,off,none⟩) gt.length tc) X)
    have hcov := hide (fun e X => covers_any G e t (.slice aa an ac) (.slice (some ⟨b,off,none⟩) gt.length tc) X)
    obtain ⟨c,hc⟩ : ∃ c,c = tierE G t := ⟨_,rfl⟩
    obtain ⟨Cv,hCv⟩ : ∃ Cv : TierD → Bool,Cv = fun e => coversB G e t := ⟨_,rfl⟩
    have hstep2 : r = if c ≠ 0 then c else if (gt.take i).any Cv then 6 else tiersGo G (gt.take (i + 1)) (gt.drop (i + 1)) := by rw [hstep.out,hc,hCv]
    have hcv : ∀ e X,Calls Tryz.prog 95 #[gameVal G (.slice aa an ac) (.slice (some ⟨b,off,none⟩) gt.length tc),tierVal e,tierVal t] X (BoolB (Cv e) X) := by rw [hCv];exact hcov.out
    have hct : ∀ X,Calls Tryz.prog 94 #[gameVal G (.slice aa an ac) (.slice (some ⟨b,off,none⟩) gt.length tc),tierVal t] X (IntB c X) := by rw [hc];exact c1.out
    clear hstep hcov c1 hc hCv
    rw [hG.out] at hcv hct
    replace hstep2 := hide hstep2
    replace hcv := hide hcv
    replace hct := hide hct
    obtain ⟨tmain,tbonus,textra,tmode,tkind,tvalue⟩ := t
    unfold tierCells at hrange
    simp only [] at hrange
    go_upto_region 7 with (first | (refine wpList_load_mid rfl 73 _ rfl (b) (off + i * 6) rfl [.int .i64 tmain,.int .i64 tbonus,.int .i64 textra,.int .i64 tmode,.int .i64 tkind,.int .i64 tvalue] _ hrange Tryz.underlying73 rfl (by kernel_rfl) ?_) | fail)
    obtain ⟨W1,hW1⟩ : ∃ W1,W1 = wr.alloc (.cells #[.int .i64 tmain,.int .i64 tbonus,.int .i64 textra,.int .i64 tmode,.int .i64 tkind,.int .i64 tvalue] 73) := ⟨_,rfl⟩
    have hb1 : Below wr.heap.size wr W1 := by rw [hW1];exact Bel.al (Below.refl _ _) _
    have r1 : Row W1 wr.heap.size 73 [.int .i64 tmain,.int .i64 tbonus,.int .i64 textra,.int .i64 tmode,.int .i64 tkind,.int .i64 tvalue] := by rw [hW1];exact Row.newOf _ rfl
    rw [← hW1]
    clear hW1 hrange
    have q1 := Row.keep q0 hb1
    have d1 := Bel.cellOf hb1 d21
    clear q0 d21
    go_wp2_with (first | (refine wpList_load_row rfl 25 _ rfl _ rfl _ _ _ _ q1 Tryz.underlying25 rfl (by kernel_rfl) ?_) | (refine wpList_load_row rfl 73 _ rfl _ rfl _ _ _ _ r1 Tryz.underlying73 rfl (by kernel_rfl) ?_) | fail)
    refine (hct.out _).mono ?_
    rintro e w2 ⟨rfl,hb2⟩
    have q2 := Row.keep q1 hb2
    have d2 := Bel.cellOf hb2 d1
    have r2 := Row.keep r1 hb2
    have B2 : Below W.heap.size W w2 := Bel.to (Bel.to hbel hb1) hb2
    clear q1 d1 r1 hct hb1 hb2 hbel
    by_cases hc0 : c = 0
    ·have hs3 := hstep2.out
     rw [hc0,if_neg (by simp)] at hs3
     subst hc0
     replace hs3 := hide hs3
     clear hstep2
     have i3 : (i : Int) ≤ (tc : Int) := by omega
     have i4 : (i : Int) ≤ (gt.length : Int) := by omega
     go_wp2
     go_loopg [31,3] i (fun g t f wr' => ∃ k : Nat,g = i - k ∧ k ≤ i ∧ t = .int .i64 k ∧ f = .int .i64 0 ∧ Below w2.heap.size w2 wr' ∧ ∀ j x,j < k → gt[j]? = some x → Cv x = false)
     case atStart => exact ⟨0,rfl,Nat.zero_le _,rfl,rfl,Below.refl _ _,fun j x hj => absurd hj (Nat.not_lt_zero _)⟩
     case round =>
      obtain ⟨k,hgk,hk,rfl,rfl,hbel3,hno⟩ := hrel
      replace hgk := hide hgk
      replace hno := hide hno
      obtain ⟨wq,hwq⟩ : ∃ X,X = wr := ⟨_,rfl⟩
      by_cases hki : k < i
      ·have hki2 := hide hki
       have k1 : (0 : Int) ≤ (k : Int) := by omega
       have k2 : (k : Int) < (i : Int) := by omega
       have hkl : k < gt.length := by omega
       obtain ⟨e,he⟩ : ∃ e,gt[k]? = some e := ⟨_,List.getElem?_eq_getElem hkl⟩
       have hT := hh.out.below (Bel.to bW (Bel.to B2 hbel3))
       obtain ⟨b',off',hbo,hbb',hcell⟩ := hT.at_ hkl
       obtain ⟨rfl,rfl⟩ : b = b' ∧ off = off' := by simpa using hbo
       have hrange : wr.rangeAt b (off + k * 6) (tierCells e) := fun j u hu => hcell k e he j u hu
       clear hcell hT hbo hwq
       have he' := hide he
       clear he
       have q3 := Row.keep q2 hbel3
       have r3 := Row.keep r2 hbel3
       have hcve := hide (hcv.out e)
       obtain ⟨q,hq⟩ : ∃ q,q = Cv e := ⟨_,rfl⟩
       rw [← hq] at hcve
       replace hq := hide hq
       have hlast := hide (fun (h : Cv e = true) => any_take_yes (p := Cv) hki he'.out h)
       have hnext := hide (fun (h : Cv e = false) => show ∀ j x,j < k + 1 → gt[j]? = some x → Cv x = false from by
        intro j x hj hx
        rcases Nat.lt_succ_iff_lt_or_eq.1 hj with h' | rfl
        ·exact hno.out j x h' hx
        ·rw [he'.out] at hx;injection hx with hx;rw [← hx];exact h)
       clear hcv he'
       obtain ⟨emain,ebonus,eextra,emode,ekind,evalue⟩ := e
       unfold tierCells at hrange
       simp only [] at hrange
       go_upto_region 12 with (first | (refine wpList_load_mid rfl 73 _ rfl (b) (off + k * 6) rfl [.int .i64 emain,.int .i64 ebonus,.int .i64 eextra,.int .i64 emode,.int .i64 ekind,.int .i64 evalue] _ hrange Tryz.underlying73 rfl (by kernel_rfl) ?_) | fail)
       obtain ⟨W3,hW3⟩ : ∃ W3,W3 = wr.alloc (.cells #[.int .i64 emain,.int .i64 ebonus,.int .i64 eextra,.int .i64 emode,.int .i64 ekind,.int .i64 evalue] 73) := ⟨_,rfl⟩
       have hb3 : Below wr.heap.size wr W3 := by rw [hW3];exact Bel.al (Below.refl _ _) _
       have r4 : Row W3 wr.heap.size 73 [.int .i64 emain,.int .i64 ebonus,.int .i64 eextra,.int .i64 emode,.int .i64 ekind,.int .i64 evalue] := by rw [hW3];exact Row.newOf _ rfl
       rw [← hW3]
       clear hW3 hrange
       have q4 := Row.keep q3 hb3
       have r5 := Row.keep r3 hb3
       clear q3 r3
       go_wp2_with (first | (refine wpList_load_row rfl 25 _ rfl _ rfl _ _ _ _ q4 Tryz.underlying25 rfl (by kernel_rfl) ?_) | (refine wpList_load_row rfl 73 _ rfl _ rfl _ _ _ _ r4 Tryz.underlying73 rfl (by kernel_rfl) ?_) | (refine wpList_load_row rfl 73 _ rfl _ rfl _ _ _ _ r5 Tryz.underlying73 rfl (by kernel_rfl) ?_) | fail)
       refine (hcve.out _).mono ?_
       rintro e w4 ⟨rfl,hb4⟩
       have B4 : Below w2.heap.size w2 w4 := Bel.to (Bel.to hbel3 hb3) hb4
       clear q4 r4 r5 hb3 hb4 hbel3
       cases q
       ·have hn1 := hide (hnext.out hq.out.symm)
        go_wp2
        go_roundg (i - (k + 1))
        case measure => have := hgk.out;have := hki2.out;omega
        case rel => exact ⟨k + 1,rfl,by have := hki2.out;omega,by go_num,rfl,B4,hn1.out⟩
       ·have hr6 := hs3.out
        rw [hlast.out hq.out.symm,if_pos rfl] at hr6
        replace hr6 := hide hr6
        go_wp2
        rw [Exit.noGoto_ret]
        go_ret
        rw [hr6.out]
        exact ⟨rfl,Bel.to bW (Bel.to B2 B4)⟩
      ·have hki2 : k = i := by omega
       have hs4 := hs3.out
       rw [any_take_no (fun j x hj hx => hno.out j x (by omega) hx),if_neg (by simp)] at hs4
       replace hs4 := hide hs4
       replace hki2 := hide hki2
       clear hwq
       have B5 := Bel.to B2 hbel3
       go_wp2
       go_roundg (gt.length - (i + 1))
       case measure => have := hg.out;have := hlt2.out;omega
       case rel => exact ⟨i + 1,rfl,by have := hlt2.out;omega,by go_num,rfl,B5,hs4.out.symm⟩
    ·have hcb : (c != 0) = true := by simpa using hc0
     have hs3 := hstep2.out
     rw [if_pos hc0] at hs3
     replace hs3 := hide hs3
     clear hstep2
     go_wp2
     rw [Exit.noGoto_ret]
     go_ret
     rw [hs3.out]
     exact ⟨rfl,Bel.to bW B2⟩
   ·have hend := tiersGo_end (g := G) (l := gt) (i := i) hlt
    rw [hgo.out] at hend
    replace hend := hide hend
    go_wp2
    go_ret
    rw [hend.out]
    exact ⟨rfl,Bel.to bW hbel⟩
 ·rw [if_pos (by simpa using hn)]
  have hn' : inB g.tiers.length 1 12 = false := by simpa using hn
  clear hn
  obtain ⟨gname,gkind,gprice,gmain,gof,gbonus,gbonusOf,gextra,gdraws,gsystem,gdays,gat,gclose,gcancel,gexpiry,gpool,greserve,ground,gcap,grolls,ga,gt⟩ := g
  simp only [] at hn'
  unfold gameVal
  (try simp only [])
  go_enter Tryz.func64,Tryz.ntmps64
  go_wp2
  go_step3
  go_wp2_with fail
  refine (within_any _ _ _ _).mono ?_
  rintro e w' ⟨rfl,rfl⟩
  rw [hn']
  go_wp2
  go_ret
  exact ⟨rfl,Bel.al (Below.refl _ _) _⟩
def StrE (b : Bool) (w : World) (e : Ending) (w' : World) : Prop := ∃ s : ByteArray,e = .returned (.string s) ∧ (b = true → s = ⟨#[]⟩) ∧ (b = false → s ≠ ⟨#[]⟩) ∧ Below w.heap.size w w'
set_option maxHeartbeats 4000000 in
set_option maxRecDepth 100000 in
theorem badTerms_any (g : GameD) (av tv : Value) (w : World) :
  Calls Tryz.prog 62 #[gameVal g av tv] w (StrE (termB g) w) := by
 obtain ⟨r,hr⟩ : ∃ r,r = termB g := ⟨_,rfl⟩
 rw [← hr]
 obtain ⟨gname,gkind,gprice,gmain,gof,gbonus,gbonusOf,gextra,gdraws,gsystem,gdays,gat,gclose,gcancel,gexpiry,gpool,greserve,ground,gcap,grolls,ga,gt⟩ := g
 unfold gameVal
 unfold termB at hr
 simp only [] at hr ⊢
 replace hr := hide hr
 go_enter Tryz.func62,Tryz.ntmps62
 go_wp2_with (first | (go_at_call 92;refine (within_any _ _ _ _).mono ?_;rintro e w' ⟨rfl,rfl⟩) | fail)
 all_goals
  go_ret
  replace hr := hr.out
  refine ⟨_,rfl,?_,?_,Bel.al (Below.refl _ _) _⟩
  all_goals
   intro hq
   simp_all
theorem inB_min (x lo y : Int) : inB x lo (if (14 : Int) ≤ y then 14 else y) = (inB x lo 14 && decide (x ≤ y)) := by
 unfold inB
 split
 ·by_cases h : lo ≤ x ∧ x ≤ 14
  ·rw [decide_eq_true h,decide_eq_true (show x ≤ y by omega)];rfl
  ·rw [decide_eq_false h];rfl
 ·by_cases h : lo ≤ x ∧ x ≤ y
  ·rw [decide_eq_true h,decide_eq_true (show lo ≤ x ∧ x ≤ 14 by omega),decide_eq_true (show x ≤ y by omega)];rfl
  ·rw [decide_eq_false h]
   by_cases h2 : x ≤ y
   ·rw [decide_eq_false (show ¬ (lo ≤ x ∧ x ≤ 14) by omega)];rfl
   ·rw [decide_eq_false h2];simp
set_option maxHeartbeats 4000000 in
set_option maxRecDepth 100000 in
theorem badMatrix_any (g : GameD) (av tv : Value) (w : World) :
  Calls Tryz.prog 61 #[gameVal g av tv] w (StrE (matB g) w) := by
 obtain ⟨r,hr⟩ : ∃ r,r = matB g := ⟨_,rfl⟩
 rw [← hr]
 obtain ⟨gname,gkind,gprice,gmain,gof,gbonus,gbonusOf,gextra,gdraws,gsystem,gdays,gat,gclose,gcancel,gexpiry,gpool,greserve,ground,gcap,grolls,ga,gt⟩ := g
 unfold gameVal
 unfold matB at hr
 simp only [] at hr ⊢
 by_cases hk : gkind = 2
 ·subst hk
  by_cases hb : gbonus = 0
  ·subst hb
   replace hr := hide hr
   go_enter Tryz.func61,Tryz.ntmps61
   go_wp2_with (first | (go_at_call 92;refine (within_any _ _ _ _).mono ?_;rintro e w' ⟨rfl,rfl⟩) | fail)
   all_goals
    go_ret
    replace hr := hr.out
    refine ⟨_,rfl,?_,?_,Bel.al (Below.refl _ _) _⟩
    all_goals
     intro hq
     (simp_all <;> omega)
  ·have hbb : (gbonus != 0) = true := by simpa using hb
   rw [if_neg hb] at hr
   replace hb := hide hb
   replace hr := hide hr
   go_enter Tryz.func61,Tryz.ntmps61
   go_wp2_with (first | (go_at_call 92;refine (within_any _ _ _ _).mono ?_;rintro e w' ⟨rfl,rfl⟩) | fail)
   all_goals
    go_ret
    replace hr := hr.out
    refine ⟨_,rfl,?_,?_,Bel.al (Below.refl _ _) _⟩
    all_goals
     intro hq
     (simp_all <;> omega)
 ·have hkb : (gkind == 2) = false := by simpa using hk
  rw [if_neg hk,if_neg hk,if_neg hk,if_neg hk,← inB_min] at hr
  replace hk := hide hk
  have h14 : (14 : Int) ≤ gof ∨ gof < 14 := by omega
  by_cases hb : gbonus = 0
  ·subst hb
   rcases h14 with h14 | h14
   ·rw [if_pos h14] at hr
    replace hr := hide hr
    by_cases hm : inB gmain 1 10 = true
    ·by_cases he : inB gextra 0 4 = true
     ·have m1 := (inB_iff.1 hm).1
      have m2 := (inB_iff.1 hm).2
      have x1 := (inB_iff.1 he).1
      have x2 := (inB_iff.1 he).2
      go_enter Tryz.func61,Tryz.ntmps61
      go_wp2_with (first | (go_at_call 92;refine (within_any _ _ _ _).mono ?_;rintro e w' ⟨rfl,rfl⟩) | fail)
      all_goals
       go_ret
       replace hr := hr.out
       refine ⟨_,rfl,?_,?_,Bel.al (Below.refl _ _) _⟩
       all_goals
        intro hq
        (simp_all <;> omega)
     ·replace he : inB gextra 0 4 = false := by simpa using he
      go_enter Tryz.func61,Tryz.ntmps61
      go_wp2_with (first | (go_at_call 92;refine (within_any _ _ _ _).mono ?_;rintro e w' ⟨rfl,rfl⟩) | fail)
      all_goals
       go_ret
       replace hr := hr.out
       refine ⟨_,rfl,?_,?_,Bel.al (Below.refl _ _) _⟩
       all_goals
        intro hq
        (simp_all <;> omega)
    ·replace hm : inB gmain 1 10 = false := by simpa using hm
     go_enter Tryz.func61,Tryz.ntmps61
     go_wp2_with (first | (go_at_call 92;refine (within_any _ _ _ _).mono ?_;rintro e w' ⟨rfl,rfl⟩) | fail)
     all_goals
      go_ret
      replace hr := hr.out
      refine ⟨_,rfl,?_,?_,Bel.al (Below.refl _ _) _⟩
      all_goals
       intro hq
       (simp_all <;> omega)
   ·rw [if_neg (show ¬ (14 : Int) ≤ gof by omega)] at hr
    replace hr := hide hr
    by_cases hm : inB gmain 1 10 = true
    ·by_cases he : inB gextra 0 4 = true
     ·have m1 := (inB_iff.1 hm).1
      have m2 := (inB_iff.1 hm).2
      have x1 := (inB_iff.1 he).1
      have x2 := (inB_iff.1 he).2
      go_enter Tryz.func61,Tryz.ntmps61
      go_wp2_with (first | (go_at_call 92;refine (within_any _ _ _ _).mono ?_;rintro e w' ⟨rfl,rfl⟩) | fail)
      all_goals
       go_ret
       replace hr := hr.out
       refine ⟨_,rfl,?_,?_,Bel.al (Below.refl _ _) _⟩
       all_goals
        intro hq
        (simp_all <;> omega)
     ·replace he : inB gextra 0 4 = false := by simpa using he
      go_enter Tryz.func61,Tryz.ntmps61
      go_wp2_with (first | (go_at_call 92;refine (within_any _ _ _ _).mono ?_;rintro e w' ⟨rfl,rfl⟩) | fail)
      all_goals
       go_ret
       replace hr := hr.out
       refine ⟨_,rfl,?_,?_,Bel.al (Below.refl _ _) _⟩
       all_goals
        intro hq
        (simp_all <;> omega)
    ·replace hm : inB gmain 1 10 = false := by simpa using hm
     go_enter Tryz.func61,Tryz.ntmps61
     go_wp2_with (first | (go_at_call 92;refine (within_any _ _ _ _).mono ?_;rintro e w' ⟨rfl,rfl⟩) | fail)
     all_goals
      go_ret
      replace hr := hr.out
      refine ⟨_,rfl,?_,?_,Bel.al (Below.refl _ _) _⟩
      all_goals
       intro hq
       (simp_all <;> omega)
  ·have hbb : (gbonus != 0) = true := by simpa using hb
   rw [if_neg hb] at hr
   replace hb := hide hb
   rcases h14 with h14 | h14
   ·rw [if_pos h14] at hr
    replace hr := hide hr
    by_cases hm : inB gmain 1 10 = true
    ·by_cases he : inB gextra 0 4 = true
     ·have m1 := (inB_iff.1 hm).1
      have m2 := (inB_iff.1 hm).2
      have x1 := (inB_iff.1 he).1
      have x2 := (inB_iff.1 he).2
      go_enter Tryz.func61,Tryz.ntmps61
      go_wp2_with (first | (go_at_call 92;refine (within_any _ _ _ _).mono ?_;rintro e w' ⟨rfl,rfl⟩) | fail)
      all_goals
       go_ret
       replace hr := hr.out
       refine ⟨_,rfl,?_,?_,Bel.al (Below.refl _ _) _⟩
       all_goals
        intro hq
        (simp_all <;> omega)
     ·replace he : inB gextra 0 4 = false := by simpa using he
      go_enter Tryz.func61,Tryz.ntmps61
      go_wp2_with (first | (go_at_call 92;refine (within_any _ _ _ _).mono ?_;rintro e w' ⟨rfl,rfl⟩) | fail)
      all_goals
       go_ret
       replace hr := hr.out
       refine ⟨_,rfl,?_,?_,Bel.al (Below.refl _ _) _⟩
       all_goals
        intro hq
        (simp_all <;> omega)
    ·replace hm : inB gmain 1 10 = false := by simpa using hm
     go_enter Tryz.func61,Tryz.ntmps61
     go_wp2_with (first | (go_at_call 92;refine (within_any _ _ _ _).mono ?_;rintro e w' ⟨rfl,rfl⟩) | fail)
     all_goals
      go_ret
      replace hr := hr.out
      refine ⟨_,rfl,?_,?_,Bel.al (Below.refl _ _) _⟩
      all_goals
       intro hq
       (simp_all <;> omega)
   ·rw [if_neg (show ¬ (14 : Int) ≤ gof by omega)] at hr
    replace hr := hide hr
    by_cases hm : inB gmain 1 10 = true
    ·by_cases he : inB gextra 0 4 = true
     ·have m1 := (inB_iff.1 hm).1
      have m2 := (inB_iff.1 hm).2
      have x1 := (inB_iff.1 he).1
      have x2 := (inB_iff.1 he).2
      go_enter Tryz.func61,Tryz.ntmps61
      go_wp2_with (first | (go_at_call 92;refine (within_any _ _ _ _).mono ?_;rintro e w' ⟨rfl,rfl⟩) | fail)
      all_goals
       go_ret
       replace hr := hr.out
       refine ⟨_,rfl,?_,?_,Bel.al (Below.refl _ _) _⟩
       all_goals
        intro hq
        (simp_all <;> omega)
     ·replace he : inB gextra 0 4 = false := by simpa using he
      go_enter Tryz.func61,Tryz.ntmps61
      go_wp2_with (first | (go_at_call 92;refine (within_any _ _ _ _).mono ?_;rintro e w' ⟨rfl,rfl⟩) | fail)
      all_goals
       go_ret
       replace hr := hr.out
       refine ⟨_,rfl,?_,?_,Bel.al (Below.refl _ _) _⟩
       all_goals
        intro hq
        (simp_all <;> omega)
    ·replace hm : inB gmain 1 10 = false := by simpa using hm
     go_enter Tryz.func61,Tryz.ntmps61
     go_wp2_with (first | (go_at_call 92;refine (within_any _ _ _ _).mono ?_;rintro e w' ⟨rfl,rfl⟩) | fail)
     all_goals
      go_ret
      replace hr := hr.out
      refine ⟨_,rfl,?_,?_,Bel.al (Below.refl _ _) _⟩
      all_goals
       intro hq
       (simp_all <;> omega)
theorem bytes_loop_len (s : ByteArray) : ∀ i r,(ByteArray.toList.loop s i r).length = (s.size - i) + r.length := by
 intro i r
 induction i,r using ByteArray.toList.loop.induct s with
 | case1 i r h ih => unfold ByteArray.toList.loop;rw [if_pos h,ih];simp;omega
 | case2 i r h => unfold ByteArray.toList.loop;rw [if_neg h];simp;omega
theorem bytes_toList_len (s : ByteArray) : s.toList.length = s.size := by
 unfold ByteArray.toList;rw [bytes_loop_len];simp
theorem str_ne (s : ByteArray) (h : s ≠ ⟨#[]⟩) : s.toList.isEmpty = false := by
 cases hs : s.toList with
 | cons a l => rfl
 | nil =>
  exfalso
  have h1 := bytes_toList_len s
  rw [hs] at h1
  obtain ⟨⟨l⟩⟩ := s
  have : l.length = 0 := h1.symm
  exact h (by rw [List.length_eq_zero_iff.1 this])
def ErrS (c : Int) (w : World) (e : Ending) (w' : World) : Prop := ∃ s : ByteArray,e = .returned (.tuple #[.int .i64 c,.string s]) ∧ Below w.heap.size w w'
set_option maxHeartbeats 2000000 in
set_option maxRecDepth 100000 in
theorem gcheck_any (g : GameD) (av tv : Value) (ms : List AddonM) (w : World) (h : GameR w av tv ms g) :
  Calls Tryz.prog 29 #[gameVal g av tv] w (ErrS (gameE g) w) := by
 obtain ⟨h1,h2,h3⟩ := h
 obtain ⟨aa,ac,rfl,hal,ham⟩ := h1.1.shape
 obtain ⟨ta,tc,rfl,htl,htm⟩ := h3.shape
 obtain ⟨r,hr⟩ : ∃ r,r = gameE g := ⟨_,rfl⟩
 rw [← hr]
 unfold gameE at hr
 have cm := hide (fun X => badMatrix_any g (.slice aa ms.length ac) (.slice ta g.tiers.length tc) X)
 have ct := hide (fun X => badTerms_any g (.slice aa ms.length ac) (.slice ta g.tiers.length tc) X)
 have cg := hide (fun X (hX : RdS 6 tierCells X (.slice ta g.tiers.length tc) g.tiers) => checkTiers_any g (.slice aa ms.length ac) _ X hX ⟨_,_,_,rfl⟩)
 have ca := hide (fun X (hX : AddonsR X (.slice aa ms.length ac) ms) => checkAddons_any _ ms X hX)
 rw [h2] at ca
 obtain ⟨cmv,hcm⟩ : ∃ c,c = matB g := ⟨_,rfl⟩
 obtain ⟨ctv,hct⟩ : ∃ c,c = termB g := ⟨_,rfl⟩
 obtain ⟨cgv,hcg⟩ : ∃ c,c = tiersE g := ⟨_,rfl⟩
 obtain ⟨cav,hca⟩ : ∃ c,c = addonsE g.addons := ⟨_,rfl⟩
 obtain ⟨nm,hnm⟩ : ∃ b,b = nameB g.name := ⟨_,rfl⟩
 rw [← hcm,← hct,← hcg,← hca,← hnm] at hr
 rw [← hcm] at cm
 rw [← hct] at ct
 rw [← hcg] at cg
 rw [← hca] at ca
 clear hcm hct hcg hca h2
 replace h1 := hide h1
 replace h3 := hide h3
 obtain ⟨gname,gkind,gprice,gmain,gof,gbonus,gbonusOf,gextra,gdraws,gsystem,gdays,gat,gclose,gcancel,gexpiry,gpool,greserve,ground,gcap,grolls,ga,gt⟩ := g
 (try simp only [] at hr hnm cm ct cg h3 htl)
 unfold gameVal at cm ct cg ⊢
 (try simp only [] at cm ct cg ⊢)
 replace hr := hide hr
 replace hnm := hide hnm
 go_enter Tryz.func29,Tryz.ntmps29
 go_upto_region 1 with (fail)
 obtain ⟨W,hW⟩ : ∃ W,W = (w.alloc (Obj.cells #[.string gname,.int .i64 gkind,.int .i64 gprice,.int .i64 gmain,.int .i64 gof,.int .i64 gbonus,.int .i64 gbonusOf,.int .i64 gextra,.int .i64 gdraws,.int .i64 gsystem,.int .i64 gdays,.int .i64 gat,.int .i64 gclose,.int .i64 gcancel,.int .i64 gexpiry,.int .i64 gpool,.int .i64 greserve,.int .i64 ground,.int .i64 gcap,.int .i64 grolls,(.slice aa ms.length ac),(.slice ta gt.length tc)] 25)) := ⟨_,rfl⟩
 have bW : Below w.heap.size w W := by rw [hW];exact Bel.al (Below.refl _ _) _
 have r0 : Row W (w.heap.size) 25 [.string gname,.int .i64 gkind,.int .i64 gprice,.int .i64 gmain,.int .i64 gof,.int .i64 gbonus,.int .i64 gbonusOf,.int .i64 gextra,.int .i64 gdraws,.int .i64 gsystem,.int .i64 gdays,.int .i64 gat,.int .i64 gclose,.int .i64 gcancel,.int .i64 gexpiry,.int .i64 gpool,.int .i64 greserve,.int .i64 ground,.int .i64 gcap,.int .i64 grolls,(.slice aa ms.length ac),(.slice ta gt.length tc)] := by rw [hW];exact Row.new _ _ _
 have c0_0 : W.cell? ⟨w.heap.size,0,none⟩ = some (.string gname) := Row.cell r0 (i := 0) (by simp)
 have c0_1 : W.cell? ⟨w.heap.size,1,none⟩ = some (.int .i64 gkind) := Row.cell r0 (i := 1) (by simp)
 have c0_20 : W.cell? ⟨w.heap.size,20,none⟩ = some ((.slice aa ms.length ac)) := Row.cell r0 (i := 20) (by simp)
 have sW : w.heap.size < W.heap.size := by rw [hW];simp
 rw [← hW]
 clear hW
 go_wp2_with fail
 refine (name_any _ _).mono ?_
 rintro e w' ⟨rfl,rfl⟩
 rw [← hnm.out]
 cases nm
 ·have hr2 : r = 4 := by rw [hr.out];simp
  replace hr2 := hide hr2
  clear hr
  go_wp2
  go_ret2
  rw [hr2.out]
  exact ⟨_,rfl,bW⟩
 ·by_cases hk : gkind = 1 ∨ gkind = 2
  ·have hr2 : r = if cmv = false then 2 else if ctv = false then 2 else if cav ≠ 0 then cav else cgv := by
    rw [hr.out,if_neg (by simp),if_neg (by omega)]
   replace hr2 := hide hr2
   clear hr
   have hcm2 := hide cm.out
   rcases hk with rfl | rfl
   all_goals
    go_wp2_with (first | (refine wpList_load_row rfl 25 _ rfl _ rfl _ _ _ _ r0 Tryz.underlying25 rfl (by kernel_rfl) ?_) | fail)
    refine (cm.out _).mono ?_
    rintro e w1 ⟨s1,rfl,hs1,hs1',hb1⟩
    have B1 := Bel.to bW hb1
    have q1 := Row.keep r0 hb1
    have d1 := Bel.cellOf hb1 c0_20
    clear hb1 r0 c0_0 c0_1 c0_20 cm
    cases cmv
    ·have hr3 : r = 2 := by rw [hr2.out];simp
     have hne := hs1' rfl
     have hne2 : s1.toList.isEmpty = false := str_ne _ hne
     replace hr3 := hide hr3
     clear hs1 hs1'
     go_wp2
     go_ret2
     rw [hr3.out]
     exact ⟨_,rfl,B1⟩
    ·have he := hs1 rfl
     subst he
     clear hs1 hs1'
     go_wp2_with (first | (refine wpList_load_row rfl 25 _ rfl _ rfl _ _ _ _ q1 Tryz.underlying25 rfl (by kernel_rfl) ?_) | fail)
     refine (ct.out _).mono ?_
     rintro e w2 ⟨s2,rfl,hs2,hs2',hb2⟩
     have B2 := Bel.to B1 hb2
     have q2 := Row.keep q1 hb2
     have d2 := Bel.cellOf hb2 d1
     clear hb2 q1 d1 ct
     cases ctv
     ·have hr3 : r = 2 := by rw [hr2.out];simp
      have hne := hs2' rfl
      have hne2 : s2.toList.isEmpty = false := str_ne _ hne
      replace hr3 := hide hr3
      clear hs2 hs2'
      go_wp2
      go_ret2
      rw [hr3.out]
      exact ⟨_,rfl,B2⟩
     ·have he := hs2 rfl
      subst he
      clear hs2 hs2'
      go_wp2_with fail
      refine (ca.out _ (h1.out.below B2)).mono ?_
      rintro e w3 ⟨rfl,hb3⟩
      have B3 := Bel.to B2 hb3
      have q3 := Row.keep q2 hb3
      clear hb3 q2 d2 ca
      by_cases hc0 : cav = 0
      ·have hr3 : r = cgv := by rw [hr2.out,if_neg (by simp),if_neg (by simp),if_neg (by simpa using hc0)]
       replace hr3 := hide hr3
       subst hc0
       go_wp2_with (first | (refine wpList_load_row rfl 25 _ rfl _ rfl _ _ _ _ q3 Tryz.underlying25 rfl (by kernel_rfl) ?_) | fail)
       refine (cg.out _ (h3.out.below B3)).mono ?_
       rintro e w4 ⟨rfl,hb4⟩
       by_cases hc1 : cgv = 0
       ·subst hc1
        go_wp2
        go_ret2
        rw [hr3.out]
        exact ⟨_,rfl,Bel.to B3 hb4⟩
       ·have hcb : (cgv != 0) = true := by simpa using hc1
        replace hc1 := hide hc1
        go_wp2
        go_ret2
        rw [hr3.out]
        exact ⟨_,rfl,Bel.to B3 hb4⟩
      ·have hr3 : r = cav := by rw [hr2.out,if_neg (by simp),if_neg (by simp),if_pos hc0]
       have hcb : (cav != 0) = true := by simpa using hc0
       replace hr3 := hide hr3
       replace hc0 := hide hc0
       go_wp2
       go_ret2
       rw [hr3.out]
       exact ⟨_,rfl,B3⟩
  ·have hr2 : r = 7 := by rw [hr.out,if_neg (by simp),if_pos (by omega)]
   replace hr2 := hide hr2
   have k1 : (gkind != 1) = true := by simp;omega
   have k2 : (gkind != 2) = true := by simp;omega
   clear hr hk
   go_wp2
   go_ret2
   rw [hr2.out]
   exact ⟨_,rfl,bW⟩
theorem game_mat {g : GameD} (h : gameE g = 0) : matB g = true := by
 unfold gameE at h
 split at h
 ·omega
 ·split at h
  ·omega
  ·split at h
   ·omega
   ·rename_i h1 h2 h3;simpa using h3
theorem mat_facts {g : GameD} (h : matB g = true) : 1 ≤ g.main ∧ g.main ≤ 10 ∧ 0 ≤ g.bonus ∧ g.bonus ≤ 4 ∧ 0 ≤ g.of ∧ g.of ≤ 80 ∧ (g.kind = 2 → 2 ≤ g.of ∧ g.of ≤ 10) ∧ (g.kind ≠ 2 → g.main ≤ g.of) ∧ g.bonus ≤ g.bonusOf ∧ 0 ≤ g.bonusOf ∧ g.bonusOf ≤ 80 := by
 unfold matB at h
 simp only [Bool.and_eq_true] at h
 obtain ⟨⟨⟨⟨⟨⟨⟨h1,h2⟩,h3⟩,h4⟩,h5⟩,h6⟩,h7⟩,h8⟩ := h
 have a2 := inB_iff.1 h2
 split at h3 <;> split at h4 <;> split at h5 <;> (have a3 := inB_iff.1 h3;have a4 := inB_iff.1 h4;have a5 := inB_iff.1 h5;omega)
end Go.Proofs.YtldikghldcefcaaGreat
end

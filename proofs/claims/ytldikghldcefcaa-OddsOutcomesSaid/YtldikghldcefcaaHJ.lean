/- Lemmas, merged out of smaller texts (wip/tools/mergedce.py). No condition. -/
import Derived.Deep.RegionWith
import Derived.Deep.RegionHeld3
import Derived.Deep.DeepCutAuto
import Derived.Laws.Rows
import Derived.Deep.LoopGhost
import Derived.BigQuiet
import Derived.Test.YtldikghldcefcaaHE
import Derived.Test.YtldikghldcefcaaHC
import Derived.Test.YtldikghldcefcaaHD
import Derived.Test.YtldikghldcefcaaHCore
import Derived.Test.YtldikghldcefcaaHH
import Derived.Test.YtldikghldcefcaaHI
section
set_option linter.unusedVariables false
set_option linter.unusedSimpArgs false
namespace Go.Proofs.Ytldikghldcefcaa
open Go.RowKit
set_option maxHeartbeats 4000000 in
set_option maxRecDepth 100000 in
theorem rprod_any (v : Value) (ps : List NatM) (w : World) (h : NatsR w v ps) (hl : limS (ps.map (·.2)) ≤ 63) (hn : ps.length ≤ 1000) :
  Calls Try.prog 28 #[v] w (SomeNat (prodL (ps.map (·.2))) w) := by
 obtain ⟨aa,ca,rfl,hlc,hcm⟩ := RdS.shape h.1
 have hR0 : Row (w.alloc (.cells #[.slice none 0 0] 30)) w.heap.size 30 [.slice none 0 0] := Row.newOf _ rfl
 have hh := hide h
 obtain ⟨n,hnn⟩ : ∃ n,n = ps.length := ⟨_,rfl⟩
 rw [← hnn] at hn ⊢
 have hnn2 := hide hnn
 clear h hlc hcm hnn
 go_enter Try.func28,Try.ntmps28
 go_wp2_with fail
 refine (ref_of_int 1 _ (by omega) (by omega)).mono ?_
 rintro e w1 ⟨u,rfl,hu,hb1⟩
 obtain ⟨ua,ul,uc,rfl⟩ := Rd.shape hu
 have rR := Row.keep hR0 hb1
 have bel := Bel.one _ hb1
 clear hR0 hb1
 go_upto_region 2 with (fail)
 obtain ⟨b4,hb4⟩ : ∃ b4,b4 = w1.heap.size := ⟨_,rfl⟩
 obtain ⟨w2,hw2⟩ : ∃ X,X = w1.alloc (.cells #[.slice ua ul uc] 30) := ⟨_,rfl⟩
 have b2 : Below w1.heap.size w1 w2 := by rw [hw2];exact Bel.al (Below.refl _ _) _
 have rP : Row w2 b4 30 [.slice ua ul uc] := by rw [hw2,hb4];exact Row.newOf _ rfl
 have h40 : w.heap.size < b4 := by have := rR.lt;omega
 rw [← hw2,← hb4]
 clear hw2 hb4
 replace rR := Row.keep rR b2
 replace bel := Bel.to bel b2
 replace hu := Rd.below hu b2
 clear b2
 go_wp2
 go_loopw [4] (fun ti wr => ∃ (i : Nat) (pa : Option Addr) (pn pc : Nat),i ≤ n ∧ ti = .int .i64 (i : Int) ∧ Row wr b4 30 [.slice pa pn pc] ∧ NV wr (.slice pa pn pc) (prodL ((ps.map (·.2)).take i)) ∧ Row wr w.heap.size 30 [.slice none 0 0] ∧ Below w.heap.size w wr) (fun ti _ => n - (intOf ti).toNat)
 case atStart => exact ⟨0,ua,ul,uc,Nat.zero_le _,rfl,rP,hu,rR,bel⟩
 case round =>
  clear rP hu rR bel
  obtain ⟨i,pa,pn,pc,hi,rfl,rP,hp,rR,bel⟩ := hrel
  have c4 := rP.cell? 0
  simp only [List.getElem?_cons_zero] at c4
  by_cases hin : i < n
  ·have hil : i < ps.length := by have := hnn2.out;omega
   obtain ⟨b,off,rfl,hbb,hcell⟩ := hh.out.1.at_ hil
   obtain ⟨m,hm⟩ : ∃ m,m = ps[i] := ⟨_,rfl⟩
   have hmi : ps[i]? = some m := by rw [hm];exact List.getElem?_eq_getElem hil
   have hmem : m ∈ ps := by rw [hm];exact List.getElem_mem _
   have e1 : wr.cell? ⟨b,off + i,none⟩ = some m.1 := by
    have h1 := hcell i m hmi 0 m.1 rfl
    rw [Nat.mul_one,Nat.add_zero] at h1
    exact Bel.cellOf bel h1
   have hmv := Rd.below (hh.out.2 m hmem) bel
   have hml : (limbs m.2).length ≤ 64 := by have := limS_mem (List.mem_map_of_mem (f := (·.2)) hmem);omega
   have hpl : (limbs (prodL ((ps.map (·.2)).take i))).length ≤ 64 := by have := limS_pre (ps.map (·.2)) i;omega
   have hpl2 := limS_pre (ps.map (·.2)) (i + 1)
   have hst : Hid (prodL ((ps.map (·.2)).take (i + 1)) = prodL ((ps.map (·.2)).take i) * m.2) := by
    show _ = _
    rw [prodL_take _ _ (by rw [List.length_map];exact hil),List.getElem_map,hm]
   have hpd : (digs (prodL ((ps.map (·.2)).take i) * m.2)).length ≤ 128 := by rw [← hst.out];exact digs_limbs_len (k := 64) (by omega)
   obtain ⟨q,hq⟩ : ∃ q,q = prodL ((ps.map (·.2)).take i) := ⟨_,rfl⟩
   rw [← hq] at hp hpl hst hpd
   clear hq hcell hmi hmem hm hpl2
   obtain ⟨mv,mn⟩ := m
   simp only [] at e1 hmv hml hst hpd
   obtain ⟨ma,ml,mc,rfl⟩ := Rd.shape hmv
   have i2 : (i : Int) < (n : Int) := by omega
   have i3 : (n : Int) ≤ 1000 := by omega
   have i0 : (0 : Int) ≤ (i : Int) := by omega
   go_wp2
   refine till_begin 9 (fun X => X.cell? ⟨b4,0,none⟩ = some (.slice pa pn pc) ∧ X.cell? ⟨b,off + i,none⟩ = some (.slice ma ml mc)) (by kernel_rfl) (⟨c4,e1⟩) (fun hHeld => ?_)
   refine' till_take (i := 0) (oi := _) (v := .agg #[.slice pa pn pc]) rfl (by kernel_rfl) (by kernel_rfl) (by kernel_rfl) (by kernel_rfl) (fun _ _ _ h => h) (Or.inl ⟨by first | (go_simp;done) | rfl,fun X hX => by have h0 := hX.1;go_simp⟩) hHeld ?_
   try simp only [Act.put,zsA,zsB,zsC]
   refine' till_pure (i := 1) (oi := _) (v := .slice (some ⟨b,off,none⟩) n ca) rfl (by kernel_rfl) (by kernel_rfl) (by kernel_rfl) (by kernel_rfl) (fun _ _ _ h => h) (Or.inl ⟨by first | (go_simp;done) | rfl,fun X _ => by go_simp⟩) hHeld ?_
   try simp only [Act.put,zsA,zsB,zsC]
   refine' till_pure (i := 2) (oi := _) (v := .int .i64 (i : Int)) rfl (by kernel_rfl) (by kernel_rfl) (by kernel_rfl) (by kernel_rfl) (fun _ _ _ h => h) (Or.inl ⟨by first | (go_simp;done) | rfl,fun X _ => by go_simp⟩) hHeld ?_
   try simp only [Act.put,zsA,zsB,zsC]
   refine' till_pure (i := 3) (oi := _) (v := .pointer (some ⟨b,(off + i),none⟩)) rfl (by kernel_rfl) (by kernel_rfl) (by kernel_rfl) (by kernel_rfl) (fun _ _ _ h => h) (Or.inl ⟨by first | (go_simp;done) | rfl,fun X _ => by go_simp⟩) hHeld ?_
   try simp only [Act.put,zsA,zsB,zsC]
   refine' till_take (i := 4) (oi := _) (v := .agg #[.slice ma ml mc]) rfl (by kernel_rfl) (by kernel_rfl) (by kernel_rfl) (by kernel_rfl) (fun _ _ _ h => h) (Or.inl ⟨by first | (go_simp;done) | rfl,fun X hX => by have h0 := hX.2;go_simp⟩) hHeld ?_
   try simp only [Act.put,zsA,zsB,zsC]
   obtain ⟨Y0,hY0⟩ : ∃ Y,Y = wr.drew := ⟨_,rfl⟩
   have hY1 : Below wr.heap.size wr Y0 := by rw [hY0];exact Below.drew (Below.refl _ _)
   replace rP := Row.keep rP hY1
   replace hp := Rd.below hp hY1
   replace rR := Row.keep rR hY1
   replace bel := Bel.to bel hY1
   replace hmv := Rd.below hmv hY1
   rw [← hY0] at hHeld ⊢
   clear hY0 hY1 c4 e1
   have cM := hide (rmul_nat _ _ q mn Y0 hp hmv hpl hml hpd)
   rw [← hst.out] at cM
   refine till_ready (rs := [5]) (by kernel_rfl) (by simp) ?_
   refine TillReady.cons (o := _) rfl (fun K hK => ?_) TillReady.nil
   go_simp
   refine (cM.out).mono ?_
   rintro e w22 ⟨u,rfl,hu,hb22⟩
   obtain ⟨ua,ul,uc,rfl⟩ := Rd.shape hu
   replace rP := Row.keep rP hb22
   replace rR := Row.keep rR hb22
   replace bel := Bel.to bel hb22
   go_wp2_with fail
   refine hK.out _ _ (⟨Bel.cellOf hb22 hHeld.1,Bel.cellOf hb22 hHeld.2⟩) (fun hHeld => ?_)
   clear hK K hb22
   try simp only [Act.put,zsA,zsB,zsC]
   clear cM hmv hp
   refine' till_pure (i := 6) (oi := _) (v := .tuple #[.agg #[.slice ua ul uc],.int .i64 0]) rfl (by kernel_rfl) (by kernel_rfl) (by kernel_rfl) (by kernel_rfl) (fun _ _ _ h => h) (Or.inl ⟨by first | (go_simp;done) | rfl,fun X _ => by go_simp⟩) hHeld ?_
   try simp only [Act.put,zsA,zsB,zsC]
   refine' till_pure (i := 7) (oi := _) (v := .agg #[.slice ua ul uc]) rfl (by kernel_rfl) (by kernel_rfl) (by kernel_rfl) (by kernel_rfl) (fun _ _ _ h => h) (Or.inl ⟨by first | (go_simp;done) | rfl,fun X _ => by go_simp⟩) hHeld ?_
   try simp only [Act.put,zsA,zsB,zsC]
   refine' till_pure (i := 8) (oi := _) (v := .int .i64 0) rfl (by kernel_rfl) (by kernel_rfl) (by kernel_rfl) (by kernel_rfl) (fun _ _ _ h => h) (Or.inl ⟨by first | (go_simp;done) | rfl,fun X _ => by go_simp⟩) hHeld ?_
   try simp only [Act.put,zsA,zsB,zsC]
   have cb9 := rP.cell? 0
   have fb9 := rP.frozen 0
   simp only [List.getElem?_cons_zero] at cb9
   refine till_ready (rs := [9]) (by kernel_rfl) (by simp) ?_
   refine TillReady.last (o := _) rfl (by kernel_rfl) (fun K hK => ?_) TillReady.nil
   go_simp
   refine hK.out _ _ ?_
   clear hK K
   try simp only [Act.put,zsA,zsB,zsC]
   refine till_done (by kernel_rfl) ?_ _
   go_simp
   obtain ⟨w23,hw23⟩ : ∃ X,X = w22.setCell ⟨b4,0,none⟩ (.slice ua ul uc) := ⟨_,rfl⟩
   have rP2 : Row w23 b4 30 [.slice ua ul uc] := by rw [hw23];exact Row.set rP 0 _
   have hu2 := Rd.setNe hu cb9 (fun _ h => by cases h) (.slice ua ul uc)
   rw [← hw23] at hu2
   have rR2 := Row.far rR (p := ⟨b4,0,none⟩) (by simp only [];omega) (.slice ua ul uc)
   rw [← hw23] at rR2
   have bel2 := Bel.st bel (p := ⟨b4,0,none⟩) (by simp only [];omega) (.slice ua ul uc)
   rw [← hw23] at bel2
   (try rw [← hw23])
   clear hw23 cb9 fb9 rP hu rR bel
   go_wp2
   go_roundw
   case rel => exact ⟨i + 1,ua,ul,uc,by omega,by go_num,rP2,hu2,rR2,bel2⟩
   case measure => simp [intOf];omega
  ·obtain rfl : i = n := by omega
   rw [List.take_of_length_le (by rw [List.length_map,← hnn2.out];exact Nat.le_refl _)] at hp
   have cR := rR.cell? 0
   have fR := rR.frozen 0
   simp only [List.getElem?_cons_zero] at cR
   have hf := Rd.setNe hp cR (fun _ h => by cases h) (.slice pa pn pc)
   have belf := Bel.st bel (p := ⟨w.heap.size,0,none⟩) (Nat.le_refl _) (.slice pa pn pc)
   go_wp2
   exact bodyPost_ret (v := .agg #[(.slice pa pn pc)]) (by simp [results,Try.results28,go_sem,cR]) rfl ⟨_,rfl,hf,belf⟩
set_option maxHeartbeats 4000000 in
set_option maxRecDepth 100000 in
theorem rpow_any (d n : Nat) (w : World) (hd : d < 4294967296) (hn : n ≤ 60) :
  Calls Try.prog 27 #[.int .i64 (d : Int),.int .i64 (n : Int)] w (SomeNat (d ^ n) w) := by
 have hR0 : Row (w.alloc (.cells #[.slice none 0 0] 30)) w.heap.size 30 [.slice none 0 0] := Row.newOf _ rfl
 have hl1 : (limbs d).length ≤ 1 := length_limbs_lt.1 (by rw [Nat.pow_one];exact hd)
 have hlp : Hid (∀ i,i ≤ n → (limbs (d ^ i)).length ≤ 61) := by
  intro i hi
  have h1 := limS_prod (List.replicate i d)
  have h2 := limS_le (l := List.replicate i d) (c := 1) (fun x hx => by rw [(List.mem_replicate.1 hx).2];exact hl1)
  rw [List.length_replicate] at h2
  rw [prodL_replicate] at h1
  omega
 go_enter Try.func27,Try.ntmps27
 go_wp2_with fail
 refine (ref_of_int 1 _ (by omega) (by omega)).mono ?_
 rintro e w1 ⟨u,rfl,hu,hb1⟩
 obtain ⟨ua,ul,uc,rfl⟩ := Rd.shape hu
 have rR := Row.keep hR0 hb1
 have bel := Bel.one _ hb1
 clear hR0 hb1
 go_upto_region 2 with (fail)
 obtain ⟨b4,hb4⟩ : ∃ b4,b4 = w1.heap.size := ⟨_,rfl⟩
 obtain ⟨w2,hw2⟩ : ∃ X,X = w1.alloc (.cells #[.slice ua ul uc] 30) := ⟨_,rfl⟩
 have b2 : Below w1.heap.size w1 w2 := by rw [hw2];exact Bel.al (Below.refl _ _) _
 have rP : Row w2 b4 30 [.slice ua ul uc] := by rw [hw2,hb4];exact Row.newOf _ rfl
 have h40 : w.heap.size < b4 := by have := rR.lt;omega
 rw [← hw2,← hb4]
 clear hw2 hb4
 replace rR := Row.keep rR b2
 replace bel := Bel.to bel b2
 replace hu := Rd.below hu b2
 clear b2
 go_wp2
 go_loopw [6] (fun ti wr => ∃ (i : Nat) (pa : Option Addr) (pn pc : Nat),i ≤ n ∧ ti = .int .i64 (i : Int) ∧ Row wr b4 30 [.slice pa pn pc] ∧ NV wr (.slice pa pn pc) (d ^ i) ∧ Row wr w.heap.size 30 [.slice none 0 0] ∧ Below w.heap.size w wr) (fun ti _ => n - (intOf ti).toNat)
 case atStart => exact ⟨0,ua,ul,uc,Nat.zero_le _,rfl,rP,by rw [Nat.pow_zero];exact hu,rR,bel⟩
 case round =>
  clear rP hu rR bel
  obtain ⟨i,pa,pn,pc,hi,rfl,rP,hp,rR,bel⟩ := hrel
  have c4 := rP.cell? 0
  simp only [List.getElem?_cons_zero] at c4
  by_cases hin : i < n
  ·have hpl : (limbs (d ^ i)).length ≤ 64 := by have := hlp.out i hi;omega
   have hml : (limbs d).length ≤ 64 := by omega
   have hpd : (digs (d ^ i * d)).length ≤ 128 := by
    rw [← Nat.pow_succ]
    exact digs_limbs_len (k := 64) (by have := hlp.out (i + 1) (by omega);exact Nat.le_trans this (by omega))
   have i2 : (i : Int) < (n : Int) := by omega
   have i3 : (n : Int) ≤ 60 := by omega
   have wd : IntKind.u64.wrap (d : Int) = (d : Int) := by rw [IntKind.wrap_u64];omega
   go_wp2
   refine till_begin 8 (fun X => X.cell? ⟨b4,0,none⟩ = some (.slice pa pn pc)) (by kernel_rfl) (c4) (fun hHeld => ?_)
   refine' till_take (i := 0) (oi := _) (v := .agg #[.slice pa pn pc]) rfl (by kernel_rfl) (by kernel_rfl) (by kernel_rfl) (by kernel_rfl) (fun _ _ _ h => h) (Or.inl ⟨by first | (go_simp;done) | rfl,fun X hX => by have h0 := hX;go_simp⟩) hHeld ?_
   try simp only [Act.put,zsA,zsB,zsC]
   refine' till_pure (i := 1) (oi := _) (v := .int .i64 (d : Int)) rfl (by kernel_rfl) (by kernel_rfl) (by kernel_rfl) (by kernel_rfl) (fun _ _ _ h => h) (Or.inl ⟨by first | (go_simp;done) | rfl,fun X _ => by go_simp⟩) hHeld ?_
   try simp only [Act.put,zsA,zsB,zsC]
   refine' till_pure (i := 2) (oi := _) (v := .int .u64 (d : Int)) rfl (by kernel_rfl) (by kernel_rfl) (by kernel_rfl) (by kernel_rfl) (fun _ _ _ h => h) (Or.inl ⟨by first | (go_simp;done) | rfl,fun X _ => by go_simp⟩) hHeld ?_
   try simp only [Act.put,zsA,zsB,zsC]
   obtain ⟨Y0,hY0⟩ : ∃ Y,Y = wr.drew := ⟨_,rfl⟩
   have hY1 : Below wr.heap.size wr Y0 := by rw [hY0];exact Below.drew (Below.refl _ _)
   replace rP := Row.keep rP hY1
   replace hp := Rd.below hp hY1
   replace rR := Row.keep rR hY1
   replace bel := Bel.to bel hY1
   rw [← hY0] at hHeld ⊢
   clear hY0 hY1 c4
   refine till_ready (rs := [3]) (by kernel_rfl) (by simp) ?_
   refine TillReady.cons (o := _) rfl (fun K hK => ?_) TillReady.nil
   go_simp
   refine (ref_of_int (d : Int) Y0 (by omega) (by omega)).mono ?_
   rintro e w20 ⟨f,rfl,hf,hb20⟩
   rw [Int.toNat_natCast] at hf
   obtain ⟨fa,fl,fc,rfl⟩ := Rd.shape hf
   replace rP := Row.keep rP hb20
   replace hp := Rd.below hp hb20
   replace rR := Row.keep rR hb20
   replace bel := Bel.to bel hb20
   go_wp2_with fail
   refine hK.out _ _ (Bel.cellOf hb20 hHeld) (fun hHeld => ?_)
   clear hK K hb20
   try simp only [Act.put,zsA,zsB,zsC]
   have cM := hide (rmul_nat _ _ (d ^ i) d w20 hp hf hpl hml hpd)
   rw [← Nat.pow_succ] at cM
   refine till_ready (rs := [4]) (by kernel_rfl) (by simp) ?_
   refine TillReady.cons (o := _) rfl (fun K hK => ?_) TillReady.nil
   go_simp
   refine (cM.out).mono ?_
   rintro e w22 ⟨u,rfl,hu,hb22⟩
   obtain ⟨ua,ul,uc,rfl⟩ := Rd.shape hu
   replace rP := Row.keep rP hb22
   replace rR := Row.keep rR hb22
   replace bel := Bel.to bel hb22
   go_wp2_with fail
   refine hK.out _ _ (Bel.cellOf hb22 hHeld) (fun hHeld => ?_)
   clear hK K hb22
   try simp only [Act.put,zsA,zsB,zsC]
   clear cM hf hp
   refine' till_pure (i := 5) (oi := _) (v := .tuple #[.agg #[.slice ua ul uc],.int .i64 0]) rfl (by kernel_rfl) (by kernel_rfl) (by kernel_rfl) (by kernel_rfl) (fun _ _ _ h => h) (Or.inl ⟨by first | (go_simp;done) | rfl,fun X _ => by go_simp⟩) hHeld ?_
   try simp only [Act.put,zsA,zsB,zsC]
   refine' till_pure (i := 6) (oi := _) (v := .agg #[.slice ua ul uc]) rfl (by kernel_rfl) (by kernel_rfl) (by kernel_rfl) (by kernel_rfl) (fun _ _ _ h => h) (Or.inl ⟨by first | (go_simp;done) | rfl,fun X _ => by go_simp⟩) hHeld ?_
   try simp only [Act.put,zsA,zsB,zsC]
   refine' till_pure (i := 7) (oi := _) (v := .int .i64 0) rfl (by kernel_rfl) (by kernel_rfl) (by kernel_rfl) (by kernel_rfl) (fun _ _ _ h => h) (Or.inl ⟨by first | (go_simp;done) | rfl,fun X _ => by go_simp⟩) hHeld ?_
   try simp only [Act.put,zsA,zsB,zsC]
   have cb9 := rP.cell? 0
   have fb9 := rP.frozen 0
   simp only [List.getElem?_cons_zero] at cb9
   refine till_ready (rs := [8]) (by kernel_rfl) (by simp) ?_
   refine TillReady.last (o := _) rfl (by kernel_rfl) (fun K hK => ?_) TillReady.nil
   go_simp
   refine hK.out _ _ ?_
   clear hK K
   try simp only [Act.put,zsA,zsB,zsC]
   refine till_done (by kernel_rfl) ?_ _
   go_simp
   obtain ⟨w23,hw23⟩ : ∃ X,X = w22.setCell ⟨b4,0,none⟩ (.slice ua ul uc) := ⟨_,rfl⟩
   have rP2 : Row w23 b4 30 [.slice ua ul uc] := by rw [hw23];exact Row.set rP 0 _
   have hu2 := Rd.setNe hu cb9 (fun _ h => by cases h) (.slice ua ul uc)
   rw [← hw23] at hu2
   have rR2 := Row.far rR (p := ⟨b4,0,none⟩) (by simp only [];omega) (.slice ua ul uc)
   rw [← hw23] at rR2
   have bel2 := Bel.st bel (p := ⟨b4,0,none⟩) (by simp only [];omega) (.slice ua ul uc)
   rw [← hw23] at bel2
   (try rw [← hw23])
   clear hw23 cb9 fb9 rP hu rR bel
   go_wp2
   go_roundw
   case rel => exact ⟨i + 1,ua,ul,uc,by omega,by go_num,rP2,hu2,rR2,bel2⟩
   case measure => simp [intOf];omega
  ·obtain rfl : i = n := by omega
   have cR := rR.cell? 0
   have fR := rR.frozen 0
   simp only [List.getElem?_cons_zero] at cR
   have hf := Rd.setNe hp cR (fun _ h => by cases h) (.slice pa pn pc)
   have belf := Bel.st bel (p := ⟨w.heap.size,0,none⟩) (Nat.le_refl _) (.slice pa pn pc)
   go_wp2
   exact bodyPost_ret (v := .agg #[(.slice pa pn pc)]) (by simp [results,Try.results27,go_sem,cR]) rfl ⟨_,rfl,hf,belf⟩
set_option maxHeartbeats 4000000 in
set_option maxRecDepth 100000 in
theorem rochoose_any (n k : Int) (w : World) (hn : n ≤ 80) :
  Calls Try.prog 29 #[.int .i64 n,.int .i64 k] w (SomeNat (chZ n k) w) := by
 have hR0 : Row (w.alloc (.cells #[.slice none 0 0] 30)) w.heap.size 30 [.slice none 0 0] := Row.newOf _ rfl
 by_cases h0 : n < 0
 ·have e : chZ n k = 0 := by unfold chZ;rw [if_pos h0]
  rw [e]
  clear e
  go_enter Try.func29,Try.ntmps29
  go_wp2
  refine bodyPost_ret (v := .agg #[.slice none 0 0]) (by simp [results,Try.results29,go_sem]) rfl ⟨_,rfl,NV.zero _,?_⟩
  first | exact Bel.al (Below.refl _ _) _ | exact Bel.st (Bel.al (Below.refl _ _) _) (Nat.le_refl _) _
 ·have e : chZ n k = chooseI n k := by unfold chZ;rw [if_neg h0]
  rw [e]
  clear e
  have cC := hide (fun X => rchoose_any n k X)
  have ev : chooseV n k = (chooseI n k,0) := by unfold chooseV;rw [if_pos ⟨by omega,hn⟩]
  rw [ev] at cC
  clear ev
  go_enter Try.func29,Try.ntmps29
  go_wp2_with fail
  refine (cC.out _).mono ?_
  rintro e w1 ⟨u,rfl,hp,hb1⟩
  obtain ⟨pa,pn,pc,rfl⟩ := Rd.shape hp
  have rR := Row.keep hR0 hb1
  have bel := Bel.one _ hb1
  clear hR0 hb1 cC
  go_upto_region 4 with (fail)
  obtain ⟨w2,hw2⟩ : ∃ X,X = w1.alloc (.cells #[.slice pa pn pc] 30) := ⟨_,rfl⟩
  have b2 : Below w1.heap.size w1 w2 := by rw [hw2];exact Bel.al (Below.refl _ _) _
  have r5 : Row w2 w1.heap.size 30 [.slice pa pn pc] := by rw [hw2];exact Row.newOf _ rfl
  rw [← hw2]
  clear hw2
  replace rR := Row.keep rR b2
  replace bel := Bel.to bel b2
  replace hp := Rd.below hp b2
  have c5 := r5.cell? 0
  simp only [List.getElem?_cons_zero] at c5
  clear b2
  have cR := rR.cell? 0
  have fR := rR.frozen 0
  simp only [List.getElem?_cons_zero] at cR
  have hf := Rd.setNe hp cR (fun _ h => by cases h) (.slice pa pn pc)
  have belf := Bel.st bel (p := ⟨w.heap.size,0,none⟩) (Nat.le_refl _) (.slice pa pn pc)
  go_wp2
  exact bodyPost_ret (v := .agg #[(.slice pa pn pc)]) (by simp [results,Try.results29,go_sem,cR]) rfl ⟨_,rfl,hf,belf⟩
end Go.Proofs.Ytldikghldcefcaa
end
section
open Go.RowKit
set_option linter.unusedVariables false
set_option linter.unusedSimpArgs false
namespace Go.Proofs.Ytldikghldcefcaa
def ListV (l : List Int) (w : World) (e : Ending) (w' : World) : Prop := ∃ u,e = .returned u ∧ Rd I64 w' u l ∧ Below w.heap.size w w'
def leastI (a b : Int) : Int := if a < b then a else b
def numsL (g : GameD) : List Int := [g.price,g.main,g.of,g.bonus,g.bonusOf,g.extra,g.draws,g.system,g.days,g.at_,g.close,g.cancel,g.expiry,g.pool,g.reserve,g.round,g.cap,g.rolls]
def lowL (g : GameD) : List Int := [1,1,if g.kind = 2 then 2 else g.main,0,g.bonus,0,1,g.main,1,0,0,0,1,0,0,1,0,0]
def highL (g : GameD) : List Int := [1000000,10,if g.kind = 2 then 10 else 80,if g.kind = 2 then 0 else 4,if g.bonus = 0 then 0 else 80,if g.kind = 2 then 0 else leastI 4 (wrap64 (g.of - g.main)),32,if g.kind = 2 then g.main else leastI 14 g.of,127,1439,1440,10080,3660,10000,10000,1000000,1000000000000,64]
theorem Rd.at2 {w : World} {o : Obj} {t : TypeId} {l : List Int} {n : Nat} (hn : n = l.length) (hm : n ≤ 9223372036854775807) : Rd I64 ((w.alloc o).alloc (.cells (l.map I64).toArray t)) (.slice (some ⟨w.heap.size + 1,0,none⟩) n n) l :=
 (Row.at2 w o t (l.map I64)).rdAll hn (Nat.le_refl _) hm
set_option maxHeartbeats 1000000 in
theorem numbers_any (g : GameD) (av tv : Value) (w : World) (hav : ∃ ao n cap,av = .slice ao n cap) (htv : ∃ ao n cap,tv = .slice ao n cap) :
  Calls Try.prog 52 #[gameVal g av tv] w (ListV (numsL g) w) := by
 obtain ⟨gname,gkind,gprice,gmain,gof,gbonus,gbonusOf,gextra,gdraws,gsystem,gdays,gat,gclose,gcancel,gexpiry,gpool,greserve,ground,gcap,grolls,ga,gt⟩ := g
 obtain ⟨a1,a2,a3,rfl⟩ := hav
 obtain ⟨b1,b2,b3,rfl⟩ := htv
 unfold gameVal
 (try simp only [])
 go_enter Try.func52,Try.ntmps52
 go_wp2
 go_ret
 exact ⟨_,rfl,Rd.at2 rfl (by decide),Bel.al (Bel.al (Below.refl _ _) _) _⟩
set_option maxHeartbeats 1000000 in
theorem lowest_any (g : GameD) (av tv : Value) (w : World) (hav : ∃ ao n cap,av = .slice ao n cap) (htv : ∃ ao n cap,tv = .slice ao n cap) :
  Calls Try.prog 54 #[gameVal g av tv] w (ListV (lowL g) w) := by
 obtain ⟨l,hl⟩ : ∃ l,l = lowL g := ⟨_,rfl⟩
 rw [← hl]
 unfold lowL at hl
 obtain ⟨gname,gkind,gprice,gmain,gof,gbonus,gbonusOf,gextra,gdraws,gsystem,gdays,gat,gclose,gcancel,gexpiry,gpool,greserve,ground,gcap,grolls,ga,gt⟩ := g
 obtain ⟨a1,a2,a3,rfl⟩ := hav
 obtain ⟨b1,b2,b3,rfl⟩ := htv
 unfold gameVal
 (try simp only [] at hl ⊢)
 by_cases hk : gkind = 2
 ·subst hk
  rw [if_pos rfl] at hl
  replace hl := hide hl
  go_enter Try.func54,Try.ntmps54
  go_wp2
  go_ret
  rw [hl.out]
  exact ⟨_,rfl,Rd.at2 rfl (by decide),Bel.al (Bel.al (Below.refl _ _) _) _⟩
 ·rw [if_neg hk] at hl
  have hkb : (gkind == 2) = false := by simpa using hk
  replace hk := hide hk
  replace hl := hide hl
  go_enter Try.func54,Try.ntmps54
  go_wp2
  go_ret
  rw [hl.out]
  exact ⟨_,rfl,Rd.at2 rfl (by decide),Bel.al (Bel.al (Below.refl _ _) _) _⟩
theorem least_any (a b : Int) (w : World) : Calls Try.prog 78 #[.int .i64 a,.int .i64 b] w (Pure (.int .i64 (leastI a b)) w) := by
 unfold leastI
 by_cases h : a < b
 ·rw [if_pos h]
  go_enter Try.func78,Try.ntmps78
  go_wp2
  go_ret
  exact ⟨rfl,rfl⟩
 ·rw [if_neg h]
  go_enter Try.func78,Try.ntmps78
  go_wp2
  go_ret
  exact ⟨rfl,rfl⟩
def TextV (n : Nat) (w : World) (e : Ending) (w' : World) : Prop := ∃ u ss,e = .returned u ∧ Rd Value.string w' u ss ∧ ss.length = n ∧ Below w.heap.size w w'
set_option maxHeartbeats 1000000 in
theorem fields_any (w : World) : Calls Try.prog 56 #[] w (TextV 18 w) := by
 go_enter Try.func56,Try.ntmps56
 go_wp2
 go_ret
 exact ⟨_,[⟨#[112,114,105,99,101]⟩,⟨#[109,97,105,110]⟩,⟨#[111,102]⟩,⟨#[98,111,110,117,115]⟩,⟨#[98,111,110,117,115,111,102]⟩,⟨#[101,120,116,114,97]⟩,⟨#[100,114,97,119,115]⟩,⟨#[115,121,115,116,101,109]⟩,⟨#[100,97,121,115]⟩,⟨#[97,116]⟩,⟨#[99,108,111,115,101]⟩,⟨#[99,97,110,99,101,108]⟩,⟨#[101,120,112,105,114,121]⟩,⟨#[112,111,111,108]⟩,⟨#[114,101,115,101,114,118,101]⟩,⟨#[114,111,117,110,100]⟩,⟨#[99,97,112]⟩,⟨#[114,111,108,108,115]⟩],rfl,Row.rdAll (V := Value.string) (Row.newOf (cs := List.map Value.string [⟨#[112,114,105,99,101]⟩,⟨#[109,97,105,110]⟩,⟨#[111,102]⟩,⟨#[98,111,110,117,115]⟩,⟨#[98,111,110,117,115,111,102]⟩,⟨#[101,120,116,114,97]⟩,⟨#[100,114,97,119,115]⟩,⟨#[115,121,115,116,101,109]⟩,⟨#[100,97,121,115]⟩,⟨#[97,116]⟩,⟨#[99,108,111,115,101]⟩,⟨#[99,97,110,99,101,108]⟩,⟨#[101,120,112,105,114,121]⟩,⟨#[112,111,111,108]⟩,⟨#[114,101,115,101,114,118,101]⟩,⟨#[114,111,117,110,100]⟩,⟨#[99,97,112]⟩,⟨#[114,111,108,108,115]⟩]) _ rfl) rfl (by decide) (by decide),rfl,Bel.al (Below.refl _ _) _⟩
set_option maxHeartbeats 2000000 in
set_option maxRecDepth 100000 in
theorem highest_any (g : GameD) (av tv : Value) (w : World) (hav : ∃ ao n cap,av = .slice ao n cap) (htv : ∃ ao n cap,tv = .slice ao n cap) :
  Calls Try.prog 55 #[gameVal g av tv] w (ListV (highL g) w) := by
 obtain ⟨l,hl⟩ : ∃ l,l = highL g := ⟨_,rfl⟩
 rw [← hl]
 unfold highL at hl
 obtain ⟨gname,gkind,gprice,gmain,gof,gbonus,gbonusOf,gextra,gdraws,gsystem,gdays,gat,gclose,gcancel,gexpiry,gpool,greserve,ground,gcap,grolls,ga,gt⟩ := g
 obtain ⟨a1,a2,a3,rfl⟩ := hav
 obtain ⟨b1,b2,b3,rfl⟩ := htv
 unfold gameVal
 (try simp only [] at hl ⊢)
 by_cases hk : gkind = 2
 ·rw [if_pos hk,if_pos hk,if_pos hk,if_pos hk] at hl
  subst hk
  by_cases hb : gbonus = 0
  ·rw [if_pos hb] at hl
   replace hl := hide hl
   subst hb
   go_enter Try.func55,Try.ntmps55
   go_upto_region 1 with (fail)
   obtain ⟨W,hW⟩ : ∃ W,W = (w.alloc (Obj.cells #[.string gname,.int .i64 2,.int .i64 gprice,.int .i64 gmain,.int .i64 gof,.int .i64 0,.int .i64 gbonusOf,.int .i64 gextra,.int .i64 gdraws,.int .i64 gsystem,.int .i64 gdays,.int .i64 gat,.int .i64 gclose,.int .i64 gcancel,.int .i64 gexpiry,.int .i64 gpool,.int .i64 greserve,.int .i64 ground,.int .i64 gcap,.int .i64 grolls,(.slice a1 a2 a3),(.slice b1 b2 b3)] 25)) := ⟨_,rfl⟩
   have bW : Below w.heap.size w W := by rw [hW];exact Bel.al (Below.refl _ _) _
   have r0 : Row W (w.heap.size) 25 [.string gname,.int .i64 2,.int .i64 gprice,.int .i64 gmain,.int .i64 gof,.int .i64 0,.int .i64 gbonusOf,.int .i64 gextra,.int .i64 gdraws,.int .i64 gsystem,.int .i64 gdays,.int .i64 gat,.int .i64 gclose,.int .i64 gcancel,.int .i64 gexpiry,.int .i64 gpool,.int .i64 greserve,.int .i64 ground,.int .i64 gcap,.int .i64 grolls,(.slice a1 a2 a3),(.slice b1 b2 b3)] := by rw [hW];exact Row.new _ _ _
   have c0_1 : W.cell? ⟨w.heap.size,1,none⟩ = some (.int .i64 2) := Row.cell r0 (i := 1) (by simp)
   have c0_3 : W.cell? ⟨w.heap.size,3,none⟩ = some (.int .i64 gmain) := Row.cell r0 (i := 3) (by simp)
   have c0_4 : W.cell? ⟨w.heap.size,4,none⟩ = some (.int .i64 gof) := Row.cell r0 (i := 4) (by simp)
   have c0_5 : W.cell? ⟨w.heap.size,5,none⟩ = some (.int .i64 0) := Row.cell r0 (i := 5) (by simp)
   have sW : w.heap.size < W.heap.size := by rw [hW];simp
   rw [← hW]
   clear hW
   go_region_held3 (fun X => X.cell? ⟨w.heap.size,4,none⟩ = some (.int .i64 gof) ∧ X.cell? ⟨w.heap.size,3,none⟩ = some (.int .i64 gmain)) (go_keep) (first
    | (go_at_call 78;refine (least_any _ _ _).mono ?_;rintro e w' ⟨rfl,rfl⟩))
   go_wp2
   go_ret
   rw [hl.out]
   exact ⟨_,rfl,Rd.drew (Row.rdAll (V := I64) (Row.newOf _ rfl) rfl (by decide) (by decide)),Below.drew (Bel.al bW _)⟩
  ·rw [if_neg hb] at hl
   replace hl := hide hl
   have hbb : (gbonus == 0) = false := by simpa using hb
   replace hb := hide hb
   go_enter Try.func55,Try.ntmps55
   go_upto_region 1 with (fail)
   obtain ⟨W,hW⟩ : ∃ W,W = (w.alloc (Obj.cells #[.string gname,.int .i64 2,.int .i64 gprice,.int .i64 gmain,.int .i64 gof,.int .i64 gbonus,.int .i64 gbonusOf,.int .i64 gextra,.int .i64 gdraws,.int .i64 gsystem,.int .i64 gdays,.int .i64 gat,.int .i64 gclose,.int .i64 gcancel,.int .i64 gexpiry,.int .i64 gpool,.int .i64 greserve,.int .i64 ground,.int .i64 gcap,.int .i64 grolls,(.slice a1 a2 a3),(.slice b1 b2 b3)] 25)) := ⟨_,rfl⟩
   have bW : Below w.heap.size w W := by rw [hW];exact Bel.al (Below.refl _ _) _
   have r0 : Row W (w.heap.size) 25 [.string gname,.int .i64 2,.int .i64 gprice,.int .i64 gmain,.int .i64 gof,.int .i64 gbonus,.int .i64 gbonusOf,.int .i64 gextra,.int .i64 gdraws,.int .i64 gsystem,.int .i64 gdays,.int .i64 gat,.int .i64 gclose,.int .i64 gcancel,.int .i64 gexpiry,.int .i64 gpool,.int .i64 greserve,.int .i64 ground,.int .i64 gcap,.int .i64 grolls,(.slice a1 a2 a3),(.slice b1 b2 b3)] := by rw [hW];exact Row.new _ _ _
   have c0_1 : W.cell? ⟨w.heap.size,1,none⟩ = some (.int .i64 2) := Row.cell r0 (i := 1) (by simp)
   have c0_3 : W.cell? ⟨w.heap.size,3,none⟩ = some (.int .i64 gmain) := Row.cell r0 (i := 3) (by simp)
   have c0_4 : W.cell? ⟨w.heap.size,4,none⟩ = some (.int .i64 gof) := Row.cell r0 (i := 4) (by simp)
   have c0_5 : W.cell? ⟨w.heap.size,5,none⟩ = some (.int .i64 gbonus) := Row.cell r0 (i := 5) (by simp)
   have sW : w.heap.size < W.heap.size := by rw [hW];simp
   rw [← hW]
   clear hW
   go_region_held3 (fun X => X.cell? ⟨w.heap.size,4,none⟩ = some (.int .i64 gof) ∧ X.cell? ⟨w.heap.size,3,none⟩ = some (.int .i64 gmain)) (go_keep) (first
    | (go_at_call 78;refine (least_any _ _ _).mono ?_;rintro e w' ⟨rfl,rfl⟩))
   go_wp2
   go_ret
   rw [hl.out]
   exact ⟨_,rfl,Rd.drew (Row.rdAll (V := I64) (Row.newOf _ rfl) rfl (by decide) (by decide)),Below.drew (Bel.al bW _)⟩
 ·rw [if_neg hk,if_neg hk,if_neg hk,if_neg hk] at hl
  have hkb : (gkind == 2) = false := by simpa using hk
  replace hk := hide hk
  by_cases hb : gbonus = 0
  ·rw [if_pos hb] at hl
   replace hl := hide hl
   subst hb
   go_enter Try.func55,Try.ntmps55
   go_upto_region 1 with (fail)
   obtain ⟨W,hW⟩ : ∃ W,W = (w.alloc (Obj.cells #[.string gname,.int .i64 gkind,.int .i64 gprice,.int .i64 gmain,.int .i64 gof,.int .i64 0,.int .i64 gbonusOf,.int .i64 gextra,.int .i64 gdraws,.int .i64 gsystem,.int .i64 gdays,.int .i64 gat,.int .i64 gclose,.int .i64 gcancel,.int .i64 gexpiry,.int .i64 gpool,.int .i64 greserve,.int .i64 ground,.int .i64 gcap,.int .i64 grolls,(.slice a1 a2 a3),(.slice b1 b2 b3)] 25)) := ⟨_,rfl⟩
   have bW : Below w.heap.size w W := by rw [hW];exact Bel.al (Below.refl _ _) _
   have r0 : Row W (w.heap.size) 25 [.string gname,.int .i64 gkind,.int .i64 gprice,.int .i64 gmain,.int .i64 gof,.int .i64 0,.int .i64 gbonusOf,.int .i64 gextra,.int .i64 gdraws,.int .i64 gsystem,.int .i64 gdays,.int .i64 gat,.int .i64 gclose,.int .i64 gcancel,.int .i64 gexpiry,.int .i64 gpool,.int .i64 greserve,.int .i64 ground,.int .i64 gcap,.int .i64 grolls,(.slice a1 a2 a3),(.slice b1 b2 b3)] := by rw [hW];exact Row.new _ _ _
   have c0_1 : W.cell? ⟨w.heap.size,1,none⟩ = some (.int .i64 gkind) := Row.cell r0 (i := 1) (by simp)
   have c0_3 : W.cell? ⟨w.heap.size,3,none⟩ = some (.int .i64 gmain) := Row.cell r0 (i := 3) (by simp)
   have c0_4 : W.cell? ⟨w.heap.size,4,none⟩ = some (.int .i64 gof) := Row.cell r0 (i := 4) (by simp)
   have c0_5 : W.cell? ⟨w.heap.size,5,none⟩ = some (.int .i64 0) := Row.cell r0 (i := 5) (by simp)
   have sW : w.heap.size < W.heap.size := by rw [hW];simp
   rw [← hW]
   clear hW
   go_region_held3 (fun X => X.cell? ⟨w.heap.size,4,none⟩ = some (.int .i64 gof) ∧ X.cell? ⟨w.heap.size,3,none⟩ = some (.int .i64 gmain)) (go_keep) (first
    | (go_at_call 78;refine (least_any _ _ _).mono ?_;rintro e w' ⟨rfl,rfl⟩))
   go_wp2
   go_ret
   rw [hl.out]
   exact ⟨_,rfl,Rd.drew (Row.rdAll (V := I64) (Row.newOf _ rfl) rfl (by decide) (by decide)),Below.drew (Bel.al bW _)⟩
  ·rw [if_neg hb] at hl
   replace hl := hide hl
   have hbb : (gbonus == 0) = false := by simpa using hb
   replace hb := hide hb
   go_enter Try.func55,Try.ntmps55
   go_upto_region 1 with (fail)
   obtain ⟨W,hW⟩ : ∃ W,W = (w.alloc (Obj.cells #[.string gname,.int .i64 gkind,.int .i64 gprice,.int .i64 gmain,.int .i64 gof,.int .i64 gbonus,.int .i64 gbonusOf,.int .i64 gextra,.int .i64 gdraws,.int .i64 gsystem,.int .i64 gdays,.int .i64 gat,.int .i64 gclose,.int .i64 gcancel,.int .i64 gexpiry,.int .i64 gpool,.int .i64 greserve,.int .i64 ground,.int .i64 gcap,.int .i64 grolls,(.slice a1 a2 a3),(.slice b1 b2 b3)] 25)) := ⟨_,rfl⟩
   have bW : Below w.heap.size w W := by rw [hW];exact Bel.al (Below.refl _ _) _
   have r0 : Row W (w.heap.size) 25 [.string gname,.int .i64 gkind,.int .i64 gprice,.int .i64 gmain,.int .i64 gof,.int .i64 gbonus,.int .i64 gbonusOf,.int .i64 gextra,.int .i64 gdraws,.int .i64 gsystem,.int .i64 gdays,.int .i64 gat,.int .i64 gclose,.int .i64 gcancel,.int .i64 gexpiry,.int .i64 gpool,.int .i64 greserve,.int .i64 ground,.int .i64 gcap,.int .i64 grolls,(.slice a1 a2 a3),(.slice b1 b2 b3)] := by rw [hW];exact Row.new _ _ _
   have c0_1 : W.cell? ⟨w.heap.size,1,none⟩ = some (.int .i64 gkind) := Row.cell r0 (i := 1) (by simp)
   have c0_3 : W.cell? ⟨w.heap.size,3,none⟩ = some (.int .i64 gmain) := Row.cell r0 (i := 3) (by simp)
   have c0_4 : W.cell? ⟨w.heap.size,4,none⟩ = some (.int .i64 gof) := Row.cell r0 (i := 4) (by simp)
   have c0_5 : W.cell? ⟨w.heap.size,5,none⟩ = some (.int .i64 gbonus) := Row.cell r0 (i := 5) (by simp)
   have sW : w.heap.size < W.heap.size := by rw [hW];simp
   rw [← hW]
   clear hW
   go_region_held3 (fun X => X.cell? ⟨w.heap.size,4,none⟩ = some (.int .i64 gof) ∧ X.cell? ⟨w.heap.size,3,none⟩ = some (.int .i64 gmain)) (go_keep) (first
    | (go_at_call 78;refine (least_any _ _ _).mono ?_;rintro e w' ⟨rfl,rfl⟩))
   go_wp2
   go_ret
   rw [hl.out]
   exact ⟨_,rfl,Rd.drew (Row.rdAll (V := I64) (Row.newOf _ rfl) rfl (by decide) (by decide)),Below.drew (Bel.al bW _)⟩
end Go.Proofs.Ytldikghldcefcaa
end
section
set_option linter.unusedVariables false
set_option linter.unusedSimpArgs false
namespace Go.Proofs.Ytldikghldcefcaa
open Go.RowKit
def okAt (g : GameD) (i : Nat) : Bool := inB ((numsL g).getD i 0) ((lowL g).getD i 0) ((highL g).getD i 0)
theorem ok_all (g : GameD) : (∀ i,i < 18 → okAt g i = true) ↔ (okAt g 0 = true ∧ okAt g 1 = true ∧ okAt g 2 = true ∧ okAt g 3 = true ∧ okAt g 4 = true ∧ okAt g 5 = true ∧ okAt g 6 = true ∧ okAt g 7 = true ∧ okAt g 8 = true ∧ okAt g 9 = true ∧ okAt g 10 = true ∧ okAt g 11 = true ∧ okAt g 12 = true ∧ okAt g 13 = true ∧ okAt g 14 = true ∧ okAt g 15 = true ∧ okAt g 16 = true ∧ okAt g 17 = true) := by
 constructor
 ·intro h
  exact ⟨h 0 (by omega),h 1 (by omega),h 2 (by omega),h 3 (by omega),h 4 (by omega),h 5 (by omega),h 6 (by omega),h 7 (by omega),h 8 (by omega),h 9 (by omega),h 10 (by omega),h 11 (by omega),h 12 (by omega),h 13 (by omega),h 14 (by omega),h 15 (by omega),h 16 (by omega),h 17 (by omega)⟩
 ·rintro ⟨h0,h1,h2,h3,h4,h5,h6,h7,h8,h9,h10,h11,h12,h13,h14,h15,h16,h17⟩ i hi
  have : i = 0 ∨ i = 1 ∨ i = 2 ∨ i = 3 ∨ i = 4 ∨ i = 5 ∨ i = 6 ∨ i = 7 ∨ i = 8 ∨ i = 9 ∨ i = 10 ∨ i = 11 ∨ i = 12 ∨ i = 13 ∨ i = 14 ∨ i = 15 ∨ i = 16 ∨ i = 17 := by omega
  rcases this with rfl | rfl | rfl | rfl | rfl | rfl | rfl | rfl | rfl | rfl | rfl | rfl | rfl | rfl | rfl | rfl | rfl | rfl <;> assumption
theorem least_le (a b x : Int) : x ≤ leastI a b ↔ x ≤ a ∧ x ≤ b := by
 unfold leastI
 split <;> omega
theorem nums_ok {g : GameD} (hk : g.kind = 1 ∨ g.kind = 2) : (∀ i,i < 18 → okAt g i = true) ↔ (matB g = true ∧ termB g = true) := by
 rw [ok_all]
 obtain ⟨gname,gkind,gprice,gmain,gof,gbonus,gbonusOf,gextra,gdraws,gsystem,gdays,gat,gclose,gcancel,gexpiry,gpool,greserve,ground,gcap,grolls,ga,gt⟩ := g
 unfold okAt matB termB numsL lowL highL
 simp only [List.getD_cons_zero,List.getD_cons_succ,Bool.and_eq_true,inB_iff,decide_eq_true_iff] at hk ⊢
 have hw : gmain ≤ 10 → 1 ≤ gmain → gof ≤ 80 → gmain ≤ gof → wrap64 (gof - gmain) = gof - gmain := fun h1 h2 h3 h4 => IntWalk.wrap64_in _ (by omega)
 have hk2 : gkind = 2 ∨ ¬ gkind = 2 := by omega
 by_cases hb : gbonus = 0
 ·rcases hk2 with h2 | h2
  ·simp only [h2,hb,if_true,inB_iff]
   omega
  ·simp only [h2,hb,if_true,if_false,inB_iff,least_le,Bool.and_eq_true,decide_eq_true_iff]
   constructor
   ·rintro ⟨h0,h1,h2,h3,h4,h5,h6,h7,h⟩
    rw [hw (by omega) (by omega) (by omega) (by omega)] at h5
    omega
   ·rintro ⟨⟨⟨⟨⟨⟨⟨⟨h0,h1⟩,h2⟩,h3⟩,h4⟩,h5⟩,h6⟩,h7⟩,h⟩
    rw [hw (by omega) (by omega) (by omega) (by omega)]
    omega
 ·rcases hk2 with h2 | h2
  ·simp only [h2,hb,if_true,if_false,inB_iff]
   omega
  ·simp only [h2,hb,if_true,if_false,inB_iff,least_le,Bool.and_eq_true,decide_eq_true_iff]
   constructor
   ·rintro ⟨h0,h1,h2,h3,h4,h5,h6,h7,h⟩
    rw [hw (by omega) (by omega) (by omega) (by omega)] at h5
    omega
   ·rintro ⟨⟨⟨⟨⟨⟨⟨⟨h0,h1⟩,h2⟩,h3⟩,h4⟩,h5⟩,h6⟩,h7⟩,h⟩
    rw [hw (by omega) (by omega) (by omega) (by omega)]
    omega
end Go.Proofs.Ytldikghldcefcaa
end
section
open Go.RowKit
set_option linter.unusedVariables false
set_option linter.unusedSimpArgs false
namespace Go.Proofs.Ytldikghldcefcaa
set_option maxHeartbeats 4000000 in
set_option maxRecDepth 100000 in
theorem rtier_choose (g : GameD) (t : TierD) (av tv : Value) (w : World) (hk : g.kind = 1) (b1 : g.main ≤ 10) (b2 : g.bonus ≤ 4) (b3 : g.extra ≤ 4) :
  Calls Try.prog 80 #[gameVal g av tv,tierVal t] w (IntB (tierE g t) w) := by
 rw [tierE_choose (by omega)]
 obtain ⟨r,hr⟩ : ∃ r,r = (if chooseTE g t ≠ 0 then chooseTE g t else if inB t.kind 1 3 = false then 7 else if inB t.value 0 1000000000 = false then 2 else 0) := ⟨_,rfl⟩
 rw [← hr]
 unfold chooseTE at hr
 obtain ⟨gname,gkind,gprice,gmain,gof,gbonus,gbonusOf,gextra,gdraws,gsystem,gdays,gat,gclose,gcancel,gexpiry,gpool,greserve,ground,gcap,grolls,ga,gt⟩ := g
 obtain ⟨tmain,tbonus,textra,tmode,tkind,tvalue⟩ := t
 (try simp only [] at hk hr b1 b2 b3)
 unfold gameVal tierVal
 (try simp only [])
 subst hk
 by_cases hm : inB tmain 0 gmain = true
 ·by_cases hb : inB tbonus 0 gbonus = true
  ·by_cases he : inB textra 0 gextra = true
   ·have m1 := (inB_iff.1 hm).1
    have m2 := (inB_iff.1 hm).2
    have n1 := (inB_iff.1 hb).1
    have n2 := (inB_iff.1 hb).2
    have x1 := (inB_iff.1 he).1
    have x2 := (inB_iff.1 he).2
    replace hr := hide hr
    go_enter Try.func80,Try.ntmps80
    go_wp2_with (first | (go_at_call 53;refine (rin_any _ _ _ _).mono ?_;rintro e w' ⟨rfl,rfl⟩) | fail)
    all_goals
     go_ret
     refine ⟨ret_int ?_,Bel.al (Bel.al (Below.refl _ _) _) _⟩
     rw [hr.out]
     (simp_all <;> omega)
   ·replace he : inB textra 0 gextra = false := by simpa using he
    replace hr := hide hr
    go_enter Try.func80,Try.ntmps80
    go_wp2_with (first | (go_at_call 53;refine (rin_any _ _ _ _).mono ?_;rintro e w' ⟨rfl,rfl⟩) | fail)
    all_goals
     go_ret
     refine ⟨ret_int ?_,Bel.al (Bel.al (Below.refl _ _) _) _⟩
     rw [hr.out]
     (simp_all <;> omega)
  ·replace hb : inB tbonus 0 gbonus = false := by simpa using hb
   replace hr := hide hr
   go_enter Try.func80,Try.ntmps80
   go_wp2_with (first | (go_at_call 53;refine (rin_any _ _ _ _).mono ?_;rintro e w' ⟨rfl,rfl⟩) | fail)
   all_goals
    go_ret
    refine ⟨ret_int ?_,Bel.al (Bel.al (Below.refl _ _) _) _⟩
    rw [hr.out]
    (simp_all <;> omega)
 ·replace hm : inB tmain 0 gmain = false := by simpa using hm
  replace hr := hide hr
  go_enter Try.func80,Try.ntmps80
  go_wp2_with (first | (go_at_call 53;refine (rin_any _ _ _ _).mono ?_;rintro e w' ⟨rfl,rfl⟩) | fail)
  all_goals
   go_ret
   refine ⟨ret_int ?_,Bel.al (Bel.al (Below.refl _ _) _) _⟩
   rw [hr.out]
   (simp_all <;> omega)
theorem inB_zero (x : Int) : inB x 0 0 = decide (x = 0) := by
 unfold inB
 rw [decide_eq_decide]
 omega
theorem mode_in {m : Int} (h : inB m 1 4 = true) : m = 1 ∨ m = 2 ∨ m = 3 ∨ m = 4 := by
 have := inB_iff.1 h
 omega
set_option maxHeartbeats 4000000 in
set_option maxRecDepth 100000 in
theorem rtier_digits (g : GameD) (t : TierD) (av tv : Value) (w : World) (hk : g.kind = 2) :
  Calls Try.prog 80 #[gameVal g av tv,tierVal t] w (IntB (tierE g t) w) := by
 rw [tierE_digits hk]
 obtain ⟨r,hr⟩ : ∃ r,r = (if digitsTE g t ≠ 0 then digitsTE g t else if inB t.kind 1 3 = false then 7 else if inB t.value 0 1000000000 = false then 2 else 0) := ⟨_,rfl⟩
 rw [← hr]
 unfold digitsTE at hr
 obtain ⟨gname,gkind,gprice,gmain,gof,gbonus,gbonusOf,gextra,gdraws,gsystem,gdays,gat,gclose,gcancel,gexpiry,gpool,greserve,ground,gcap,grolls,ga,gt⟩ := g
 obtain ⟨tmain,tbonus,textra,tmode,tkind,tvalue⟩ := t
 (try simp only [] at hk hr)
 unfold gameVal tierVal
 (try simp only [])
 subst hk
 by_cases hm : inB tmode 1 4 = true
 ·rcases mode_in hm with rfl | rfl | rfl | rfl
  ·simp only [show inB 1 1 4 = true from rfl,show ((1 : Int) ≤ 2) = True by simp,if_true,inB_zero] at hr
   replace hr := hide hr
   go_enter Try.func80,Try.ntmps80
   go_wp2_with (first | (go_at_call 53;refine (rin_any _ _ _ _).mono ?_;rintro e w' ⟨rfl,rfl⟩) | fail)
   all_goals
    go_ret
    refine ⟨ret_int ?_,Bel.al (Bel.al (Below.refl _ _) _) _⟩
    rw [hr.out]
    (simp_all <;> omega)
  ·simp only [show inB 2 1 4 = true from rfl,show ((2 : Int) ≤ 2) = True by simp,if_true,inB_zero] at hr
   replace hr := hide hr
   go_enter Try.func80,Try.ntmps80
   go_wp2_with (first | (go_at_call 53;refine (rin_any _ _ _ _).mono ?_;rintro e w' ⟨rfl,rfl⟩) | fail)
   all_goals
    go_ret
    refine ⟨ret_int ?_,Bel.al (Bel.al (Below.refl _ _) _) _⟩
    rw [hr.out]
    (simp_all <;> omega)
  ·simp only [show inB 3 1 4 = true from rfl,show ((3 : Int) ≤ 2) = False by simp,if_false] at hr
   replace hr := hide hr
   go_enter Try.func80,Try.ntmps80
   go_wp2_with (first | (go_at_call 53;refine (rin_any _ _ _ _).mono ?_;rintro e w' ⟨rfl,rfl⟩) | fail)
   all_goals
    go_ret
    refine ⟨ret_int ?_,Bel.al (Bel.al (Below.refl _ _) _) _⟩
    rw [hr.out]
    (simp_all <;> omega)
  ·simp only [show inB 4 1 4 = true from rfl,show ((4 : Int) ≤ 2) = False by simp,if_false] at hr
   replace hr := hide hr
   go_enter Try.func80,Try.ntmps80
   go_wp2_with (first | (go_at_call 53;refine (rin_any _ _ _ _).mono ?_;rintro e w' ⟨rfl,rfl⟩) | fail)
   all_goals
    go_ret
    refine ⟨ret_int ?_,Bel.al (Bel.al (Below.refl _ _) _) _⟩
    rw [hr.out]
    (simp_all <;> omega)
 ·replace hm : inB tmode 1 4 = false := by simpa using hm
  replace hr := hide hr
  go_enter Try.func80,Try.ntmps80
  go_wp2_with (first | (go_at_call 53;refine (rin_any _ _ _ _).mono ?_;rintro e w' ⟨rfl,rfl⟩) | fail)
  all_goals
   go_ret
   refine ⟨ret_int ?_,Bel.al (Bel.al (Below.refl _ _) _) _⟩
   rw [hr.out]
   (simp_all <;> omega)
def modeR (g : GameD) (t : TierD) : Int := if 2 < t.mode ∧ t.main = g.main then 1 else t.mode
set_option maxHeartbeats 1000000 in
theorem rmode_any (g : GameD) (t : TierD) (av tv : Value) (w : World) :
  Calls Try.prog 102 #[gameVal g av tv,tierVal t] w (IntB (modeR g t) w) := by
 obtain ⟨r,hr⟩ : ∃ r,r = modeR g t := ⟨_,rfl⟩
 rw [← hr]
 unfold modeR at hr
 obtain ⟨gname,gkind,gprice,gmain,gof,gbonus,gbonusOf,gextra,gdraws,gsystem,gdays,gat,gclose,gcancel,gexpiry,gpool,greserve,ground,gcap,grolls,ga,gt⟩ := g
 obtain ⟨tmain,tbonus,textra,tmode,tkind,tvalue⟩ := t
 (try simp only [] at hr)
 unfold gameVal tierVal
 (try simp only [])
 replace hr := hide hr
 go_enter Try.func102,Try.ntmps102
 go_wp2
 all_goals
  go_ret
  refine ⟨ret_int ?_,Bel.al (Bel.al (Below.refl _ _) _) _⟩
  rw [hr.out]
  first | (simp_all;done) | (simp_all;omega) | (rw [if_neg (by omega)];done) | (rw [if_pos (by omega)];done)
def coversR (g : GameD) (a b : TierD) : Bool :=
 if g.kind = 1 then decide (a.main ≤ b.main ∧ a.bonus ≤ b.bonus ∧ a.extra ≤ b.extra)
 else if modeR g b = 1 then true
 else decide (modeR g a = modeR g b ∧ (modeR g a = 2 ∨ a.main ≤ b.main))
theorem tier_valid {g : GameD} {t : TierD} (hk : g.kind = 2) (h : tierE g t = 0) : (t.mode = 1 ∧ t.main = 0) ∨ (t.mode = 2 ∧ t.main = 0) ∨ ((t.mode = 3 ∨ t.mode = 4) ∧ 1 ≤ t.main ∧ t.main ≤ g.main) := by
 rw [tierE_digits hk] at h
 have hd : digitsTE g t = 0 := by
  by_cases hd : digitsTE g t = 0
  ·exact hd
  ·rw [if_pos hd] at h;exact h
 unfold digitsTE at hd
 by_cases hm : inB t.mode 1 4 = true
 ·rw [if_neg (by rw [hm];simp)] at hd
  by_cases hc : t.bonus ≠ 0 ∨ t.extra ≠ 0 ∨ (if t.mode ≤ 2 then inB t.main 0 0 else inB t.main 1 g.main) = false
  ·rw [if_pos hc] at hd;omega
  ·simp only [not_or] at hc
   obtain ⟨-,-,hc⟩ := hc
   rcases mode_in hm with h | h | h | h
   ·rw [if_pos (by omega),inB_zero] at hc;left;exact ⟨h,by simpa using hc⟩
   ·rw [if_pos (by omega),inB_zero] at hc;right;left;exact ⟨h,by simpa using hc⟩
   ·rw [if_neg (by omega)] at hc
    have := inB_iff.1 (show inB t.main 1 g.main = true by simpa using hc)
    right;right;exact ⟨.inl h,this⟩
   ·rw [if_neg (by omega)] at hc
    have := inB_iff.1 (show inB t.main 1 g.main = true by simpa using hc)
    right;right;exact ⟨.inr h,this⟩
 ·rw [if_pos (by simpa using hm)] at hd;omega
theorem modeR_eq {g : GameD} {t : TierD} (hk : g.kind = 2) (h : tierE g t = 0) : modeR g t = modeV g t := by
 unfold modeR modeV
 rcases tier_valid hk h with ⟨h1,h2⟩ | ⟨h1,h2⟩ | ⟨h1,h2,h3⟩
 ·rw [if_neg (by omega),if_neg (by omega)]
 ·rw [if_neg (by omega),if_neg (by omega)]
 ·by_cases hm : t.main = g.main
  ·rw [if_pos (by omega),if_pos (by omega)]
  ·rw [if_neg (by omega),if_neg (by omega)]
theorem coversR_eq {g : GameD} {a b : TierD} (hk : g.kind = 1 ∨ g.kind = 2) (ha : tierE g a = 0) (hb : tierE g b = 0) : coversR g a b = coversB g a b := by
 unfold coversR coversB
 rcases hk with hk | hk
 ·rw [if_pos hk,if_pos hk]
 ·have hk1 : ¬ g.kind = 1 := by omega
  rw [if_neg hk1,if_neg hk1,modeR_eq hk ha,modeR_eq hk hb]
  by_cases h1 : modeV g b = 1
  ·rw [if_pos h1,if_pos h1]
  ·rw [if_neg h1,if_neg h1,decide_eq_decide]
   constructor
   ·rintro ⟨h2,h3 | h3⟩
    ·refine ⟨h2,?_⟩
     have za : a.main = 0 := by
      unfold modeV at h3
      rcases tier_valid hk ha with ⟨h4,h5⟩ | ⟨h4,h5⟩ | ⟨h4,h5,h6⟩
      ·exact h5
      ·exact h5
      ·split at h3 <;> omega
     have zb : b.main = 0 := by
      rw [h2] at h3
      unfold modeV at h3
      rcases tier_valid hk hb with ⟨h4,h5⟩ | ⟨h4,h5⟩ | ⟨h4,h5,h6⟩
      ·exact h5
      ·exact h5
      ·split at h3 <;> omega
     omega
    ·exact ⟨h2,h3⟩
   ·rintro ⟨h2,h3⟩
    exact ⟨h2,.inr h3⟩
theorem rcovers_choose (g : GameD) (a t : TierD) (av tv : Value) (w : World) (hk : g.kind = 1) :
  Calls Try.prog 81 #[gameVal g av tv,tierVal a,tierVal t] w (BoolB (coversR g a t) w) := by
 obtain ⟨r,hr⟩ : ∃ r,r = coversR g a t := ⟨_,rfl⟩
 rw [← hr]
 unfold coversR at hr
 rw [if_pos hk] at hr
 obtain ⟨gname,gkind,gprice,gmain,gof,gbonus,gbonusOf,gextra,gdraws,gsystem,gdays,gat,gclose,gcancel,gexpiry,gpool,greserve,ground,gcap,grolls,ga,gt⟩ := g
 obtain ⟨amain,abonus,aextra,amode,akind,avalue⟩ := a
 obtain ⟨tmain,tbonus,textra,tmode,tkind,tvalue⟩ := t
 (try simp only [] at hk hr)
 unfold gameVal tierVal
 (try simp only [])
 replace hr := hide hr
 subst hk
 go_enter Try.func81,Try.ntmps81
 go_wp2
 all_goals
  go_ret
  refine ⟨?_,Bel.al (Bel.al (Bel.al (Below.refl _ _) _) _) _⟩
  rw [hr.out]
  first | (simp_all;done) | (congr 2;simp_all;omega) | (rw [decide_eq_false (by omega)];done) | (rw [decide_eq_true (by omega)];done)
set_option maxHeartbeats 2000000 in
set_option maxRecDepth 100000 in
theorem rcovers_digits (g : GameD) (a t : TierD) (av tv : Value) (w : World) (hk : g.kind ≠ 1) :
  Calls Try.prog 81 #[gameVal g av tv,tierVal a,tierVal t] w (BoolB (coversR g a t) w) := by
 obtain ⟨r,hr⟩ : ∃ r,r = coversR g a t := ⟨_,rfl⟩
 rw [← hr]
 unfold coversR at hr
 rw [if_neg hk] at hr
 have ca := hide (fun X => rmode_any g a av tv X)
 have ct := hide (fun X => rmode_any g t av tv X)
 obtain ⟨ma,hma⟩ : ∃ m,m = modeR g a := ⟨_,rfl⟩
 obtain ⟨mt,hmt⟩ : ∃ m,m = modeR g t := ⟨_,rfl⟩
 rw [← hma] at hr ca
 rw [← hmt] at hr ct
 clear hma hmt
 obtain ⟨gname,gkind,gprice,gmain,gof,gbonus,gbonusOf,gextra,gdraws,gsystem,gdays,gat,gclose,gcancel,gexpiry,gpool,greserve,ground,gcap,grolls,ga,gt⟩ := g
 obtain ⟨amain,abonus,aextra,amode,akind,avalue⟩ := a
 obtain ⟨tmain,tbonus,textra,tmode,tkind,tvalue⟩ := t
 (try simp only [] at hk hr)
 unfold gameVal tierVal at ca ct ⊢
 (try simp only [] at ca ct ⊢)
 replace hr := hide hr
 have hkb : (gkind == 1) = false := by simpa using hk
 replace hk := hide hk
 go_enter Try.func81,Try.ntmps81
 go_upto_region 1 with (fail)
 obtain ⟨W,hW⟩ : ∃ W,W = (((w.alloc (Obj.cells #[.string gname,.int .i64 gkind,.int .i64 gprice,.int .i64 gmain,.int .i64 gof,.int .i64 gbonus,.int .i64 gbonusOf,.int .i64 gextra,.int .i64 gdraws,.int .i64 gsystem,.int .i64 gdays,.int .i64 gat,.int .i64 gclose,.int .i64 gcancel,.int .i64 gexpiry,.int .i64 gpool,.int .i64 greserve,.int .i64 ground,.int .i64 gcap,.int .i64 grolls,av,tv] 25)).alloc (Obj.cells #[.int .i64 amain,.int .i64 abonus,.int .i64 aextra,.int .i64 amode,.int .i64 akind,.int .i64 avalue] 48)).alloc (Obj.cells #[.int .i64 tmain,.int .i64 tbonus,.int .i64 textra,.int .i64 tmode,.int .i64 tkind,.int .i64 tvalue] 48)) := ⟨_,rfl⟩
 have bW : Below w.heap.size w W := by rw [hW];exact Bel.al (Bel.al (Bel.al (Below.refl _ _) _) _) _
 have r0 : Row W (w.heap.size) 25 [.string gname,.int .i64 gkind,.int .i64 gprice,.int .i64 gmain,.int .i64 gof,.int .i64 gbonus,.int .i64 gbonusOf,.int .i64 gextra,.int .i64 gdraws,.int .i64 gsystem,.int .i64 gdays,.int .i64 gat,.int .i64 gclose,.int .i64 gcancel,.int .i64 gexpiry,.int .i64 gpool,.int .i64 greserve,.int .i64 ground,.int .i64 gcap,.int .i64 grolls,av,tv] := by rw [hW];exact Row.alloc (Row.alloc (Row.new _ _ _) _) _
 have c0_1 : W.cell? ⟨w.heap.size,1,none⟩ = some (.int .i64 gkind) := Row.cell r0 (i := 1) (by simp)
 have r1 : Row W (w.heap.size + 1) 48 [.int .i64 amain,.int .i64 abonus,.int .i64 aextra,.int .i64 amode,.int .i64 akind,.int .i64 avalue] := by rw [hW];exact Row.alloc (Row.at2 _ _ _ _) _
 have c1_0 : W.cell? ⟨w.heap.size + 1,0,none⟩ = some (.int .i64 amain) := Row.cell r1 (i := 0) (by simp)
 have r2 : Row W (w.heap.size + 1 + 1) 48 [.int .i64 tmain,.int .i64 tbonus,.int .i64 textra,.int .i64 tmode,.int .i64 tkind,.int .i64 tvalue] := by rw [hW];exact Row.at3 _ _ _ _ _
 have c2_0 : W.cell? ⟨w.heap.size + 1 + 1,0,none⟩ = some (.int .i64 tmain) := Row.cell r2 (i := 0) (by simp)
 have sW : w.heap.size + 1 + 1 < W.heap.size := by rw [hW];simp
 rw [← hW]
 clear hW
 go_wp2_with (first | (refine wpList_load_row rfl 25 _ rfl _ rfl _ _ _ _ r0 Try.underlying25 rfl (by kernel_rfl) ?_) | (refine wpList_load_row rfl 48 _ rfl _ rfl _ _ _ _ r1 Try.underlying48 rfl (by kernel_rfl) ?_) | fail)
 refine (ca.out _).mono ?_
 rintro e w1 ⟨rfl,hb1⟩
 have q0 := Row.keep r0 hb1
 have q2 := Row.keep r2 hb1
 have d1 := Bel.cellOf hb1 c1_0
 have d2 := Bel.cellOf hb1 c2_0
 have B1 := Bel.to bW hb1
 clear r0 r1 r2 c0_1 c1_0 c2_0 hb1 ca
 go_wp2_with (first | (refine wpList_load_row rfl 25 _ rfl _ rfl _ _ _ _ q0 Try.underlying25 rfl (by kernel_rfl) ?_) | (refine wpList_load_row rfl 48 _ rfl _ rfl _ _ _ _ q2 Try.underlying48 rfl (by kernel_rfl) ?_) | fail)
 refine (ct.out _).mono ?_
 rintro e w2 ⟨rfl,hb2⟩
 have e1 := Bel.cellOf hb2 d1
 have e2 := Bel.cellOf hb2 d2
 have B2 := Bel.to B1 hb2
 clear q0 q2 d1 d2 hb2 ct
 go_wp2
 all_goals
  go_ret
  refine ⟨?_,B2⟩
  rw [hr.out]
  first | (simp_all;done) | (congr 2;simp_all;omega) | (rw [decide_eq_false (by omega)];done) | (rw [decide_eq_true (by omega)];done)
theorem rcovers_any (g : GameD) (a t : TierD) (av tv : Value) (w : World) :
  Calls Try.prog 81 #[gameVal g av tv,tierVal a,tierVal t] w (BoolB (coversR g a t) w) := by
 by_cases h : g.kind = 1
 ·exact rcovers_choose g a t av tv w h
 ·exact rcovers_digits g a t av tv w h
theorem Below.drewL {w w' : World} (h : Below w.drew.heap.size w.drew w') : Below w.heap.size w w' := Bel.to (Below.drew (Below.refl _ _)) h
theorem rtier_any (g : GameD) (t : TierD) (av tv : Value) (w : World) (hk : g.kind = 1 ∨ g.kind = 2) (b1 : g.main ≤ 10) (b2 : g.bonus ≤ 4) (b3 : g.extra ≤ 4) :
  Calls Try.prog 80 #[gameVal g av tv,tierVal t] w (IntB (tierE g t) w) := by
 rcases hk with h | h
 ·exact rtier_choose g t av tv w h b1 b2 b3
 ·exact rtier_digits g t av tv w h
set_option maxHeartbeats 4000000 in
set_option maxRecDepth 100000 in
theorem rtiers_any (g : GameD) (av tv : Value) (w : World) (h : RdS 6 tierCells w tv g.tiers) (hav : ∃ ao n cap,av = .slice ao n cap) (hk : g.kind = 1 ∨ g.kind = 2) (b1 : g.main ≤ 10) (b2 : g.bonus ≤ 4) (b3 : g.extra ≤ 4) :
  Calls Try.prog 58 #[gameVal g av tv] w (IntB (tiersE g) w) := by
 obtain ⟨ta,tc,rfl,hle,hmax⟩ := h.shape
 obtain ⟨aa,an,ac,rfl⟩ := hav
 obtain ⟨G,hG⟩ : ∃ G,G = g := ⟨_,rfl⟩
 have hkG : G.kind = 1 ∨ G.kind = 2 := by rw [hG];exact hk
 have hrt := hide (fun t tv X => rtier_any g t (.slice aa an ac) tv X hk b1 b2 b3)
 clear hk b1 b2 b3
 replace hkG := hide hkG
 unfold tiersE
 by_cases hn : inB g.tiers.length 1 12 = true
 ·rw [if_neg (by rw [hn];simp)]
  have hlen : g.tiers.length ≤ 12 := by have := (inB_iff.1 hn).2;omega
  have hn' := hn
  clear hn
  obtain ⟨r,hr0⟩ : ∃ r,r = tiersGo g [] g.tiers := ⟨_,rfl⟩
  rw [← hr0]
  rw [← hG] at hr0
  rw [← hG] at hrt
  obtain ⟨gname,gkind,gprice,gmain,gof,gbonus,gbonusOf,gextra,gdraws,gsystem,gdays,gat,gclose,gcancel,gexpiry,gpool,greserve,ground,gcap,grolls,ga,gt⟩ := g
  simp only [] at h hle hn' hlen
  unfold gameVal
  (try simp only [])
  replace hG := hide hG
  replace hr0 := hide hr0
  have hh := hide h
  clear h
  go_enter Try.func58,Try.ntmps58
  go_upto_region 1 with (fail)
  obtain ⟨W,hW⟩ : ∃ W,W = (w.alloc (Obj.cells #[.string gname,.int .i64 gkind,.int .i64 gprice,.int .i64 gmain,.int .i64 gof,.int .i64 gbonus,.int .i64 gbonusOf,.int .i64 gextra,.int .i64 gdraws,.int .i64 gsystem,.int .i64 gdays,.int .i64 gat,.int .i64 gclose,.int .i64 gcancel,.int .i64 gexpiry,.int .i64 gpool,.int .i64 greserve,.int .i64 ground,.int .i64 gcap,.int .i64 grolls,(.slice aa an ac),(.slice ta gt.length tc)] 25)) := ⟨_,rfl⟩
  have bW : Below w.heap.size w W := by rw [hW];exact Bel.al (Below.refl _ _) _
  have r0 : Row W (w.heap.size) 25 [.string gname,.int .i64 gkind,.int .i64 gprice,.int .i64 gmain,.int .i64 gof,.int .i64 gbonus,.int .i64 gbonusOf,.int .i64 gextra,.int .i64 gdraws,.int .i64 gsystem,.int .i64 gdays,.int .i64 gat,.int .i64 gclose,.int .i64 gcancel,.int .i64 gexpiry,.int .i64 gpool,.int .i64 greserve,.int .i64 ground,.int .i64 gcap,.int .i64 grolls,(.slice aa an ac),(.slice ta gt.length tc)] := by rw [hW];exact Row.new _ _ _
  have c0_21 : W.cell? ⟨w.heap.size,21,none⟩ = some ((.slice ta gt.length tc)) := Row.cell r0 (i := 21) (by simp)
  have sW : w.heap.size < W.heap.size := by rw [hW];simp
  rw [← hW]
  clear hW
  go_wp2_with fail
  refine (rin_any _ _ _ _).mono ?_
  rintro e w' ⟨rfl,rfl⟩
  rw [hn']
  go_wp2
  have hstart : tiersGo G (gt.take 0) (gt.drop 0) = r := by rw [hr0.out,hG.out];rfl
  clear hn'
  have hlen2 : gt.length ≤ 9223372036854775807 := by omega
  go_loopg [3] gt.length (fun g t wr => ∃ i : Nat,g = gt.length - i ∧ i ≤ gt.length ∧ t = .int .i64 i ∧ Below W.heap.size W wr ∧ tiersGo G (gt.take i) (gt.drop i) = r ∧ ∀ j x,j < i → gt[j]? = some x → tierE G x = 0)
  case atStart => exact ⟨0,rfl,Nat.zero_le _,rfl,Below.refl _ _,hstart,fun j x hj => absurd hj (Nat.not_lt_zero _)⟩
  case round =>
   clear hstart
   obtain ⟨i,hg,hi,rfl,hbel,hgo,hval⟩ := hrel
   replace hg := hide hg
   replace hgo := hide hgo
   replace hval := hide hval
   by_cases hlt : i < gt.length
   ·have hlt2 := hide hlt
    have i1 : (0 : Int) ≤ (i : Int) := by omega
    have i2 : (i : Int) < (gt.length : Int) := by omega
    obtain ⟨t,ht⟩ : ∃ t,gt[i]? = some t := ⟨_,List.getElem?_eq_getElem hlt⟩
    have hT := hh.out.below (Bel.to bW hbel)
    obtain ⟨b,off,rfl,hbb,hcell⟩ := hT.at_ hlt
    have hrange : wr.rangeAt b (off + i * 6) (tierCells t) := fun j u hu => hcell i t ht j u hu
    clear hcell hT
    have hstep := tiersGo_step (g := G) ht
    rw [hgo.out] at hstep
    replace hstep := hide hstep
    have ht' := hide ht
    clear ht
    have q0 := Row.keep r0 hbel
    have g0 : wr.rangeAt w.heap.size 0 [.string gname,.int .i64 gkind,.int .i64 gprice,.int .i64 gmain,.int .i64 gof,.int .i64 gbonus,.int .i64 gbonusOf,.int .i64 gextra,.int .i64 gdraws,.int .i64 gsystem,.int .i64 gdays,.int .i64 gat,.int .i64 gclose,.int .i64 gcancel,.int .i64 gexpiry,.int .i64 gpool,.int .i64 greserve,.int .i64 ground,.int .i64 gcap,.int .i64 grolls,(.slice aa an ac),(.slice (some ⟨b,off,none⟩) gt.length tc)] := fun j v hv => by rw [Nat.zero_add];exact (q0.cell? j).trans hv
    have d21 := Bel.cellOf hbel c0_21
    have c1 := hide (fun X => hrt.out t (.slice (some ⟨b,off,none⟩) gt.length tc) X)
    have hcov := hide (fun e X => rcovers_any G e t (.slice aa an ac) (.slice (some ⟨b,off,none⟩) gt.length tc) X)
    obtain ⟨c,hc⟩ : ∃ c,c = tierE G t := ⟨_,rfl⟩
    obtain ⟨Cv,hCv⟩ : ∃ Cv : TierD → Bool,Cv = fun e => coversB G e t := ⟨_,rfl⟩
    have hstep2 : r = if c ≠ 0 then c else if (gt.take i).any Cv then 6 else tiersGo G (gt.take (i + 1)) (gt.drop (i + 1)) := by rw [hstep.out,hc,hCv]
    have hcv : c = 0 → ∀ e,tierE G e = 0 → ∀ X,Calls Try.prog 81 #[gameVal G (.slice aa an ac) (.slice (some ⟨b,off,none⟩) gt.length tc),tierVal e,tierVal t] X (BoolB (Cv e) X) := by
     intro h0 e he X
     rw [hCv]
     (try simp only [])
     rw [← coversR_eq hkG.out he (by rw [← hc];exact h0)]
     exact hcov.out e X
    have hct : ∀ X,Calls Try.prog 80 #[gameVal G (.slice aa an ac) (.slice (some ⟨b,off,none⟩) gt.length tc),tierVal t] X (IntB c X) := by rw [hc];exact c1.out
    have hvn : c = 0 → ∀ j x,j < i + 1 → gt[j]? = some x → tierE G x = 0 := by
     intro h0 j x hj hx
     rcases Nat.lt_succ_iff_lt_or_eq.1 hj with h' | rfl
     ·exact hval.out j x h' hx
     ·rw [ht'.out] at hx;injection hx with hx;rw [← hx,← hc];exact h0
    clear hstep hcov c1 hc hCv q0
    replace hvn := hide hvn
    rw [hG.out] at hct
    have hcv2 := hcv
    rw [hG.out] at hcv2
    clear hcv
    replace hstep2 := hide hstep2
    replace hcv2 := hide hcv2
    replace hct := hide hct
    obtain ⟨tmain,tbonus,textra,tmode,tkind,tvalue⟩ := t
    unfold tierCells at hrange
    (try simp only [] at hrange)
    go_wp2_with fail
    refine wp_region_held_drew (S := fun X => World.rangeAt X w.heap.size 0 [.string gname,.int .i64 gkind,.int .i64 gprice,.int .i64 gmain,.int .i64 gof,.int .i64 gbonus,.int .i64 gbonusOf,.int .i64 gextra,.int .i64 gdraws,.int .i64 gsystem,.int .i64 gdays,.int .i64 gat,.int .i64 gclose,.int .i64 gcancel,.int .i64 gexpiry,.int .i64 gpool,.int .i64 greserve,.int .i64 ground,.int .i64 gcap,.int .i64 grolls,(.slice aa an ac),(.slice (some ⟨b,off,none⟩) gt.length tc)] ∧ World.rangeAt X b (off + i * 6) [.int .i64 tmain,.int .i64 tbonus,.int .i64 textra,.int .i64 tmode,.int .i64 tkind,.int .i64 tvalue] ∧ X.cell? ⟨w.heap.size,21,none⟩ = some (.slice (some ⟨b,off,none⟩) gt.length tc)) (by kernel_rfl) ⟨g0,hrange,d21⟩ (fun hHeld => ?_)
    refine' wpAnyH_take (i := 0) (oi := _) (v := _) rfl (by kernel_rfl) (by kernel_rfl) (by kernel_rfl) (fun _ _ _ h => h) (yieldsIf_load_mid (by rfl) 25 _ rfl (w.heap.size) (0) rfl [.string gname,.int .i64 gkind,.int .i64 gprice,.int .i64 gmain,.int .i64 gof,.int .i64 gbonus,.int .i64 gbonusOf,.int .i64 gextra,.int .i64 gdraws,.int .i64 gsystem,.int .i64 gdays,.int .i64 gat,.int .i64 gclose,.int .i64 gcancel,.int .i64 gexpiry,.int .i64 gpool,.int .i64 greserve,.int .i64 ground,.int .i64 gcap,.int .i64 grolls,(.slice aa an ac),(.slice (some ⟨b,off,none⟩) gt.length tc)] _ (fun X h => h.1) Try.underlying25 rfl (by kernel_rfl)) hHeld ?_
    try simp only [Act.put,zsA,zsB,zsC,List.getElem_toArray,List.getElem_cons_zero,List.getElem_cons_succ]
    refine' wpAnyH_take (i := 1) (oi := _) (v := .pointer (some ⟨w.heap.size,21,none⟩)) rfl (by kernel_rfl) (by kernel_rfl) (by kernel_rfl) (fun _ _ _ h => h) (Or.inl ⟨by rfl,fun X hX => by go_simp⟩) hHeld ?_
    try simp only [Act.put,zsA,zsB,zsC,List.getElem_toArray,List.getElem_cons_zero,List.getElem_cons_succ]
    refine' wpAnyH_take (i := 2) (oi := _) (v := (.slice (some ⟨b,off,none⟩) gt.length tc)) rfl (by kernel_rfl) (by kernel_rfl) (by kernel_rfl) (fun _ _ _ h => h) (Or.inl ⟨by rfl,fun X hX => by (have hX3 := hX.2.2;go_simp)⟩) hHeld ?_
    try simp only [Act.put,zsA,zsB,zsC,List.getElem_toArray,List.getElem_cons_zero,List.getElem_cons_succ]
    refine' wpAnyH_take (i := 3) (oi := _) (v := .int .i64 i) rfl (by kernel_rfl) (by kernel_rfl) (by kernel_rfl) (fun _ _ _ h => h) (Or.inl ⟨by rfl,fun X hX => by go_simp⟩) hHeld ?_
    try simp only [Act.put,zsA,zsB,zsC,List.getElem_toArray,List.getElem_cons_zero,List.getElem_cons_succ]
    refine' wpAnyH_take (i := 4) (oi := _) (v := .pointer (some ⟨b,off + i * 6,none⟩)) rfl (by kernel_rfl) (by kernel_rfl) (by kernel_rfl) (fun _ _ _ h => h) (Or.inl ⟨by rfl,fun X hX => by go_simp⟩) hHeld ?_
    try simp only [Act.put,zsA,zsB,zsC,List.getElem_toArray,List.getElem_cons_zero,List.getElem_cons_succ]
    refine' wpAnyH_take (i := 5) (oi := _) (v := _) rfl (by kernel_rfl) (by kernel_rfl) (by kernel_rfl) (fun _ _ _ h => h) (yieldsIf_load_mid (by rfl) 48 _ rfl (b) (off + i * 6) rfl [.int .i64 tmain,.int .i64 tbonus,.int .i64 textra,.int .i64 tmode,.int .i64 tkind,.int .i64 tvalue] _ (fun X h => h.2.1) Try.underlying48 rfl (by kernel_rfl)) hHeld ?_
    try simp only [Act.put,zsA,zsB,zsC,List.getElem_toArray,List.getElem_cons_zero,List.getElem_cons_succ]
    refine wpAnyH_ready (rs := [6]) (by kernel_rfl) (by simp) ?_
    refine AllReadyH.cons (o := _) rfl (fun K hK => ?_) AllReadyH.nil
    go_simp
    refine (hct.out _).mono ?_
    rintro e w2 ⟨rfl,hb2⟩
    go_wp2_with fail
    refine hK.out _ _ ⟨rangeAt_below (Below.drewL hb2) g0,rangeAt_below (Below.drewL hb2) hrange,Bel.cellOf (Below.drewL hb2) d21⟩ (fun hHeld => ?_)
    clear hK K
    try simp only [Act.put,zsA,zsB,zsC,List.getElem_toArray,List.getElem_cons_zero,List.getElem_cons_succ]
    refine' wpAnyH_take (i := 7) (oi := _) (v := .int .i64 c) rfl (by kernel_rfl) (by kernel_rfl) (by kernel_rfl) (fun _ _ _ h => h) (Or.inl ⟨by rfl,fun X _ => by go_simp⟩) hHeld ?_
    try simp only [Act.put,zsA,zsB,zsC,List.getElem_toArray,List.getElem_cons_zero,List.getElem_cons_succ]
    refine wpAnyH_done (by kernel_rfl) ?_ _
    go_simp
    have hb12 : Below wr.heap.size wr w2 := Below.drewL hb2
    have g2 := rangeAt_below hb12 g0
    have t2 := rangeAt_below hb12 hrange
    have d2 := Bel.cellOf hb12 d21
    have B2 : Below W.heap.size W w2 := Bel.to hbel hb12
    clear g0 d21 hrange hct hb2 hb12 hbel hHeld
    by_cases hc0 : c = 0
    ·have hs3 := hstep2.out
     rw [hc0,if_neg (by simp)] at hs3
     have hcv := hide (hcv2.out hc0)
     have hvn2 := hide (hvn.out hc0)
     clear hcv2 hvn
     subst hc0
     replace hs3 := hide hs3
     clear hstep2
     go_wp2
     go_loopg [5] i (fun g t wr' => ∃ k : Nat,g = i - k ∧ k ≤ i ∧ t = .int .i64 k ∧ Below w2.heap.size w2 wr' ∧ ∀ j x,j < k → gt[j]? = some x → Cv x = false)
     case atStart => exact ⟨0,rfl,Nat.zero_le _,rfl,Below.refl _ _,fun j x hj => absurd hj (Nat.not_lt_zero _)⟩
     case round =>
      obtain ⟨k,hgk,hk,rfl,hbel3,hno⟩ := hrel
      replace hgk := hide hgk
      replace hno := hide hno
      by_cases hki : k < i
      ·have hki2 := hide hki
       have k1 : (0 : Int) ≤ (k : Int) := by omega
       have k2 : (k : Int) < (i : Int) := by omega
       have k3 : (k : Int) < (gt.length : Int) := by omega
       have hkl : k < gt.length := by omega
       obtain ⟨e,he⟩ : ∃ e,gt[k]? = some e := ⟨_,List.getElem?_eq_getElem hkl⟩
       have hT := hh.out.below (Bel.to bW (Bel.to B2 hbel3))
       obtain ⟨b',off',hbo,hbb',hcell⟩ := hT.at_ hkl
       obtain ⟨rfl,rfl⟩ : b = b' ∧ off = off' := by simpa using hbo
       have hrange : wr.rangeAt b (off + k * 6) (tierCells e) := fun j u hu => hcell k e he j u hu
       clear hcell hT hbo
       have hcve := hide (hcv.out e (by rw [← hG.out];exact hval.out k e hki he))
       have he' := hide he
       clear he
       have q0 := rangeAt_below hbel3 g2
       have t0 := rangeAt_below hbel3 t2
       have f21 := Bel.cellOf hbel3 d2
       obtain ⟨q,hq⟩ : ∃ q,q = Cv e := ⟨_,rfl⟩
       rw [← hq] at hcve
       replace hq := hide hq
       have hlast := hide (fun (h : Cv e = true) => any_take_yes (p := Cv) hki he'.out h)
       have hnext := hide (fun (h : Cv e = false) => show ∀ j x,j < k + 1 → gt[j]? = some x → Cv x = false from by
        intro j x hj hx
        rcases Nat.lt_succ_iff_lt_or_eq.1 hj with h' | rfl
        ·exact hno.out j x h' hx
        ·rw [he'.out] at hx;injection hx with hx;rw [← hx];exact h)
       clear hcv he'
       obtain ⟨emain,ebonus,eextra,emode,ekind,evalue⟩ := e
       unfold tierCells at hrange
       (try simp only [] at hrange)
       go_wp2_with fail
       refine wp_region_held_drew (S := fun X => World.rangeAt X w.heap.size 0 [.string gname,.int .i64 gkind,.int .i64 gprice,.int .i64 gmain,.int .i64 gof,.int .i64 gbonus,.int .i64 gbonusOf,.int .i64 gextra,.int .i64 gdraws,.int .i64 gsystem,.int .i64 gdays,.int .i64 gat,.int .i64 gclose,.int .i64 gcancel,.int .i64 gexpiry,.int .i64 gpool,.int .i64 greserve,.int .i64 ground,.int .i64 gcap,.int .i64 grolls,(.slice aa an ac),(.slice (some ⟨b,off,none⟩) gt.length tc)] ∧ World.rangeAt X b (off + k * 6) [.int .i64 emain,.int .i64 ebonus,.int .i64 eextra,.int .i64 emode,.int .i64 ekind,.int .i64 evalue] ∧ World.rangeAt X b (off + i * 6) [.int .i64 tmain,.int .i64 tbonus,.int .i64 textra,.int .i64 tmode,.int .i64 tkind,.int .i64 tvalue] ∧ X.cell? ⟨w.heap.size,21,none⟩ = some (.slice (some ⟨b,off,none⟩) gt.length tc)) (by kernel_rfl) ⟨q0,hrange,t0,f21⟩ (fun hHeld => ?_)
       refine' wpAnyH_take (i := 0) (oi := _) (v := _) rfl (by kernel_rfl) (by kernel_rfl) (by kernel_rfl) (fun _ _ _ h => h) (yieldsIf_load_mid (by rfl) 25 _ rfl (w.heap.size) (0) rfl [.string gname,.int .i64 gkind,.int .i64 gprice,.int .i64 gmain,.int .i64 gof,.int .i64 gbonus,.int .i64 gbonusOf,.int .i64 gextra,.int .i64 gdraws,.int .i64 gsystem,.int .i64 gdays,.int .i64 gat,.int .i64 gclose,.int .i64 gcancel,.int .i64 gexpiry,.int .i64 gpool,.int .i64 greserve,.int .i64 ground,.int .i64 gcap,.int .i64 grolls,(.slice aa an ac),(.slice (some ⟨b,off,none⟩) gt.length tc)] _ (fun X h => h.1) Try.underlying25 rfl (by kernel_rfl)) hHeld ?_
       try simp only [Act.put,zsA,zsB,zsC,List.getElem_toArray,List.getElem_cons_zero,List.getElem_cons_succ]
       refine' wpAnyH_take (i := 1) (oi := _) (v := .pointer (some ⟨w.heap.size,21,none⟩)) rfl (by kernel_rfl) (by kernel_rfl) (by kernel_rfl) (fun _ _ _ h => h) (Or.inl ⟨by rfl,fun X hX => by go_simp⟩) hHeld ?_
       try simp only [Act.put,zsA,zsB,zsC,List.getElem_toArray,List.getElem_cons_zero,List.getElem_cons_succ]
       refine' wpAnyH_take (i := 2) (oi := _) (v := (.slice (some ⟨b,off,none⟩) gt.length tc)) rfl (by kernel_rfl) (by kernel_rfl) (by kernel_rfl) (fun _ _ _ h => h) (Or.inl ⟨by rfl,fun X hX => by (have hX3 := hX.2.2.2;go_simp)⟩) hHeld ?_
       try simp only [Act.put,zsA,zsB,zsC,List.getElem_toArray,List.getElem_cons_zero,List.getElem_cons_succ]
       refine' wpAnyH_take (i := 3) (oi := _) (v := .int .i64 k) rfl (by kernel_rfl) (by kernel_rfl) (by kernel_rfl) (fun _ _ _ h => h) (Or.inl ⟨by rfl,fun X hX => by go_simp⟩) hHeld ?_
       try simp only [Act.put,zsA,zsB,zsC,List.getElem_toArray,List.getElem_cons_zero,List.getElem_cons_succ]
       refine' wpAnyH_take (i := 4) (oi := _) (v := .pointer (some ⟨b,off + k * 6,none⟩)) rfl (by kernel_rfl) (by kernel_rfl) (by kernel_rfl) (fun _ _ _ h => h) (Or.inl ⟨by rfl,fun X hX => by go_simp⟩) hHeld ?_
       try simp only [Act.put,zsA,zsB,zsC,List.getElem_toArray,List.getElem_cons_zero,List.getElem_cons_succ]
       refine' wpAnyH_take (i := 5) (oi := _) (v := _) rfl (by kernel_rfl) (by kernel_rfl) (by kernel_rfl) (fun _ _ _ h => h) (yieldsIf_load_mid (by rfl) 48 _ rfl (b) (off + k * 6) rfl [.int .i64 emain,.int .i64 ebonus,.int .i64 eextra,.int .i64 emode,.int .i64 ekind,.int .i64 evalue] _ (fun X h => h.2.1) Try.underlying48 rfl (by kernel_rfl)) hHeld ?_
       try simp only [Act.put,zsA,zsB,zsC,List.getElem_toArray,List.getElem_cons_zero,List.getElem_cons_succ]
       refine' wpAnyH_take (i := 6) (oi := _) (v := .pointer (some ⟨w.heap.size,21,none⟩)) rfl (by kernel_rfl) (by kernel_rfl) (by kernel_rfl) (fun _ _ _ h => h) (Or.inl ⟨by rfl,fun X hX => by go_simp⟩) hHeld ?_
       try simp only [Act.put,zsA,zsB,zsC,List.getElem_toArray,List.getElem_cons_zero,List.getElem_cons_succ]
       refine' wpAnyH_take (i := 7) (oi := _) (v := (.slice (some ⟨b,off,none⟩) gt.length tc)) rfl (by kernel_rfl) (by kernel_rfl) (by kernel_rfl) (fun _ _ _ h => h) (Or.inl ⟨by rfl,fun X hX => by (have hX3 := hX.2.2.2;go_simp)⟩) hHeld ?_
       try simp only [Act.put,zsA,zsB,zsC,List.getElem_toArray,List.getElem_cons_zero,List.getElem_cons_succ]
       refine' wpAnyH_take (i := 8) (oi := _) (v := .int .i64 i) rfl (by kernel_rfl) (by kernel_rfl) (by kernel_rfl) (fun _ _ _ h => h) (Or.inl ⟨by rfl,fun X hX => by go_simp⟩) hHeld ?_
       try simp only [Act.put,zsA,zsB,zsC,List.getElem_toArray,List.getElem_cons_zero,List.getElem_cons_succ]
       refine' wpAnyH_take (i := 9) (oi := _) (v := .pointer (some ⟨b,off + i * 6,none⟩)) rfl (by kernel_rfl) (by kernel_rfl) (by kernel_rfl) (fun _ _ _ h => h) (Or.inl ⟨by rfl,fun X hX => by go_simp⟩) hHeld ?_
       try simp only [Act.put,zsA,zsB,zsC,List.getElem_toArray,List.getElem_cons_zero,List.getElem_cons_succ]
       refine' wpAnyH_take (i := 10) (oi := _) (v := _) rfl (by kernel_rfl) (by kernel_rfl) (by kernel_rfl) (fun _ _ _ h => h) (yieldsIf_load_mid (by rfl) 48 _ rfl (b) (off + i * 6) rfl [.int .i64 tmain,.int .i64 tbonus,.int .i64 textra,.int .i64 tmode,.int .i64 tkind,.int .i64 tvalue] _ (fun X h => h.2.2.1) Try.underlying48 rfl (by kernel_rfl)) hHeld ?_
       try simp only [Act.put,zsA,zsB,zsC,List.getElem_toArray,List.getElem_cons_zero,List.getElem_cons_succ]
       refine wpAnyH_ready (rs := [11]) (by kernel_rfl) (by simp) ?_
       refine AllReadyH.cons (o := _) rfl (fun K hK => ?_) AllReadyH.nil
       go_simp
       refine (hcve.out _).mono ?_
       rintro e w4 ⟨rfl,hb4⟩
       go_wp2_with fail
       refine hK.out _ _ ⟨rangeAt_below (Below.drewL hb4) q0,rangeAt_below (Below.drewL hb4) hrange,rangeAt_below (Below.drewL hb4) t0,Bel.cellOf (Below.drewL hb4) f21⟩ (fun hHeld => ?_)
       clear hK K
       try simp only [Act.put,zsA,zsB,zsC,List.getElem_toArray,List.getElem_cons_zero,List.getElem_cons_succ]
       refine wpAnyH_done (by kernel_rfl) ?_ _
       go_simp
       have B4 : Below w2.heap.size w2 w4 := Bel.to hbel3 (Below.drewL hb4)
       clear q0 t0 f21 hrange hb4 hbel3 hHeld
       cases q
       ·have hn1 := hide (hnext.out hq.out.symm)
        go_wp2
        go_roundg (i - (k + 1))
        case measure => have := hgk.out;have := hki2.out;omega
        case rel => exact ⟨k + 1,rfl,by have := hki2.out;omega,by go_num,B4,hn1.out⟩
       ·have hr6 := hs3.out
        rw [hlast.out hq.out.symm,if_pos rfl] at hr6
        replace hr6 := hide hr6
        go_wp2
        go_ret
        rw [hr6.out]
        exact ⟨rfl,Bel.to bW (Bel.to B2 B4)⟩
      ·have hki2 : k = i := by omega
       have hs4 := hs3.out
       rw [any_take_no (fun j x hj hx => hno.out j x (by omega) hx),if_neg (by simp)] at hs4
       replace hs4 := hide hs4
       replace hki2 := hide hki2
       have B5 := Bel.to B2 hbel3
       go_wp2
       go_roundg (gt.length - (i + 1))
       case measure => have := hg.out;have := hlt2.out;omega
       case rel => exact ⟨i + 1,rfl,by have := hlt2.out;omega,by go_num,B5,hs4.out.symm,hvn2.out⟩
    ·have hcb : (c != 0) = true := by simpa using hc0
     have hs3 := hstep2.out
     rw [if_pos hc0] at hs3
     replace hs3 := hide hs3
     clear hstep2
     replace hc0 := hide hc0
     go_wp2
     go_ret
     rw [hs3.out]
     exact ⟨rfl,Bel.to bW B2⟩
   ·have hend := tiersGo_end (g := G) (l := gt) (i := i) hlt
    rw [hgo.out] at hend
    replace hend := hide hend
    have d21 := Bel.cellOf hbel c0_21
    go_wp2
    go_ret
    rw [hend.out]
    exact ⟨rfl,Bel.to bW hbel⟩
 ·rw [if_pos (by simpa using hn)]
  have hn' : inB g.tiers.length 1 12 = false := by simpa using hn
  clear hn hrt
  obtain ⟨gname,gkind,gprice,gmain,gof,gbonus,gbonusOf,gextra,gdraws,gsystem,gdays,gat,gclose,gcancel,gexpiry,gpool,greserve,ground,gcap,grolls,ga,gt⟩ := g
  simp only [] at hn'
  unfold gameVal
  (try simp only [])
  go_enter Try.func58,Try.ntmps58
  go_wp2_with fail
  refine (rin_any _ _ _ _).mono ?_
  rintro e w' ⟨rfl,rfl⟩
  rw [hn']
  go_wp2
  go_ret
  exact ⟨rfl,Bel.al (Below.refl _ _) _⟩
set_option maxHeartbeats 2000000 in
set_option maxRecDepth 100000 in
theorem raddon_any (m : AddonM) (w : World) (h : AddonR w m) :
  Calls Try.prog 79 #[addonVal m] w (IntB (addonE m.d) w) := by
 obtain ⟨⟨aname,akind,aprice,afactors,adigits,aprizes⟩,fv,pv⟩ := m
 obtain ⟨hf,hp⟩ := h
 simp only [] at hf hp
 obtain ⟨fa,fc,rfl,hfl,hfm,hfr⟩ := Rd.form hf
 obtain ⟨pa,pc,rfl,hpl,hpm,hpr⟩ := Rd.form hp
 have hfm2 : fc ≤ 9223372036854775807 := by unfold maxLen at hfm;omega
 have hpm2 : pc ≤ 9223372036854775807 := by unfold maxLen at hpm;omega
 obtain ⟨r,hr⟩ : ∃ r,r = addonE ⟨aname,akind,aprice,afactors,adigits,aprizes⟩ := ⟨_,rfl⟩
 simp only []
 rw [← hr]
 unfold addonE at hr
 unfold addonVal
 simp only [] at hr ⊢
 obtain ⟨nm,hnm⟩ : ∃ b,b = nameB aname := ⟨_,rfl⟩
 rw [← hnm] at hr
 replace hnm := hide hnm
 clear hf hp
 by_cases hA : nm = true ∧ akind = 1 ∧ inB aprice 0 1000000 = true ∧ adigits = 0 ∧ aprizes.length = 0 ∧ inB (afactors.length : Int) 1 8 = true
 ·obtain ⟨rfl,rfl,h3,rfl,h5,h6⟩ := hA
  have hr2 : r = allE afactors 1 100 := by rw [hr];simp [h3,h5,h6]
  replace hr2 := hide hr2
  have h5' : (aprizes.length : Int) ≤ 0 := by omega
  clear hr h5
  go_enter Try.func79,Try.ntmps79
  go_upto_region 1 with (fail)
  obtain ⟨W,hW⟩ : ∃ W,W = (w.alloc (Obj.cells #[.string aname,.int .i64 1,.int .i64 aprice,(.slice fa afactors.length fc),.int .i64 0,(.slice pa aprizes.length pc)] 53)) := ⟨_,rfl⟩
  have bW : Below w.heap.size w W := by rw [hW];exact Bel.al (Below.refl _ _) _
  have r0 : Row W (w.heap.size) 53 [.string aname,.int .i64 1,.int .i64 aprice,(.slice fa afactors.length fc),.int .i64 0,(.slice pa aprizes.length pc)] := by rw [hW];exact Row.new _ _ _
  have c0_0 : W.cell? ⟨w.heap.size,0,none⟩ = some (.string aname) := Row.cell r0 (i := 0) (by simp)
  have c0_1 : W.cell? ⟨w.heap.size,1,none⟩ = some (.int .i64 1) := Row.cell r0 (i := 1) (by simp)
  have c0_2 : W.cell? ⟨w.heap.size,2,none⟩ = some (.int .i64 aprice) := Row.cell r0 (i := 2) (by simp)
  have c0_3 : W.cell? ⟨w.heap.size,3,none⟩ = some ((.slice fa afactors.length fc)) := Row.cell r0 (i := 3) (by simp)
  have c0_4 : W.cell? ⟨w.heap.size,4,none⟩ = some (.int .i64 0) := Row.cell r0 (i := 4) (by simp)
  have c0_5 : W.cell? ⟨w.heap.size,5,none⟩ = some ((.slice pa aprizes.length pc)) := Row.cell r0 (i := 5) (by simp)
  have sW : w.heap.size < W.heap.size := by rw [hW];simp
  rw [← hW]
  clear hW
  replace hfr := hfr.below bW
  clear hpr r0
  go_wp2_with (first | (go_at_call 53;refine (rin_any _ _ _ _).mono ?_;rintro e w' ⟨rfl,rfl⟩) | (go_at_call 51;refine (rname_any _ _).mono ?_;rintro e w' ⟨rfl,rfl⟩;rw [← hnm.out]) | fail)
  go_loopg [3] afactors.length (fun g t wr => ∃ (i : Nat),g = afactors.length - i ∧ i ≤ afactors.length ∧ t = .int .i64 i ∧ W = wr ∧ ∀ k (hk : k < afactors.length),k < i → inB afactors[k] 1 100 = true)
  case atStart => exact ⟨0,rfl,Nat.zero_le _,rfl,rfl,fun k hk hki => absurd hki (Nat.not_lt_zero _)⟩
  case round =>
   obtain ⟨i,hg,hi',rfl,rfl,hall⟩ := hrel
   replace hg := hide hg
   replace hall := hide hall
   by_cases hlt : i < afactors.length
   ·have hlt2 := hide hlt
    obtain ⟨b,off,rfl,hbb,hcell⟩ := hfr.at_ hlt
    obtain ⟨x,hx,c1⟩ : ∃ x,x = afactors[i] ∧ W.cell? ⟨b,off + i,none⟩ = some (.int .i64 x) := ⟨_,rfl,hcell _ hlt⟩
    clear hcell
    have i1 : (0 : Int) ≤ (i : Int) := by omega
    have i2 : (i : Int) < (afactors.length : Int) := by omega
    by_cases hin : inB afactors[i] 1 100 = true
    ·have hnext : ∀ k (hk : k < afactors.length),k < i + 1 → inB afactors[k] 1 100 = true := by
      intro k hk hki
      rcases Nat.lt_succ_iff_lt_or_eq.1 hki with h | rfl
      ·exact hall.out k hk h
      ·exact hin
     replace hnext := hide hnext
     rw [← hx] at hin
     replace hx := hide hx
     go_wp2_with fail
     refine (rin_any _ _ _ _).mono ?_
     rintro e w' ⟨rfl,rfl⟩
     rw [hin]
     go_wp2
     go_roundg (afactors.length - (i + 1))
     case measure => have := hg.out;omega
     case rel => exact ⟨i + 1,rfl,by have := hlt2.out;omega,by go_num,rfl,hnext.out⟩
    ·have hin' : inB afactors[i] 1 100 = false := by simpa using hin
     have hq := hide (allE_at hlt hin')
     rw [← hx] at hin'
     clear hin
     replace hx := hide hx
     go_wp2_with fail
     refine (rin_any _ _ _ _).mono ?_
     rintro e w' ⟨rfl,rfl⟩
     rw [hin']
     go_wp2
     go_ret
     rw [hr2.out,hq.out]
     exact ⟨rfl,bW⟩
   ·have hq := hide (allE_yes (lo := 1) (hi := 100) (fun k hk => hall.out k hk (by omega)))
    go_wp2
    go_ret
    rw [hr2.out,hq.out]
    exact ⟨rfl,bW⟩
 ·by_cases hB : nm = true ∧ akind = 2 ∧ inB aprice 0 1000000 = true ∧ afactors.length = 0 ∧ inB adigits 1 8 = true ∧ (aprizes.length : Int) = adigits
  ·obtain ⟨rfl,rfl,h3,h4,h5,h6⟩ := hB
   have hr2 : r = allE aprizes 0 1000000000 := by rw [hr];simp [h3,h4,h5,h6]
   replace hr2 := hide hr2
   have h4' : (afactors.length : Int) ≤ 0 := by omega
   clear hr hA h4
   have h7 : ((aprizes.length : Int) != adigits) = false := by simp [h6]
   replace h6 := hide h6
   go_enter Try.func79,Try.ntmps79
   go_upto_region 1 with (fail)
   obtain ⟨W,hW⟩ : ∃ W,W = (w.alloc (Obj.cells #[.string aname,.int .i64 2,.int .i64 aprice,(.slice fa afactors.length fc),.int .i64 adigits,(.slice pa aprizes.length pc)] 53)) := ⟨_,rfl⟩
   have bW : Below w.heap.size w W := by rw [hW];exact Bel.al (Below.refl _ _) _
   have r0 : Row W (w.heap.size) 53 [.string aname,.int .i64 2,.int .i64 aprice,(.slice fa afactors.length fc),.int .i64 adigits,(.slice pa aprizes.length pc)] := by rw [hW];exact Row.new _ _ _
   have c0_0 : W.cell? ⟨w.heap.size,0,none⟩ = some (.string aname) := Row.cell r0 (i := 0) (by simp)
   have c0_1 : W.cell? ⟨w.heap.size,1,none⟩ = some (.int .i64 2) := Row.cell r0 (i := 1) (by simp)
   have c0_2 : W.cell? ⟨w.heap.size,2,none⟩ = some (.int .i64 aprice) := Row.cell r0 (i := 2) (by simp)
   have c0_3 : W.cell? ⟨w.heap.size,3,none⟩ = some ((.slice fa afactors.length fc)) := Row.cell r0 (i := 3) (by simp)
   have c0_4 : W.cell? ⟨w.heap.size,4,none⟩ = some (.int .i64 adigits) := Row.cell r0 (i := 4) (by simp)
   have c0_5 : W.cell? ⟨w.heap.size,5,none⟩ = some ((.slice pa aprizes.length pc)) := Row.cell r0 (i := 5) (by simp)
   have sW : w.heap.size < W.heap.size := by rw [hW];simp
   rw [← hW]
   clear hW
   replace hpr := hpr.below bW
   clear hfr r0
   go_wp2_with (first | (go_at_call 53;refine (rin_any _ _ _ _).mono ?_;rintro e w' ⟨rfl,rfl⟩) | (go_at_call 51;refine (rname_any _ _).mono ?_;rintro e w' ⟨rfl,rfl⟩;rw [← hnm.out]) | fail)
   go_loopg [4] aprizes.length (fun g t wr => ∃ (i : Nat),g = aprizes.length - i ∧ i ≤ aprizes.length ∧ t = .int .i64 i ∧ W = wr ∧ ∀ k (hk : k < aprizes.length),k < i → inB aprizes[k] 0 1000000000 = true)
   case atStart => exact ⟨0,rfl,Nat.zero_le _,rfl,rfl,fun k hk hki => absurd hki (Nat.not_lt_zero _)⟩
   case round =>
    obtain ⟨i,hg,hi',rfl,rfl,hall⟩ := hrel
    replace hg := hide hg
    replace hall := hide hall
    by_cases hlt : i < aprizes.length
    ·have hlt2 := hide hlt
     obtain ⟨b,off,rfl,hbb,hcell⟩ := hpr.at_ hlt
     obtain ⟨x,hx,c1⟩ : ∃ x,x = aprizes[i] ∧ W.cell? ⟨b,off + i,none⟩ = some (.int .i64 x) := ⟨_,rfl,hcell _ hlt⟩
     clear hcell
     have i1 : (0 : Int) ≤ (i : Int) := by omega
     have i2 : (i : Int) < (aprizes.length : Int) := by omega
     by_cases hin : inB aprizes[i] 0 1000000000 = true
     ·have hnext : ∀ k (hk : k < aprizes.length),k < i + 1 → inB aprizes[k] 0 1000000000 = true := by
       intro k hk hki
       rcases Nat.lt_succ_iff_lt_or_eq.1 hki with h | rfl
       ·exact hall.out k hk h
       ·exact hin
      replace hnext := hide hnext
      rw [← hx] at hin
      replace hx := hide hx
      go_wp2_with fail
      refine (rin_any _ _ _ _).mono ?_
      rintro e w' ⟨rfl,rfl⟩
      rw [hin]
      go_wp2
      go_roundg (aprizes.length - (i + 1))
      case measure => have := hg.out;omega
      case rel => exact ⟨i + 1,rfl,by have := hlt2.out;omega,by go_num,rfl,hnext.out⟩
     ·have hin' : inB aprizes[i] 0 1000000000 = false := by simpa using hin
      have hq := hide (allE_at hlt hin')
      rw [← hx] at hin'
      clear hin
      replace hx := hide hx
      go_wp2_with fail
      refine (rin_any _ _ _ _).mono ?_
      rintro e w' ⟨rfl,rfl⟩
      rw [hin']
      go_wp2
      go_ret
      rw [hr2.out,hq.out]
      exact ⟨rfl,bW⟩
    ·have hq := hide (allE_yes (lo := 0) (hi := 1000000000) (fun k hk => hall.out k hk (by omega)))
     go_wp2
     go_ret
     rw [hr2.out,hq.out]
     exact ⟨rfl,bW⟩
  ·have hC := hide (And.intro hA hB)
   replace hr := hide hr
   clear hA hB hfr hpr
   go_enter Try.func79,Try.ntmps79
   go_wp2_with (first | (go_at_call 53;refine (rin_any _ _ _ _).mono ?_;rintro e w' ⟨rfl,rfl⟩) | (go_at_call 51;refine (rname_any _ _).mono ?_;rintro e w' ⟨rfl,rfl⟩;rw [← hnm.out]) | fail)
   all_goals
    first
    | (go_ret;refine ⟨ret_int ?_,Bel.al (Below.refl _ _) _⟩;rw [hr.out];(simp_all <;> omega))
    | (exfalso;have hc := hC.out;simp_all;done)
    | (exfalso;have hc := hC.out;simp_all;omega)
    | trace_state
set_option maxHeartbeats 2000000 in
set_option maxRecDepth 100000 in
theorem raddons_any (v : Value) (ms : List AddonM) (w : World) (h : AddonsR w v ms) :
  Calls Try.prog 57 #[v] w (IntB (addonsE (ms.map (·.d))) w) := by
 obtain ⟨l,hl⟩ : ∃ l,l = ms.map (·.d) := ⟨_,rfl⟩
 have hlen : l.length = ms.length := by rw [hl];simp
 rw [← hl]
 obtain ⟨ao,cap,rfl,hle,hmax⟩ := h.1.shape
 unfold addonsE
 by_cases h4 : 4 < l.length
 ·rw [if_pos h4]
  have h4' : 4 < ms.length := by omega
  clear h4 hl hlen h
  go_enter Try.func57,Try.ntmps57
  go_wp2
  go_ret
  exact ⟨rfl,Below.refl _ _⟩
 ·rw [if_neg h4]
  have h4' : ms.length ≤ 4 := by omega
  have hl' := hide hl
  clear hl
  replace hlen := hide hlen
  have hh := hide h
  clear h h4
  obtain ⟨r,hr⟩ : ∃ r,r = addonsGo [] l := ⟨_,rfl⟩
  rw [← hr]
  replace hr := hide hr
  go_enter Try.func57,Try.ntmps57
  go_wp2
  go_loopg [3] ms.length (fun g t wr => ∃ i : Nat,g = ms.length - i ∧ i ≤ ms.length ∧ t = .int .i64 i ∧ Below w.heap.size w wr ∧ addonsGo (l.take i) (l.drop i) = r)
  case atStart => exact ⟨0,rfl,Nat.zero_le _,rfl,Below.refl _ _,hr.out.symm⟩
  case round =>
   obtain ⟨i,hg,hi,rfl,hbel,hgo⟩ := hrel
   replace hg := hide hg
   replace hgo := hide hgo
   by_cases hlt : i < ms.length
   ·have hlt2 := hide hlt
    have i1 : (0 : Int) ≤ (i : Int) := by omega
    have i2 : (i : Int) < (ms.length : Int) := by omega
    have hA := hh.out.below hbel
    obtain ⟨b,off,rfl,hbb,hcell⟩ := hA.1.at_ hlt
    obtain ⟨m,hm⟩ : ∃ m,ms[i]? = some m := ⟨_,List.getElem?_eq_getElem hlt⟩
    have hrange : wr.rangeAt b (off + i * 6) (AddonM.cells m) := fun j u hu => hcell i m hm j u hu
    have hAd := hA.2 i m hm
    clear hcell
    have hlm : l[i]? = some m.d := by rw [hl'.out,List.getElem?_map,hm];rfl
    have hstep := addonsGo_step hlm
    rw [hgo.out] at hstep
    clear hm hlm hA
    obtain ⟨⟨aname,akind,aprice,afactors,adigits,aprizes⟩,fv,pv⟩ := m
    unfold AddonM.cells at hrange
    obtain ⟨hf,hp⟩ := hAd
    (try simp only [] at hrange hf hp hstep)
    obtain ⟨afa,afn,afc,rfl⟩ := Rd.shape hf
    obtain ⟨apa,apn,apc,rfl⟩ := Rd.shape hp
    have hAd : AddonR wr ⟨⟨aname,akind,aprice,afactors,adigits,aprizes⟩,.slice afa afn afc,.slice apa apn apc⟩ := ⟨hf,hp⟩
    clear hf hp
    obtain ⟨c,hc⟩ : ∃ c,c = addonE ⟨aname,akind,aprice,afactors,adigits,aprizes⟩ := ⟨_,rfl⟩
    have hca := hide (raddon_any ⟨⟨aname,akind,aprice,afactors,adigits,aprizes⟩,.slice afa afn afc,.slice apa apn apc⟩ wr hAd)
    (try simp only [] at hca)
    rw [← hc] at hca hstep
    clear hc
    replace hstep := hide hstep
    have a0 : wr.cell? ⟨b,off + i * 6,none⟩ = some (.string aname) := hrange 0 _ rfl
    have a1 : wr.cell? ⟨b,off + i * 6 + 1,none⟩ = some (.int .i64 akind) := hrange 1 _ rfl
    go_wp2_with (first | (refine wpList_load_mid rfl 53 _ rfl b (off + i * 6) rfl [.string aname,.int .i64 akind,.int .i64 aprice,.slice afa afn afc,.int .i64 adigits,.slice apa apn apc] _ hrange Try.underlying53 rfl (by kernel_rfl) ?_) | fail)
    refine hca.out.mono ?_
    rintro e w2 ⟨rfl,hb2⟩
    replace a0 := Bel.cellOf hb2 a0
    replace a1 := Bel.cellOf hb2 a1
    have B2 := Bel.to hbel hb2
    clear hrange hAd hca hb2 hbel
    by_cases hc0 : c = 0
    ·subst hc0
     have hs3 : r = if (l.take i).any (fun s => decide (s.name = aname) || decide (s.kind = akind)) = true then 6 else addonsGo (l.take (i + 1)) (l.drop (i + 1)) := by rw [hstep.out,if_neg (by simp)]
     replace hs3 := hide hs3
     clear hstep
     go_wp2
     go_loopg [5] i (fun g t wr' => ∃ k : Nat,g = i - k ∧ k ≤ i ∧ t = .int .i64 k ∧ Below w2.heap.size w2 wr' ∧ ∀ j x,j < k → l[j]? = some x → (decide (x.name = aname) || decide (x.kind = akind)) = false)
     case atStart => exact ⟨0,rfl,Nat.zero_le _,rfl,Below.refl _ _,fun j x hj => absurd hj (Nat.not_lt_zero _)⟩
     case round =>
      obtain ⟨k,hgk,hk,rfl,hbel3,hno⟩ := hrel
      replace hgk := hide hgk
      replace hno := hide hno
      by_cases hki : k < i
      ·have hki2 := hide hki
       have k1 : (0 : Int) ≤ (k : Int) := by omega
       have k2 : (k : Int) < (ms.length : Int) := by omega
       have k3 : (k : Int) < (i : Int) := by omega
       have hkl : k < ms.length := by omega
       have hA := hh.out.below (Bel.to B2 hbel3)
       obtain ⟨b',off',hbo,hbb',hcell⟩ := hA.1.at_ hkl
       obtain ⟨rfl,rfl⟩ : b = b' ∧ off = off' := by simpa using hbo
       obtain ⟨n,hn⟩ : ∃ n,ms[k]? = some n := ⟨_,List.getElem?_eq_getElem hkl⟩
       have e0 : wr.cell? ⟨b,off + k * 6,none⟩ = some (.string n.d.name) := hcell k n hn 0 _ rfl
       have e1 : wr.cell? ⟨b,off + k * 6 + 1,none⟩ = some (.int .i64 n.d.kind) := hcell k n hn 1 _ rfl
       have hln : l[k]? = some n.d := by rw [hl'.out,List.getElem?_map,hn];rfl
       clear hcell hA hbo hn
       replace hln := hide hln
       obtain ⟨⟨ename,ekind,eprice,efactors,edigits,eprizes⟩,efv,epv⟩ := n
       (try simp only [] at e0 e1 hln)
       have f0 := Bel.cellOf hbel3 a0
       have f1 := Bel.cellOf hbel3 a1
       by_cases hne : ename = aname
       ·have hyes : (decide (ename = aname) || decide (ekind = akind)) = true := by simp [hne]
        have hany := any_take_yes (p := fun s : AddonD => decide (s.name = aname) || decide (s.kind = akind)) hki hln.out hyes
        have hs4 := hs3.out
        rw [hany,if_pos rfl] at hs4
        replace hs4 := hide hs4
        clear hany hyes
        subst hne
        go_wp2
        go_quiet (fail)
        go_wp2
        go_ret
        rw [hs4.out]
        exact ⟨rfl,Bel.drN (Bel.to B2 hbel3) _⟩
       ·have hnb := bytes_ne hne
        by_cases hkk : ekind = akind
        ·have hyes : (decide (ename = aname) || decide (ekind = akind)) = true := by simp [hkk]
         have hany := any_take_yes (p := fun s : AddonD => decide (s.name = aname) || decide (s.kind = akind)) hki hln.out hyes
         have hs4 := hs3.out
         rw [hany,if_pos rfl] at hs4
         replace hs4 := hide hs4
         replace hne := hide hne
         clear hany hyes
         subst hkk
         go_wp2
         go_quiet (fail)
         go_wp2
         go_ret
         rw [hs4.out]
         exact ⟨rfl,Bel.drN (Bel.to B2 hbel3) _⟩
        ·have hkb : (ekind == akind) = false := by simpa using hkk
         have hno2 : (decide (ename = aname) || decide (ekind = akind)) = false := by simp [hne,hkk]
         have hnext : ∀ j x,j < k + 1 → l[j]? = some x → (decide (x.name = aname) || decide (x.kind = akind)) = false := by
          intro j x hj hx
          rcases Nat.lt_succ_iff_lt_or_eq.1 hj with h' | rfl
          ·exact hno.out j x h' hx
          ·rw [hln.out] at hx;injection hx with hx;rw [← hx];exact hno2
         replace hnext := hide hnext
         replace hne := hide hne
         replace hkk := hide hkk
         clear hno2
         go_wp2
         go_quiet (fail)
         go_wp2
         go_roundg (i - (k + 1))
         case measure => have := hgk.out;have := hki2.out;omega
         case rel => exact ⟨k + 1,rfl,by have := hki2.out;omega,by go_num,Bel.drN hbel3 _,hnext.out⟩
      ·have hki2 : k = i := by omega
       have hs4 := hs3.out
       rw [any_take_no (fun j x hj hx => hno.out j x (by omega) hx),if_neg (by simp)] at hs4
       replace hs4 := hide hs4
       replace hki2 := hide hki2
       have B5 := Bel.to B2 hbel3
       go_wp2
       go_roundg (ms.length - (i + 1))
       case measure => have := hg.out;have := hlt2.out;omega
       case rel => exact ⟨i + 1,rfl,by have := hlt2.out;omega,by go_num,B5,hs4.out.symm⟩
    ·have hcb : (c != 0) = true := by simpa using hc0
     have hs3 : r = c := by rw [hstep.out,if_pos hc0]
     replace hs3 := hide hs3
     replace hc0 := hide hc0
     clear hstep
     go_wp2
     go_ret
     rw [hs3.out]
     exact ⟨rfl,B2⟩
   ·have hend := addonsGo_end (l := l) (i := i) (by have := hlen.out;omega)
    rw [hgo.out] at hend
    replace hend := hide hend
    go_wp2
    go_ret
    rw [hend.out]
    exact ⟨rfl,hbel⟩
theorem Rd.form_n {w : World} {v : Value} {l : List Int} {n : Nat} (h : Rd I64 w v l) (hn : l.length = n) (hp : 0 < n) : ∃ b off cap,v = .slice (some ⟨b,off,none⟩) n cap ∧ ∀ i x,l[i]? = some x → w.cell? ⟨b,off + i,none⟩ = some (.int .i64 x) := by
 obtain ⟨ao,cap,rfl,h2,h3,h4⟩ := h
 obtain ⟨b,off,rfl,h5,h6⟩ := h4 (by omega)
 exact ⟨b,off,cap,by rw [hn],h6⟩
theorem Rd.form_s {w : World} {v : Value} {l : List ByteArray} {n : Nat} (h : Rd Value.string w v l) (hn : l.length = n) (hp : 0 < n) : ∃ b off cap,v = .slice (some ⟨b,off,none⟩) n cap ∧ ∀ i x,l[i]? = some x → w.cell? ⟨b,off + i,none⟩ = some (.string x) := by
 obtain ⟨ao,cap,rfl,h2,h3,h4⟩ := h
 obtain ⟨b,off,rfl,h5,h6⟩ := h4 (by omega)
 exact ⟨b,off,cap,by rw [hn],h6⟩
theorem mat_bounds {g : GameD} (hk : g.kind = 1 ∨ g.kind = 2) (h : matB g = true) : g.main ≤ 10 ∧ g.bonus ≤ 4 ∧ g.extra ≤ 4 := by
 unfold matB at h
 simp only [Bool.and_eq_true] at h
 obtain ⟨⟨⟨⟨⟨⟨⟨h1,h2⟩,h3⟩,h4⟩,h5⟩,h6⟩,h7⟩,h8⟩ := h
 have a2 := inB_iff.1 h2
 refine ⟨a2.2,?_,?_⟩
 ·split at h4
  ·have := inB_iff.1 h4;omega
  ·have := inB_iff.1 h4;omega
 ·split at h6
  ·have := inB_iff.1 h6;omega
  ·rw [Bool.and_eq_true] at h6;have := inB_iff.1 h6.1;omega
theorem game_range {g : GameD} {r : Int} {OK : Nat → Bool} {i : Nat} (hr : r = gameE g) (hn : nameB g.name = true) (hk : g.kind = 1 ∨ g.kind = 2) (hOK : OK = okAt g) (hi : i < 18) (hq : OK i = false) : r = 2 := by
 rw [hr]
 unfold gameE
 rw [if_neg (by rw [hn];simp),if_neg (by omega)]
 by_cases hm : matB g = true
 ·by_cases ht : termB g = true
  ·have := (nums_ok hk).2 ⟨hm,ht⟩ i hi
   rw [hOK,this] at hq
   cases hq
  ·rw [if_neg (by rw [hm];simp),if_pos (by simpa using ht)]
 ·rw [if_pos (by simpa using hm)]
theorem game_rest {g : GameD} {r : Int} {OK : Nat → Bool} (hr : r = gameE g) (hn : nameB g.name = true) (hk : g.kind = 1 ∨ g.kind = 2) (hOK : OK = okAt g) (hq : ∀ i,i < 18 → OK i = true) : r = (if addonsE g.addons ≠ 0 then addonsE g.addons else tiersE g) ∧ matB g = true := by
 have h := (nums_ok hk).1 (fun i hi => by rw [← hOK];exact hq i hi)
 refine ⟨?_,h.1⟩
 rw [hr]
 unfold gameE
 rw [if_neg (by rw [hn];simp),if_neg (by omega),if_neg (by rw [h.1];simp),if_neg (by rw [h.2];simp)]
set_option maxHeartbeats 4000000 in
set_option maxRecDepth 100000 in
theorem rcheck_any (g : GameD) (av tv : Value) (ms : List AddonM) (w : World) (h : GameR w av tv ms g) :
  Calls Try.prog 26 #[gameVal g av tv] w (ErrS (gameE g) w) := by
 obtain ⟨h1,h2,h3⟩ := h
 obtain ⟨aa,ac,rfl,hal,ham⟩ := h1.1.shape
 obtain ⟨ta,tc,rfl,htl,htm⟩ := h3.shape
 have hnum := hide (fun X => numbers_any g (.slice aa ms.length ac) (.slice ta g.tiers.length tc) X ⟨_,_,_,rfl⟩ ⟨_,_,_,rfl⟩)
 have hlow := hide (fun X => lowest_any g (.slice aa ms.length ac) (.slice ta g.tiers.length tc) X ⟨_,_,_,rfl⟩ ⟨_,_,_,rfl⟩)
 have hhigh := hide (fun X => highest_any g (.slice aa ms.length ac) (.slice ta g.tiers.length tc) X ⟨_,_,_,rfl⟩ ⟨_,_,_,rfl⟩)
 obtain ⟨NL,hNL⟩ : ∃ l,l = numsL g := ⟨_,rfl⟩
 obtain ⟨LL,hLL⟩ : ∃ l,l = lowL g := ⟨_,rfl⟩
 obtain ⟨HL,hHL⟩ : ∃ l,l = highL g := ⟨_,rfl⟩
 have hlen1 : NL.length = 18 := by rw [hNL];rfl
 have hlen2 : LL.length = 18 := by rw [hLL];rfl
 have hlen3 : HL.length = 18 := by rw [hHL];rfl
 rw [← hNL] at hnum
 rw [← hLL] at hlow
 rw [← hHL] at hhigh
 have hok : ∀ i xn xl xh,NL[i]? = some xn → LL[i]? = some xl → HL[i]? = some xh → okAt g i = inB xn xl xh := by
  intro i xn xl xh e1 e2 e3
  unfold okAt
  rw [← hNL,← hLL,← hHL]
  simp [List.getD_eq_getElem?_getD,e1,e2,e3]
 clear hNL hLL hHL
 obtain ⟨OK,hOK⟩ : ∃ p : Nat → Bool,p = okAt g := ⟨_,rfl⟩
 rw [← hOK] at hok
 replace hok := hide hok
 obtain ⟨r,hr⟩ : ∃ r,r = gameE g := ⟨_,rfl⟩
 rw [← hr]
 replace hr := hide hr
 replace hOK := hide hOK
 replace h1 := hide h1
 replace h3 := hide h3
 replace hlen1 := hide hlen1
 obtain ⟨gname,gkind,gprice,gmain,gof,gbonus,gbonusOf,gextra,gdraws,gsystem,gdays,gat,gclose,gcancel,gexpiry,gpool,greserve,ground,gcap,grolls,ga,gt⟩ := g
 (try simp only [] at hnum hlow hhigh h3 htl)
 unfold gameVal at hnum hlow hhigh ⊢
 (try simp only [] at hnum hlow hhigh ⊢)
 by_cases hfirst : nameB gname = true ∧ (gkind = 1 ∨ gkind = 2)
 ·obtain ⟨hn,hk⟩ := hfirst
  have hkb : (gkind != 1) = false ∨ ((gkind != 1) = true ∧ (gkind != 2) = false) := by
   rcases hk with rfl | rfl
   ·exact .inl (by decide)
   ·exact .inr ⟨by decide,by decide⟩
  go_enter Try.func26,Try.ntmps26
  go_upto_region 1 with (fail)
  obtain ⟨W,hW⟩ : ∃ W,W = (w.alloc (Obj.cells #[.string gname,.int .i64 gkind,.int .i64 gprice,.int .i64 gmain,.int .i64 gof,.int .i64 gbonus,.int .i64 gbonusOf,.int .i64 gextra,.int .i64 gdraws,.int .i64 gsystem,.int .i64 gdays,.int .i64 gat,.int .i64 gclose,.int .i64 gcancel,.int .i64 gexpiry,.int .i64 gpool,.int .i64 greserve,.int .i64 ground,.int .i64 gcap,.int .i64 grolls,(.slice aa ms.length ac),(.slice ta gt.length tc)] 25)) := ⟨_,rfl⟩
  have bW : Below w.heap.size w W := by rw [hW];exact Bel.al (Below.refl _ _) _
  have r0 : Row W (w.heap.size) 25 [.string gname,.int .i64 gkind,.int .i64 gprice,.int .i64 gmain,.int .i64 gof,.int .i64 gbonus,.int .i64 gbonusOf,.int .i64 gextra,.int .i64 gdraws,.int .i64 gsystem,.int .i64 gdays,.int .i64 gat,.int .i64 gclose,.int .i64 gcancel,.int .i64 gexpiry,.int .i64 gpool,.int .i64 greserve,.int .i64 ground,.int .i64 gcap,.int .i64 grolls,(.slice aa ms.length ac),(.slice ta gt.length tc)] := by rw [hW];exact Row.new _ _ _
  have c0_0 : W.cell? ⟨w.heap.size,0,none⟩ = some (.string gname) := Row.cell r0 (i := 0) (by simp)
  have c0_1 : W.cell? ⟨w.heap.size,1,none⟩ = some (.int .i64 gkind) := Row.cell r0 (i := 1) (by simp)
  have c0_20 : W.cell? ⟨w.heap.size,20,none⟩ = some ((.slice aa ms.length ac)) := Row.cell r0 (i := 20) (by simp)
  have sW : w.heap.size < W.heap.size := by rw [hW];simp
  rw [← hW]
  clear hW
  replace hk := hide hk
  rcases hkb with hkb | ⟨hkb,hkb2⟩
  all_goals
   go_wp2_with fail
   refine (rname_any _ _).mono ?_
   rintro e w' ⟨rfl,rfl⟩
   rw [hn]
   go_wp2_with (first | (refine wpList_load_row rfl 25 _ rfl _ rfl _ _ _ _ r0 Try.underlying25 rfl (by kernel_rfl) ?_) | fail)
   refine (hnum.out _).mono ?_
   rintro e w1 ⟨u1,rfl,hu1,hb1⟩
   obtain ⟨nb,no,nc,rfl,hnc⟩ := Rd.form_n hu1 hlen1.out (by decide)
   have BN := Bel.to bW hb1
   have q1 := Row.keep r0 hb1
   have d20 := Bel.cellOf hb1 c0_20
   clear r0 c0_0 c0_1 c0_20 hu1 hb1
   replace hnc := hide hnc
   go_wp2
   go_loopg [5] 18 (fun g t wr => ∃ i : Nat,g = 18 - i ∧ i ≤ 18 ∧ t = .int .i64 i ∧ Below w1.heap.size w1 wr ∧ ∀ j,j < i → OK j = true)
   case atStart => exact ⟨0,rfl,Nat.zero_le _,rfl,Below.refl _ _,fun j hj => absurd hj (Nat.not_lt_zero _)⟩
   case round =>
    obtain ⟨i,hg,hi,rfl,hbel,hall⟩ := hrel
    replace hg := hide hg
    replace hall := hide hall
    by_cases hlt : i < 18
    ·have hlt2 := hide hlt
     have i1 : (0 : Int) ≤ (i : Int) := by omega
     have i2 : (i : Int) < 18 := by omega
     obtain ⟨xn,hxn⟩ : ∃ x,NL[i]? = some x := ⟨_,List.getElem?_eq_getElem (by have := hlen1.out;omega)⟩
     obtain ⟨xl,hxl⟩ : ∃ x,LL[i]? = some x := ⟨_,List.getElem?_eq_getElem (by omega)⟩
     obtain ⟨xh,hxh⟩ : ∃ x,HL[i]? = some x := ⟨_,List.getElem?_eq_getElem (by omega)⟩
     have hoki := hide (hok.out i xn xl xh hxn hxl hxh)
     have cn := Bel.cellOf hbel (hnc.out i xn hxn)
     replace hxn := hide hxn
     replace hxl := hide hxl
     replace hxh := hide hxh
     have q2 := Row.keep q1 hbel
     have g0 : wr.rangeAt w.heap.size 0 [.string gname,.int .i64 gkind,.int .i64 gprice,.int .i64 gmain,.int .i64 gof,.int .i64 gbonus,.int .i64 gbonusOf,.int .i64 gextra,.int .i64 gdraws,.int .i64 gsystem,.int .i64 gdays,.int .i64 gat,.int .i64 gclose,.int .i64 gcancel,.int .i64 gexpiry,.int .i64 gpool,.int .i64 greserve,.int .i64 ground,.int .i64 gcap,.int .i64 grolls,(.slice aa ms.length ac),(.slice ta gt.length tc)] := fun j v hv => by rw [Nat.zero_add];exact (q2.cell? j).trans hv
     clear q2
     go_wp2_with fail
     go_cut [42] (fun b X => b = .bool (!inB xn xl xh) ∧ X.rangeAt w.heap.size 0 [.string gname,.int .i64 gkind,.int .i64 gprice,.int .i64 gmain,.int .i64 gof,.int .i64 gbonus,.int .i64 gbonusOf,.int .i64 gextra,.int .i64 gdraws,.int .i64 gsystem,.int .i64 gdays,.int .i64 gat,.int .i64 gclose,.int .i64 gcancel,.int .i64 gexpiry,.int .i64 gpool,.int .i64 greserve,.int .i64 ground,.int .i64 gcap,.int .i64 grolls,(.slice aa ms.length ac),(.slice ta gt.length tc)] ∧ Below wr.heap.size wr X)
     case first =>
      refine wp_region_held_drew (S := fun X => World.rangeAt X w.heap.size 0 [.string gname,.int .i64 gkind,.int .i64 gprice,.int .i64 gmain,.int .i64 gof,.int .i64 gbonus,.int .i64 gbonusOf,.int .i64 gextra,.int .i64 gdraws,.int .i64 gsystem,.int .i64 gdays,.int .i64 gat,.int .i64 gclose,.int .i64 gcancel,.int .i64 gexpiry,.int .i64 gpool,.int .i64 greserve,.int .i64 ground,.int .i64 gcap,.int .i64 grolls,(.slice aa ms.length ac),(.slice ta gt.length tc)] ∧ X.cell? ⟨nb,no + i,none⟩ = some (.int .i64 xn)) (by kernel_rfl) ⟨g0,cn⟩ (fun hHeld => ?_)
      refine' wpAnyH_take (i := 0) (oi := _) (v := .slice (some ⟨nb,no,none⟩) 18 nc) rfl (by kernel_rfl) (by kernel_rfl) (by kernel_rfl) (fun _ _ _ h => h) (Or.inl ⟨by rfl,fun X hX => by go_simp⟩) hHeld ?_
      try simp only [Act.put,zsA,zsB,zsC,List.getElem_toArray,List.getElem_cons_zero,List.getElem_cons_succ]
      refine' wpAnyH_take (i := 1) (oi := _) (v := .int .i64 i) rfl (by kernel_rfl) (by kernel_rfl) (by kernel_rfl) (fun _ _ _ h => h) (Or.inl ⟨by rfl,fun X hX => by go_simp⟩) hHeld ?_
      try simp only [Act.put,zsA,zsB,zsC,List.getElem_toArray,List.getElem_cons_zero,List.getElem_cons_succ]
      refine' wpAnyH_take (i := 2) (oi := _) (v := .pointer (some ⟨nb,no + i,none⟩)) rfl (by kernel_rfl) (by kernel_rfl) (by kernel_rfl) (fun _ _ _ h => h) (Or.inl ⟨by rfl,fun X hX => by go_simp⟩) hHeld ?_
      try simp only [Act.put,zsA,zsB,zsC,List.getElem_toArray,List.getElem_cons_zero,List.getElem_cons_succ]
      refine' wpAnyH_take (i := 3) (oi := _) (v := .int .i64 xn) rfl (by kernel_rfl) (by kernel_rfl) (by kernel_rfl) (fun _ _ _ h => h) (Or.inl ⟨by rfl,fun X hX => by (have hX2 := hX.2;go_simp)⟩) hHeld ?_
      try simp only [Act.put,zsA,zsB,zsC,List.getElem_toArray,List.getElem_cons_zero,List.getElem_cons_succ]
      refine' wpAnyH_take (i := 4) (oi := _) (v := _) rfl (by kernel_rfl) (by kernel_rfl) (by kernel_rfl) (fun _ _ _ h => h) (yieldsIf_load_mid (by rfl) 25 _ rfl (w.heap.size) (0) rfl [.string gname,.int .i64 gkind,.int .i64 gprice,.int .i64 gmain,.int .i64 gof,.int .i64 gbonus,.int .i64 gbonusOf,.int .i64 gextra,.int .i64 gdraws,.int .i64 gsystem,.int .i64 gdays,.int .i64 gat,.int .i64 gclose,.int .i64 gcancel,.int .i64 gexpiry,.int .i64 gpool,.int .i64 greserve,.int .i64 ground,.int .i64 gcap,.int .i64 grolls,(.slice aa ms.length ac),(.slice ta gt.length tc)] _ (fun X h => h.1) Try.underlying25 rfl (by kernel_rfl)) hHeld ?_
      try simp only [Act.put,zsA,zsB,zsC,List.getElem_toArray,List.getElem_cons_zero,List.getElem_cons_succ]
      refine' wpAnyH_take (i := 9) (oi := _) (v := _) rfl (by kernel_rfl) (by kernel_rfl) (by kernel_rfl) (fun _ _ _ h => h) (yieldsIf_load_mid (by rfl) 25 _ rfl (w.heap.size) (0) rfl [.string gname,.int .i64 gkind,.int .i64 gprice,.int .i64 gmain,.int .i64 gof,.int .i64 gbonus,.int .i64 gbonusOf,.int .i64 gextra,.int .i64 gdraws,.int .i64 gsystem,.int .i64 gdays,.int .i64 gat,.int .i64 gclose,.int .i64 gcancel,.int .i64 gexpiry,.int .i64 gpool,.int .i64 greserve,.int .i64 ground,.int .i64 gcap,.int .i64 grolls,(.slice aa ms.length ac),(.slice ta gt.length tc)] _ (fun X h => h.1) Try.underlying25 rfl (by kernel_rfl)) hHeld ?_
      try simp only [Act.put,zsA,zsB,zsC,List.getElem_toArray,List.getElem_cons_zero,List.getElem_cons_succ]
      refine' wpAnyH_take (i := 6) (oi := _) (v := .int .i64 i) rfl (by kernel_rfl) (by kernel_rfl) (by kernel_rfl) (fun _ _ _ h => h) (Or.inl ⟨by rfl,fun X hX => by go_simp⟩) hHeld ?_
      try simp only [Act.put,zsA,zsB,zsC,List.getElem_toArray,List.getElem_cons_zero,List.getElem_cons_succ]
      refine' wpAnyH_take (i := 11) (oi := _) (v := .int .i64 i) rfl (by kernel_rfl) (by kernel_rfl) (by kernel_rfl) (fun _ _ _ h => h) (Or.inl ⟨by rfl,fun X hX => by go_simp⟩) hHeld ?_
      try simp only [Act.put,zsA,zsB,zsC,List.getElem_toArray,List.getElem_cons_zero,List.getElem_cons_succ]
      refine wpAnyH_ready (rs := [5]) (by kernel_rfl) (by simp) ?_
      refine AllReadyH.cons (o := _) rfl (fun K hK => ?_) AllReadyH.nil
      go_simp
      refine (hlow.out _).mono ?_
      rintro e w2 ⟨u2,rfl,hu2,hb2⟩
      obtain ⟨lb,lo,lc,rfl,hlc⟩ := Rd.form_n hu2 hlen2 (by decide)
      have hb2' := Below.drewL hb2
      have cl2 := hlc i xl hxl.out
      clear hlc
      have S2 := And.intro (rangeAt_below hb2' g0) (Bel.cellOf hb2' cn)
      go_wp2_with fail
      refine hK.out _ _ S2 (fun hHeld => ?_)
      clear hK K
      try simp only [Act.put,zsA,zsB,zsC,List.getElem_toArray,List.getElem_cons_zero,List.getElem_cons_succ]
      refine' wpAnyH_take (i := 7) (oi := _) (v := .pointer (some ⟨lb,lo + i,none⟩)) rfl (by kernel_rfl) (by kernel_rfl) (by kernel_rfl) (fun _ _ _ h => h) (Or.inl ⟨by rfl,fun X hX => by go_simp⟩) hHeld ?_
      try simp only [Act.put,zsA,zsB,zsC,List.getElem_toArray,List.getElem_cons_zero,List.getElem_cons_succ]
      refine wpAnyH_ready (rs := [8,10]) (by kernel_rfl) (by simp) ?_
      refine AllReadyH.cons (o := _) rfl (fun K hK => ?_) (AllReadyH.cons (o := _) rfl (fun K hK => ?_) AllReadyH.nil)
      ·skip
       go_simp
       refine hK.out _ _ S2 (fun hHeld => ?_)
       clear hK K
       try simp only [Act.put,zsA,zsB,zsC,List.getElem_toArray,List.getElem_cons_zero,List.getElem_cons_succ]
       refine wpAnyH_ready (rs := [10]) (by kernel_rfl) (by simp) ?_
       refine AllReadyH.cons (o := _) rfl (fun K hK => ?_) AllReadyH.nil
       go_simp
       refine (hhigh.out _).mono ?_
       rintro e w3 ⟨u3,rfl,hu3,hb3⟩
       obtain ⟨qb,qo,qc,rfl,hqc⟩ := Rd.form_n hu3 hlen3 (by decide)
       have ch3 := hqc i xh hxh.out
       clear hqc
       have cl3 := Bel.cellOf hb3 cl2
       have S3 := And.intro (rangeAt_below hb3 S2.1) (Bel.cellOf hb3 S2.2)
       go_wp2_with fail
       refine hK.out _ _ S3 (fun hHeld => ?_)
       clear hK K
       try simp only [Act.put,zsA,zsB,zsC,List.getElem_toArray,List.getElem_cons_zero,List.getElem_cons_succ]
       refine' wpAnyH_take (i := 12) (oi := _) (v := .pointer (some ⟨qb,qo + i,none⟩)) rfl (by kernel_rfl) (by kernel_rfl) (by kernel_rfl) (fun _ _ _ h => h) (Or.inl ⟨by rfl,fun X hX => by go_simp⟩) hHeld ?_
       try simp only [Act.put,zsA,zsB,zsC,List.getElem_toArray,List.getElem_cons_zero,List.getElem_cons_succ]
       refine wpAnyH_ready (rs := [13]) (by kernel_rfl) (by simp) ?_
       refine AllReadyH.cons (o := _) rfl (fun K hK => ?_) AllReadyH.nil
       go_simp
       refine hK.out _ _ S3 (fun hHeld => ?_)
       clear hK K
       try simp only [Act.put,zsA,zsB,zsC,List.getElem_toArray,List.getElem_cons_zero,List.getElem_cons_succ]
       refine wpAnyH_ready (rs := [14]) (by kernel_rfl) (by simp) ?_
       refine AllReadyH.cons (o := _) rfl (fun K hK => ?_) AllReadyH.nil
       go_simp
       refine (rin_any _ _ _ _).mono ?_
       rintro e w4 ⟨rfl,rfl⟩
       go_wp2_with fail
       refine hK.out _ _ S3 (fun hHeld => ?_)
       clear hK K
       try simp only [Act.put,zsA,zsB,zsC,List.getElem_toArray,List.getElem_cons_zero,List.getElem_cons_succ]
       refine' wpAnyH_take (i := 15) (oi := _) (v := .bool (!inB xn xl xh)) rfl (by kernel_rfl) (by kernel_rfl) (by kernel_rfl) (fun _ _ _ h => h) (Or.inl ⟨by rfl,fun X hX => by go_simp⟩) hHeld ?_
       try simp only [Act.put,zsA,zsB,zsC,List.getElem_toArray,List.getElem_cons_zero,List.getElem_cons_succ]
       refine wpAnyH_done (by kernel_rfl) ?_ _
       go_simp
       go_wp2_with fail
       go_meet
       exact ⟨rfl,S3.1,Bel.to hb2' hb3⟩
      ·skip
       go_simp
       refine (hhigh.out _).mono ?_
       rintro e w3 ⟨u3,rfl,hu3,hb3⟩
       obtain ⟨qb,qo,qc,rfl,hqc⟩ := Rd.form_n hu3 hlen3 (by decide)
       have ch3 := hqc i xh hxh.out
       clear hqc
       have cl3 := Bel.cellOf hb3 cl2
       have S3 := And.intro (rangeAt_below hb3 S2.1) (Bel.cellOf hb3 S2.2)
       go_wp2_with fail
       refine hK.out _ _ S3 (fun hHeld => ?_)
       clear hK K
       try simp only [Act.put,zsA,zsB,zsC,List.getElem_toArray,List.getElem_cons_zero,List.getElem_cons_succ]
       refine' wpAnyH_take (i := 12) (oi := _) (v := .pointer (some ⟨qb,qo + i,none⟩)) rfl (by kernel_rfl) (by kernel_rfl) (by kernel_rfl) (fun _ _ _ h => h) (Or.inl ⟨by rfl,fun X hX => by go_simp⟩) hHeld ?_
       try simp only [Act.put,zsA,zsB,zsC,List.getElem_toArray,List.getElem_cons_zero,List.getElem_cons_succ]
       refine wpAnyH_ready (rs := [8,13]) (by kernel_rfl) (by simp) ?_
       refine AllReadyH.cons (o := _) rfl (fun K hK => ?_) (AllReadyH.cons (o := _) rfl (fun K hK => ?_) AllReadyH.nil)
       ·skip
        go_simp
        refine hK.out _ _ S3 (fun hHeld => ?_)
        clear hK K
        try simp only [Act.put,zsA,zsB,zsC,List.getElem_toArray,List.getElem_cons_zero,List.getElem_cons_succ]
        refine wpAnyH_ready (rs := [13]) (by kernel_rfl) (by simp) ?_
        refine AllReadyH.cons (o := _) rfl (fun K hK => ?_) AllReadyH.nil
        go_simp
        refine hK.out _ _ S3 (fun hHeld => ?_)
        clear hK K
        try simp only [Act.put,zsA,zsB,zsC,List.getElem_toArray,List.getElem_cons_zero,List.getElem_cons_succ]
        refine wpAnyH_ready (rs := [14]) (by kernel_rfl) (by simp) ?_
        refine AllReadyH.cons (o := _) rfl (fun K hK => ?_) AllReadyH.nil
        go_simp
        refine (rin_any _ _ _ _).mono ?_
        rintro e w4 ⟨rfl,rfl⟩
        go_wp2_with fail
        refine hK.out _ _ S3 (fun hHeld => ?_)
        clear hK K
        try simp only [Act.put,zsA,zsB,zsC,List.getElem_toArray,List.getElem_cons_zero,List.getElem_cons_succ]
        refine' wpAnyH_take (i := 15) (oi := _) (v := .bool (!inB xn xl xh)) rfl (by kernel_rfl) (by kernel_rfl) (by kernel_rfl) (fun _ _ _ h => h) (Or.inl ⟨by rfl,fun X hX => by go_simp⟩) hHeld ?_
        try simp only [Act.put,zsA,zsB,zsC,List.getElem_toArray,List.getElem_cons_zero,List.getElem_cons_succ]
        refine wpAnyH_done (by kernel_rfl) ?_ _
        go_simp
        go_wp2_with fail
        go_meet
        exact ⟨rfl,S3.1,Bel.to hb2' hb3⟩
       ·skip
        go_simp
        refine hK.out _ _ S3 (fun hHeld => ?_)
        clear hK K
        try simp only [Act.put,zsA,zsB,zsC,List.getElem_toArray,List.getElem_cons_zero,List.getElem_cons_succ]
        refine wpAnyH_ready (rs := [8]) (by kernel_rfl) (by simp) ?_
        refine AllReadyH.cons (o := _) rfl (fun K hK => ?_) AllReadyH.nil
        go_simp
        refine hK.out _ _ S3 (fun hHeld => ?_)
        clear hK K
        try simp only [Act.put,zsA,zsB,zsC,List.getElem_toArray,List.getElem_cons_zero,List.getElem_cons_succ]
        refine wpAnyH_ready (rs := [14]) (by kernel_rfl) (by simp) ?_
        refine AllReadyH.cons (o := _) rfl (fun K hK => ?_) AllReadyH.nil
        go_simp
        refine (rin_any _ _ _ _).mono ?_
        rintro e w4 ⟨rfl,rfl⟩
        go_wp2_with fail
        refine hK.out _ _ S3 (fun hHeld => ?_)
        clear hK K
        try simp only [Act.put,zsA,zsB,zsC,List.getElem_toArray,List.getElem_cons_zero,List.getElem_cons_succ]
        refine' wpAnyH_take (i := 15) (oi := _) (v := .bool (!inB xn xl xh)) rfl (by kernel_rfl) (by kernel_rfl) (by kernel_rfl) (fun _ _ _ h => h) (Or.inl ⟨by rfl,fun X hX => by go_simp⟩) hHeld ?_
        try simp only [Act.put,zsA,zsB,zsC,List.getElem_toArray,List.getElem_cons_zero,List.getElem_cons_succ]
        refine wpAnyH_done (by kernel_rfl) ?_ _
        go_simp
        go_wp2_with fail
        go_meet
        exact ⟨rfl,S3.1,Bel.to hb2' hb3⟩
     case rest =>
      obtain ⟨rfl,g2,hb5⟩ := hcut
      have B5 := Bel.to hbel hb5
      clear g0 cn hbel hb5
      rw [← hoki.out]
      cases hq : OK i with
      | true =>
       have hnext : ∀ j,j < i + 1 → OK j = true := by
        intro j hj
        rcases Nat.lt_succ_iff_lt_or_eq.1 hj with h | rfl
        ·exact hall.out j h
        ·exact hq
       replace hnext := hide hnext
       replace hq := hide hq
       go_wp2
       go_roundg (18 - (i + 1))
       case measure => have := hg.out;omega
       case rel => exact ⟨i + 1,rfl,by have := hlt2.out;omega,by go_num,B5,hnext.out⟩
      | false =>
       have hr2 : r = 2 := game_range hr.out hn hk.out hOK.out hlt2.out hq
       replace hr2 := hide hr2
       replace hq := hide hq
       go_wp2
       go_region_with (first
        | (go_at_call 56;refine (fields_any _).mono ?_;rintro e w9 ⟨u9,ss,rfl,hu9,hl9,hb9⟩;obtain ⟨fb,fo,fc,rfl,hfc⟩ := Rd.form_s hu9 hl9 (by decide);obtain ⟨sx,hsx⟩ : ∃ s,ss[i]? = some s := ⟨_,List.getElem?_eq_getElem (by have := hlt2.out;omega)⟩;have cf := hfc i sx hsx;clear hfc hsx hu9))
       all_goals
        go_wp2
        go_ret2
        rw [hr2.out]
        exact ⟨_,rfl,Bel.to (Bel.to BN B5) (Below.drewL hb9)⟩
    ·have hrest := game_rest hr.out hn hk.out hOK.out (fun j hj => hall.out j (by omega))
     have hbd := mat_bounds hk.out hrest.2
     have hr2 := hide hrest.1
     clear hrest
     have e20 := Bel.cellOf hbel d20
     have q2 := Row.keep q1 hbel
     have B6 := Bel.to BN hbel
     clear d20 q1 hbel
     go_wp2_with fail
     refine (raddons_any _ ms _ (h1.out.below B6)).mono ?_
     rintro e w5 ⟨rfl,hb5⟩
     rw [h2]
     have q3 := Row.keep q2 hb5
     have B7 := Bel.to B6 hb5
     clear q2 e20 hb5 B6
     have hcg := hide (fun X (hX : RdS 6 tierCells X (.slice ta gt.length tc) gt) => rtiers_any ⟨gname,gkind,gprice,gmain,gof,gbonus,gbonusOf,gextra,gdraws,gsystem,gdays,gat,gclose,gcancel,gexpiry,gpool,greserve,ground,gcap,grolls,ga,gt⟩ (.slice aa ms.length ac) _ X hX ⟨_,_,_,rfl⟩ hk.out hbd.1 hbd.2.1 hbd.2.2)
     obtain ⟨cav,hca⟩ : ∃ c,c = addonsE ga := ⟨_,rfl⟩
     obtain ⟨cgv,hcg2⟩ : ∃ c,c = tiersE ⟨gname,gkind,gprice,gmain,gof,gbonus,gbonusOf,gextra,gdraws,gsystem,gdays,gat,gclose,gcancel,gexpiry,gpool,greserve,ground,gcap,grolls,ga,gt⟩ := ⟨_,rfl⟩
     rw [← hcg2] at hcg
     have hr3 : r = if cav ≠ 0 then cav else cgv := by rw [hr2.out,hca,hcg2]
     rw [← hca]
     unfold gameVal at hcg
     (try simp only [] at hcg)
     replace hca := hide hca
     replace hcg2 := hide hcg2
     clear hr2 hbd
     by_cases hc0 : cav = 0
     ·have hr4 : r = cgv := by rw [hr3,if_neg (by simpa using hc0)]
      replace hr4 := hide hr4
      subst hc0
      clear hr3
      go_wp2_with (first | (refine wpList_load_row rfl 25 _ rfl _ rfl _ _ _ _ q3 Try.underlying25 rfl (by kernel_rfl) ?_) | fail)
      refine (hcg.out _ (h3.out.below B7)).mono ?_
      rintro e w6 ⟨rfl,hb6⟩
      by_cases hc1 : cgv = 0
      ·replace hr4 : Hid (r = 0) := hide (by rw [hr4.out,hc1])
       subst hc1
       go_wp2
       go_ret2
       rw [hr4.out]
       exact ⟨_,rfl,Bel.to B7 hb6⟩
      ·have hcb : (cgv != 0) = true := by simpa using hc1
       replace hc1 := hide hc1
       go_wp2
       go_ret2
       rw [hr4.out]
       exact ⟨_,rfl,Bel.to B7 hb6⟩
     ·have hr4 : r = cav := by rw [hr3,if_pos hc0]
      replace hr4 := hide hr4
      have hcb : (cav != 0) = true := by simpa using hc0
      replace hc0 := hide hc0
      clear hr3
      go_wp2
      go_ret2
      rw [hr4.out]
      exact ⟨_,rfl,B7⟩
 ·have hr2 : (nameB gname = false ∧ r = 4) ∨ (nameB gname = true ∧ gkind ≠ 1 ∧ gkind ≠ 2 ∧ r = 7) := by
   cases hn : nameB gname with
   | false => left;refine ⟨rfl,?_⟩;rw [hr.out];unfold gameE;simp [hn]
   | true =>
    right
    have hk : gkind ≠ 1 ∧ gkind ≠ 2 := by
     constructor
     ·intro h;exact hfirst ⟨hn,.inl h⟩
     ·intro h;exact hfirst ⟨hn,.inr h⟩
    refine ⟨rfl,hk.1,hk.2,?_⟩
    rw [hr.out];unfold gameE;simp [hn,hk.1,hk.2]
  clear hfirst hr
  rcases hr2 with ⟨hn,hr2⟩ | ⟨hn,k1,k2,hr2⟩
  ·replace hr2 := hide hr2
   go_enter Try.func26,Try.ntmps26
   go_wp2_with fail
   refine (rname_any _ _).mono ?_
   rintro e w' ⟨rfl,rfl⟩
   rw [hn]
   go_wp2
   go_ret2
   rw [hr2.out]
   exact ⟨_,rfl,Bel.al (Below.refl _ _) _⟩
  ·replace hr2 := hide hr2
   have j1 : (gkind != 1) = true := by simpa using k1
   have j2 : (gkind != 2) = true := by simpa using k2
   replace k1 := hide k1
   replace k2 := hide k2
   go_enter Try.func26,Try.ntmps26
   go_wp2_with fail
   refine (rname_any _ _).mono ?_
   rintro e w' ⟨rfl,rfl⟩
   rw [hn]
   go_wp2
   go_ret2
   rw [hr2.out]
   exact ⟨_,rfl,Bel.al (Below.refl _ _) _⟩
end Go.Proofs.Ytldikghldcefcaa
end
section
set_option linter.unusedVariables false
set_option linter.unusedSimpArgs false
namespace Go.Proofs.Ytldikghldcefcaa
open Go.RowKit
theorem rpow_int (x y : Int) (w : World) (hx : 0 ≤ x) (hx2 : x ≤ 10) (hy : 0 ≤ y) (hy2 : y ≤ 10) : Calls Try.prog 27 #[.int .i64 x,.int .i64 (2 * y)] w (SomeNat (x.toNat ^ (2 * y.toNat)) w) := by
 have h := rpow_any x.toNat (2 * y.toNat) w (by omega) (by omega)
 rw [show ((x.toNat : Nat) : Int) = x by omega,show (((2 * y.toNat : Nat)) : Int) = 2 * y by omega] at h
 exact h
set_option maxHeartbeats 8000000 in
set_option maxRecDepth 100000 in
theorem rOut_any (g : GameD) (av tv : Value) (ms : List AddonM) (w : World) (rg : GameR w av tv ms g) :
  Calls Try.prog 10 #[gameVal g av tv] w (NatC (outV g).1 (outV g).2 w) := by
 have cK := hide (fun X (hX : Below w.heap.size w X) => rcheck_any g av tv ms X (rg.below hX))
 have hf := hide (fun (he : gameE g = 0) => mat_facts (game_mat he))
 have hol := hide (fun (he : gameE g = 0) => outN_limbs he)
 obtain ⟨aa,ac,rfl,hal,ham⟩ := rg.1.1.shape
 obtain ⟨ta,tc,rfl,htl,htm⟩ := rg.2.2.shape
 obtain ⟨an,han⟩ : ∃ an,an = ms.length := ⟨_,rfl⟩
 obtain ⟨tn,htn⟩ : ∃ tn,tn = g.tiers.length := ⟨_,rfl⟩
 rw [← han,← htn] at cK ⊢
 clear rg hal htl ham htm han htn
 obtain ⟨c,hc⟩ : ∃ c,c = gameE g := ⟨_,rfl⟩
 obtain ⟨P,hP⟩ : ∃ P,P = (outV g).1 := ⟨_,rfl⟩
 obtain ⟨C,hC⟩ : ∃ C,C = (outV g).2 := ⟨_,rfl⟩
 have ev1 : Hid (c = 0 → outN g = P ∧ C = 0) := fun h => by rw [hP,hC];unfold outV;rw [← hc,if_pos h];exact ⟨rfl,rfl⟩
 have ev2 : Hid (c ≠ 0 → P = 0 ∧ C = c) := fun h => by rw [hP,hC];unfold outV;rw [← hc,if_neg h];exact ⟨rfl,rfl⟩
 rw [← hc] at cK hf hol
 rw [← hP,← hC]
 clear hP hC hc
 unfold gameVal at cK ⊢
 go_enter Try.func10,Try.ntmps10
 go_upto_region 1 with (fail)
 obtain ⟨W,hW⟩ : ∃ W,W = (w.alloc (Obj.cells #[.string g.name,.int .i64 g.kind,.int .i64 g.price,.int .i64 g.main,.int .i64 g.of,.int .i64 g.bonus,.int .i64 g.bonusOf,.int .i64 g.extra,.int .i64 g.draws,.int .i64 g.system,.int .i64 g.days,.int .i64 g.at_,.int .i64 g.close,.int .i64 g.cancel,.int .i64 g.expiry,.int .i64 g.pool,.int .i64 g.reserve,.int .i64 g.round,.int .i64 g.cap,.int .i64 g.rolls,(.slice aa an ac),(.slice ta tn tc)] 25)).alloc (Obj.cells #[.slice none 0 0] 30) := ⟨_,rfl⟩
 have bW : Below w.heap.size w W := by rw [hW];exact Bel.al (Bel.al (Below.refl _ _) _) _
 have r0 : GameAt W w.heap.size g (.slice aa an ac) (.slice ta tn tc) := by rw [hW];exact Row.alloc (Row.new _ _ _) _
 have rR : Row W (w.heap.size + 1) 30 [.slice none 0 0] := by rw [hW];exact Row.at2 _ _ _ _
 rw [← hW]
 clear hW
 go_wp2_with (first | (refine wpList_load_row rfl 25 _ rfl _ rfl _ _ _ _ r0 Try.underlying25 rfl (by kernel_rfl) ?_) | fail)
 refine (cK.out _ bW).mono ?_
 rintro e w1 ⟨s,rfl,hb1⟩
 have bel := Bel.to bW hb1
 have r1 := r0.keep hb1
 replace rR := Row.keep rR hb1
 clear r0 hb1 cK
 by_cases h0 : c = 0
 ·have hf2 := hf.out h0
  have hol2 := hol.out h0
  obtain ⟨eP,hC0⟩ := ev1.out h0
  subst h0 hC0
  replace eP := hide eP
  clear hf hol ev1 ev2
  have ck := r1.kind
  by_cases hk : g.kind = 2
  ·have eo : g.of.toNat ^ (2 * g.main.toNat) = P := by rw [← eP.out];unfold outN;rw [if_pos hk]
   have cP := hide (fun X => rpow_int g.of g.main X (by omega) (by have := hf2.2.2.2.2.2.2.1 hk;omega) (by omega) (by omega))
   rw [eo] at cP
   have cm := r1.main
   have co := r1.of
   have wm : IntKind.i64.wrap (2 * g.main) = 2 * g.main := by rw [IntKind.wrap_i64];omega
   rw [hk] at ck
   replace hk := hide hk
   clear eo hf2 hol2
   go_wp2_with fail
   refine (cP.out _).mono ?_
   rintro e w2 ⟨u,rfl,hp,hb2⟩
   obtain ⟨pa,pn,pc,rfl⟩ := Rd.shape hp
   replace rR := Row.keep rR hb2
   replace bel := Bel.to bel hb2
   clear hb2 cP r1 ck cm co
   have cR := rR.cell? 0
   have fR := rR.frozen 0
   simp only [List.getElem?_cons_zero] at cR
   have hf := Rd.setNe hp cR (fun _ h => by cases h) (.slice pa pn pc)
   have belf := Bel.st bel (p := ⟨w.heap.size + 1,0,none⟩) (by simp only [];omega) (.slice pa pn pc)
   go_wp2
   exact bodyPost_ret (v := .tuple #[.agg #[(.slice pa pn pc)],.int .i64 0]) (by simp [results,Try.results10,go_sem,cR]) rfl ⟨_,rfl,hf,belf⟩
  ·have hk1 : (g.kind == 2) = false := by simpa using hk
   have hPv : Hid (prodL ([chP (g.of,g.main),chP (g.of - g.main,g.extra),chP (g.bonusOf,g.bonus)]) = P) := by show _ = _;rw [← eP.out];unfold outN;rw [if_neg hk]
   have wm : IntKind.i64.wrap (g.of - g.main) = g.of - g.main := by rw [IntKind.wrap_i64];omega
   have hlv : Hid (limS [chZ g.of g.main,chZ (g.of - g.main) g.extra,chZ g.bonusOf g.bonus] ≤ 63) := by
    have h1 := limS_le (l := [chZ g.of g.main,chZ (g.of - g.main) g.extra,chZ g.bonusOf g.bonus]) (c := 3) (fun x hx => by
     simp only [List.mem_cons,List.not_mem_nil,or_false] at hx
     rcases hx with rfl | rfl | rfl
     ·exact chZ_limbs _ _ (by omega)
     ·exact chZ_limbs _ _ (by omega)
     ·exact chZ_limbs _ _ (by omega))
    simp only [List.length_cons,List.length_nil] at h1
    show _ ≤ _
    omega
   have k1 : g.of ≤ 80 := by omega
   have k2 : g.of - g.main ≤ 80 := by omega
   have k3 : g.bonusOf ≤ 80 := by omega
   replace hk := hide hk
   clear hf2 hol2
   go_wp2
   refine till_begin 20 (fun X => GameAt X w.heap.size g (.slice aa an ac) (.slice ta tn tc)) (by kernel_rfl) (r1) (fun hHeld => ?_)
   obtain ⟨Y0,hY0⟩ : ∃ Y,Y = w1.drew := ⟨_,rfl⟩
   have hY1 : Below w1.heap.size w1 Y0 := by rw [hY0];exact Below.drew (Below.refl _ _)
   replace rR := Row.keep rR hY1
   replace bel := Bel.to bel hY1
   rw [← hY0] at hHeld ⊢
   clear hY0 hY1
   refine' till_pure (i := 0) (oi := _) (v := .pointer (some ⟨w.heap.size,4,none⟩)) rfl (by kernel_rfl) (by kernel_rfl) (by kernel_rfl) (by kernel_rfl) (fun _ _ _ h => h) (Or.inl ⟨by first | (go_simp;done) | rfl,fun X _ => by go_simp⟩) hHeld ?_
   try simp only [Act.put,zsA,zsB,zsC]
   refine' till_take (i := 1) (oi := _) (v := .int .i64 g.of) rfl (by kernel_rfl) (by kernel_rfl) (by kernel_rfl) (by kernel_rfl) (fun _ _ _ h => h) (Or.inl ⟨by first | (go_simp;done) | rfl,fun X hX => by have h0 := GameAt.of hX;go_simp⟩) hHeld ?_
   try simp only [Act.put,zsA,zsB,zsC]
   refine' till_pure (i := 2) (oi := _) (v := .pointer (some ⟨w.heap.size,3,none⟩)) rfl (by kernel_rfl) (by kernel_rfl) (by kernel_rfl) (by kernel_rfl) (fun _ _ _ h => h) (Or.inl ⟨by first | (go_simp;done) | rfl,fun X _ => by go_simp⟩) hHeld ?_
   try simp only [Act.put,zsA,zsB,zsC]
   refine' till_take (i := 3) (oi := _) (v := .int .i64 g.main) rfl (by kernel_rfl) (by kernel_rfl) (by kernel_rfl) (by kernel_rfl) (fun _ _ _ h => h) (Or.inl ⟨by first | (go_simp;done) | rfl,fun X hX => by have h0 := GameAt.main hX;go_simp⟩) hHeld ?_
   try simp only [Act.put,zsA,zsB,zsC]
   refine' till_pure (i := 5) (oi := _) (v := .pointer (some ⟨w.heap.size,4,none⟩)) rfl (by kernel_rfl) (by kernel_rfl) (by kernel_rfl) (by kernel_rfl) (fun _ _ _ h => h) (Or.inl ⟨by first | (go_simp;done) | rfl,fun X _ => by go_simp⟩) hHeld ?_
   try simp only [Act.put,zsA,zsB,zsC]
   refine' till_take (i := 6) (oi := _) (v := .int .i64 g.of) rfl (by kernel_rfl) (by kernel_rfl) (by kernel_rfl) (by kernel_rfl) (fun _ _ _ h => h) (Or.inl ⟨by first | (go_simp;done) | rfl,fun X hX => by have h0 := GameAt.of hX;go_simp⟩) hHeld ?_
   try simp only [Act.put,zsA,zsB,zsC]
   refine' till_pure (i := 7) (oi := _) (v := .pointer (some ⟨w.heap.size,3,none⟩)) rfl (by kernel_rfl) (by kernel_rfl) (by kernel_rfl) (by kernel_rfl) (fun _ _ _ h => h) (Or.inl ⟨by first | (go_simp;done) | rfl,fun X _ => by go_simp⟩) hHeld ?_
   try simp only [Act.put,zsA,zsB,zsC]
   refine' till_take (i := 8) (oi := _) (v := .int .i64 g.main) rfl (by kernel_rfl) (by kernel_rfl) (by kernel_rfl) (by kernel_rfl) (fun _ _ _ h => h) (Or.inl ⟨by first | (go_simp;done) | rfl,fun X hX => by have h0 := GameAt.main hX;go_simp⟩) hHeld ?_
   try simp only [Act.put,zsA,zsB,zsC]
   refine' till_pure (i := 9) (oi := _) (v := .int .i64 (g.of - g.main)) rfl (by kernel_rfl) (by kernel_rfl) (by kernel_rfl) (by kernel_rfl) (fun _ _ _ h => h) (Or.inl ⟨by first | (go_simp;done) | rfl,fun X _ => by go_simp⟩) hHeld ?_
   try simp only [Act.put,zsA,zsB,zsC]
   refine' till_pure (i := 10) (oi := _) (v := .pointer (some ⟨w.heap.size,7,none⟩)) rfl (by kernel_rfl) (by kernel_rfl) (by kernel_rfl) (by kernel_rfl) (fun _ _ _ h => h) (Or.inl ⟨by first | (go_simp;done) | rfl,fun X _ => by go_simp⟩) hHeld ?_
   try simp only [Act.put,zsA,zsB,zsC]
   refine' till_take (i := 11) (oi := _) (v := .int .i64 g.extra) rfl (by kernel_rfl) (by kernel_rfl) (by kernel_rfl) (by kernel_rfl) (fun _ _ _ h => h) (Or.inl ⟨by first | (go_simp;done) | rfl,fun X hX => by have h0 := GameAt.extra hX;go_simp⟩) hHeld ?_
   try simp only [Act.put,zsA,zsB,zsC]
   refine' till_pure (i := 13) (oi := _) (v := .pointer (some ⟨w.heap.size,6,none⟩)) rfl (by kernel_rfl) (by kernel_rfl) (by kernel_rfl) (by kernel_rfl) (fun _ _ _ h => h) (Or.inl ⟨by first | (go_simp;done) | rfl,fun X _ => by go_simp⟩) hHeld ?_
   try simp only [Act.put,zsA,zsB,zsC]
   refine' till_take (i := 14) (oi := _) (v := .int .i64 g.bonusOf) rfl (by kernel_rfl) (by kernel_rfl) (by kernel_rfl) (by kernel_rfl) (fun _ _ _ h => h) (Or.inl ⟨by first | (go_simp;done) | rfl,fun X hX => by have h0 := GameAt.bonusOf hX;go_simp⟩) hHeld ?_
   try simp only [Act.put,zsA,zsB,zsC]
   refine' till_pure (i := 15) (oi := _) (v := .pointer (some ⟨w.heap.size,5,none⟩)) rfl (by kernel_rfl) (by kernel_rfl) (by kernel_rfl) (by kernel_rfl) (fun _ _ _ h => h) (Or.inl ⟨by first | (go_simp;done) | rfl,fun X _ => by go_simp⟩) hHeld ?_
   try simp only [Act.put,zsA,zsB,zsC]
   refine' till_take (i := 16) (oi := _) (v := .int .i64 g.bonus) rfl (by kernel_rfl) (by kernel_rfl) (by kernel_rfl) (by kernel_rfl) (fun _ _ _ h => h) (Or.inl ⟨by first | (go_simp;done) | rfl,fun X hX => by have h0 := GameAt.bonus hX;go_simp⟩) hHeld ?_
   try simp only [Act.put,zsA,zsB,zsC]
   refine till_ready (rs := [4]) (by kernel_rfl) (by simp) ?_
   refine TillReady.cons (o := _) rfl (fun K hK => ?_) TillReady.nil
   go_simp
   refine (rochoose_any g.of g.main Y0 (by omega)).mono ?_
   rintro e w21 ⟨f,rfl,h21,hb21⟩
   obtain ⟨a21,l21,c21,rfl⟩ := Rd.shape h21
   replace rR := Row.keep rR hb21
   replace bel := Bel.to bel hb21
   go_wp2_with fail
   refine hK.out _ _ (GameAt.keep hHeld hb21) (fun hHeld => ?_)
   clear hK K hb21
   try simp only [Act.put,zsA,zsB,zsC]
   refine till_ready (rs := [12]) (by kernel_rfl) (by simp) ?_
   refine TillReady.cons (o := _) rfl (fun K hK => ?_) TillReady.nil
   go_simp
   refine (rochoose_any (g.of - g.main) g.extra w21 (by omega)).mono ?_
   rintro e w22 ⟨f,rfl,h22,hb22⟩
   obtain ⟨a22,l22,c22,rfl⟩ := Rd.shape h22
   replace rR := Row.keep rR hb22
   replace bel := Bel.to bel hb22
   replace h21 := Rd.below h21 hb22
   go_wp2_with fail
   refine hK.out _ _ (GameAt.keep hHeld hb22) (fun hHeld => ?_)
   clear hK K hb22
   try simp only [Act.put,zsA,zsB,zsC]
   refine till_ready (rs := [17]) (by kernel_rfl) (by simp) ?_
   refine TillReady.cons (o := _) rfl (fun K hK => ?_) TillReady.nil
   go_simp
   refine (rochoose_any g.bonusOf g.bonus w22 (by omega)).mono ?_
   rintro e w23 ⟨f,rfl,h23,hb23⟩
   obtain ⟨a23,l23,c23,rfl⟩ := Rd.shape h23
   replace rR := Row.keep rR hb23
   replace bel := Bel.to bel hb23
   replace h21 := Rd.below h21 hb23
   replace h22 := Rd.below h22 hb23
   go_wp2_with fail
   refine hK.out _ _ (GameAt.keep hHeld hb23) (fun hHeld => ?_)
   clear hK K hb23
   try simp only [Act.put,zsA,zsB,zsC]
   refine till_ready (rs := [18]) (by kernel_rfl) (by simp) ?_
   refine TillReady.cons (o := _) rfl (fun K hK => ?_) TillReady.nil
   go_simp
   obtain ⟨w24,hw24⟩ : ∃ X,X = w23.alloc (.cells #[.slice a21 l21 c21,.slice a22 l22 c22,.slice a23 l23 c23] 30) := ⟨_,rfl⟩
   have b24 : Below w23.heap.size w23 w24 := by rw [hw24];exact Bel.al (Below.refl _ _) _
   have r24 : Row w24 w23.heap.size 30 ([(.slice a21 l21 c21,chZ g.of g.main),(.slice a22 l22 c22,chZ (g.of - g.main) g.extra),(.slice a23 l23 c23,chZ g.bonusOf g.bonus)].map (fun p : NatM => p.1)) := by rw [hw24];exact Row.newOf _ rfl
   rw [← hw24]
   clear hw24
   replace rR := Row.keep rR b24
   replace bel := Bel.to bel b24
   replace h21 := Rd.below h21 b24
   replace h22 := Rd.below h22 b24
   replace h23 := Rd.below h23 b24
   have hN24 := Row.nats (n := 3) r24 rfl (by decide) (fun p hp => by
    simp only [List.mem_cons,List.not_mem_nil,or_false] at hp
    rcases hp with rfl | rfl | rfl
    ·exact h21
    ·exact h22
    ·exact h23)
   refine hK.out _ _ (GameAt.keep hHeld b24) (fun hHeld => ?_)
   clear hK K b24
   try simp only [Act.put,zsA,zsB,zsC]
   have cPr := hide (rprod_any _ [(.slice a21 l21 c21,chZ g.of g.main),(.slice a22 l22 c22,chZ (g.of - g.main) g.extra),(.slice a23 l23 c23,chZ g.bonusOf g.bonus)] w24 hN24 hlv.out (by simp))
   rw [show prodL ([(.slice a21 l21 c21,chZ g.of g.main),(.slice a22 l22 c22,chZ (g.of - g.main) g.extra),(.slice a23 l23 c23,chZ g.bonusOf g.bonus)].map (fun p : NatM => p.2)) = P from hPv.out] at cPr
   refine till_ready (rs := [19]) (by kernel_rfl) (by simp) ?_
   refine TillReady.cons (o := _) rfl (fun K hK => ?_) TillReady.nil
   go_simp
   refine cPr.out.mono ?_
   rintro e w25 ⟨u,rfl,hp,hb25⟩
   obtain ⟨pa,pn,pc,rfl⟩ := Rd.shape hp
   replace rR := Row.keep rR hb25
   replace bel := Bel.to bel hb25
   go_wp2_with fail
   refine hK.out _ _ (GameAt.keep hHeld hb25) (fun hHeld => ?_)
   clear hK K hb25 cPr hN24 r24 h21 h22 h23
   try simp only [Act.put,zsA,zsB,zsC]
   have cR := rR.cell? 0
   have fR := rR.frozen 0
   simp only [List.getElem?_cons_zero] at cR
   refine till_ready (rs := [20]) (by kernel_rfl) (by simp) ?_
   refine TillReady.last (o := _) rfl (by kernel_rfl) (fun K hK => ?_) TillReady.nil
   go_simp
   refine hK.out _ _ ?_
   clear hK K
   try simp only [Act.put,zsA,zsB,zsC]
   refine' till_late (i := 21) (oi := _) (v := .int .i64 0) rfl (by kernel_rfl) (by kernel_rfl) (Or.inl ⟨by first | (go_simp;done) | rfl,fun X _ => by go_simp⟩) ?_
   try simp only [Act.put,zsA,zsB,zsC]
   refine till_done (by kernel_rfl) ?_ _
   go_simp
   have hf := Rd.setNe hp cR (fun _ h => by cases h) (.slice pa pn pc)
   have belf := Bel.st bel (p := ⟨w.heap.size + 1,0,none⟩) (by simp only [];omega) (.slice pa pn pc)
   go_wp2
   exact bodyPost_ret (v := .tuple #[.agg #[(.slice pa pn pc)],.int .i64 0]) (by simp [results,Try.results10,go_sem,cR]) rfl ⟨_,rfl,hf,belf⟩
 ·obtain ⟨rfl,rfl⟩ := ev2.out h0
  have hcb : (C != 0) = true := by simpa using h0
  have hp : NV w1 (.slice none 0 0) 0 := NV.zero _
  replace h0 := hide h0
  clear ev1 ev2 hf hol
  have cR := rR.cell? 0
  have fR := rR.frozen 0
  simp only [List.getElem?_cons_zero] at cR
  have hf := Rd.setNe hp cR (fun _ h => by cases h) (.slice none 0 0)
  have belf := Bel.st bel (p := ⟨w.heap.size + 1,0,none⟩) (by simp only [];omega) (.slice none 0 0)
  go_wp2
  exact bodyPost_ret (v := .tuple #[.agg #[(.slice none 0 0)],.int .i64 C]) (by simp [results,Try.results10,go_sem,cR]) rfl ⟨_,rfl,hf,belf⟩
end Go.Proofs.Ytldikghldcefcaa
end

/- Lemmas, merged out of smaller texts (wip/tools/mergedce.py). No condition. -/
import Derived.Test.YtldikghldcefcaaGreatHC
import Derived.Test.YtldikghldcefcaaGreatHE
import Derived.Test.YtldikghldcefcaaGreatHD
import Derived.Test.YtldikghldcefcaaGreatHB
import Derived.Test.YtldikghldcefcaaGreatHF
section
set_option linter.unusedVariables false
set_option linter.unusedSimpArgs false
namespace Go.Proofs.YtldikghldcefcaaGreat
open Go.RowKit
set_option maxHeartbeats 4000000 in
set_option maxRecDepth 100000 in
theorem rprod_any (v : Value) (ps : List NatM) (w : World) (h : NatsR w v ps) (hl : limS (ps.map (·.2)) ≤ 63) (hn : ps.length ≤ 1000) :
  Calls Tryz.prog 42 #[v] w (SomeNat (prodL (ps.map (·.2))) w) := by
 obtain ⟨aa,ca,rfl,hlc,hcm⟩ := RdS.shape h.1
 have hR0 : Row (w.alloc (.cells #[.slice none 0 0] 30)) w.heap.size 30 [.slice none 0 0] := Row.newOf _ rfl
 have hh := hide h
 obtain ⟨n,hnn⟩ : ∃ n,n = ps.length := ⟨_,rfl⟩
 rw [← hnn] at hn ⊢
 have hnn2 := hide hnn
 clear h hlc hcm hnn
 go_enter Tryz.func42,Tryz.ntmps42
 go_wp2_with fail
 refine (ref_of_int 1 _ (by omega) (by omega)).mono ?_
 rintro e w1 ⟨u,rfl,hu,hb1⟩
 obtain ⟨ua,ul,uc,rfl⟩ := Rd.shape hu
 have rR := Row.keep hR0 hb1
 have bel := Bel.one _ hb1
 clear hR0 hb1
 go_upto_region 2 with (fail)
 obtain ⟨b4,hb4⟩ : ∃ b4,b4 = w1.heap.size := ⟨_,rfl⟩
 obtain ⟨w2,hw2⟩ : ∃ X,X = w1.alloc (.cells #[.slice ua ul uc] 30) := ⟨_,rfl⟩
 have b2 : Below w1.heap.size w1 w2 := by rw [hw2];exact Bel.al (Below.refl _ _) _
 have rP : Row w2 b4 30 [.slice ua ul uc] := by rw [hw2,hb4];exact Row.newOf _ rfl
 have h40 : w.heap.size < b4 := by have := rR.lt;omega
 rw [← hw2,← hb4]
 clear hw2 hb4
 replace rR := Row.keep rR b2
 replace bel := Bel.to bel b2
 replace hu := Rd.below hu b2
 clear b2
 go_wp2
 go_loopw [4] (fun ti wr => ∃ (i : Nat) (pa : Option Addr) (pn pc : Nat),i ≤ n ∧ ti = .int .i64 (i : Int) ∧ Row wr b4 30 [.slice pa pn pc] ∧ NV wr (.slice pa pn pc) (prodL ((ps.map (·.2)).take i)) ∧ Row wr w.heap.size 30 [.slice none 0 0] ∧ Below w.heap.size w wr) (fun ti _ => n - (intOf ti).toNat)
 case atStart => exact ⟨0,ua,ul,uc,Nat.zero_le _,rfl,rP,hu,rR,bel⟩
 case round =>
  clear rP hu rR bel
  obtain ⟨i,pa,pn,pc,hi,rfl,rP,hp,rR,bel⟩ := hrel
  have c4 := rP.cell? 0
  simp only [List.getElem?_cons_zero] at c4
  by_cases hin : i < n
  ·have hil : i < ps.length := by have := hnn2.out;omega
   obtain ⟨b,off,rfl,hbb,hcell⟩ := hh.out.1.at_ hil
   obtain ⟨m,hm⟩ : ∃ m,m = ps[i] := ⟨_,rfl⟩
   have hmi : ps[i]? = some m := by rw [hm];exact List.getElem?_eq_getElem hil
   have hmem : m ∈ ps := by rw [hm];exact List.getElem_mem _
   have e1 : wr.cell? ⟨b,off + i,none⟩ = some m.1 := by
    have h1 := hcell i m hmi 0 m.1 rfl
    rw [Nat.mul_one,Nat.add_zero] at h1
    exact Bel.cellOf bel h1
   have hmv := Rd.below (hh.out.2 m hmem) bel
   have hml : (limbs m.2).length ≤ 64 := by have := limS_mem (List.mem_map_of_mem (f := (·.2)) hmem);omega
   have hpl : (limbs (prodL ((ps.map (·.2)).take i))).length ≤ 64 := by have := limS_pre (ps.map (·.2)) i;omega
   have hpl2 := limS_pre (ps.map (·.2)) (i + 1)
   have hst : Hid (prodL ((ps.map (·.2)).take (i + 1)) = prodL ((ps.map (·.2)).take i) * m.2) := by
    show _ = _
    rw [prodL_take _ _ (by rw [List.length_map];exact hil),List.getElem_map,hm]
   have hpd : (digs (prodL ((ps.map (·.2)).take i) * m.2)).length ≤ 128 := by rw [← hst.out];exact digs_limbs_len (k := 64) (by omega)
   obtain ⟨q,hq⟩ : ∃ q,q = prodL ((ps.map (·.2)).take i) := ⟨_,rfl⟩
   rw [← hq] at hp hpl hst hpd
   clear hq hcell hmi hmem hm hpl2
   obtain ⟨mv,mn⟩ := m
   simp only [] at e1 hmv hml hst hpd
   obtain ⟨ma,ml,mc,rfl⟩ := Rd.shape hmv
   have i2 : (i : Int) < (n : Int) := by omega
   have i3 : (n : Int) ≤ 1000 := by omega
   have i0 : (0 : Int) ≤ (i : Int) := by omega
   go_wp2
   refine till_begin 9 (fun X => X.cell? ⟨b4,0,none⟩ = some (.slice pa pn pc) ∧ X.cell? ⟨b,off + i,none⟩ = some (.slice ma ml mc)) (by kernel_rfl) (⟨c4,e1⟩) (fun hHeld => ?_)
   refine' till_take (i := 0) (oi := _) (v := .agg #[.slice pa pn pc]) rfl (by kernel_rfl) (by kernel_rfl) (by kernel_rfl) (by kernel_rfl) (fun _ _ _ h => h) (Or.inl ⟨by first | (go_simp;done) | rfl,fun X hX => by have h0 := hX.1;go_simp⟩) hHeld ?_
   try simp only [Act.put,zsA,zsB,zsC]
   refine' till_pure (i := 1) (oi := _) (v := .slice (some ⟨b,off,none⟩) n ca) rfl (by kernel_rfl) (by kernel_rfl) (by kernel_rfl) (by kernel_rfl) (fun _ _ _ h => h) (Or.inl ⟨by first | (go_simp;done) | rfl,fun X _ => by go_simp⟩) hHeld ?_
   try simp only [Act.put,zsA,zsB,zsC]
   refine' till_pure (i := 2) (oi := _) (v := .int .i64 (i : Int)) rfl (by kernel_rfl) (by kernel_rfl) (by kernel_rfl) (by kernel_rfl) (fun _ _ _ h => h) (Or.inl ⟨by first | (go_simp;done) | rfl,fun X _ => by go_simp⟩) hHeld ?_
   try simp only [Act.put,zsA,zsB,zsC]
   refine' till_pure (i := 3) (oi := _) (v := .pointer (some ⟨b,(off + i),none⟩)) rfl (by kernel_rfl) (by kernel_rfl) (by kernel_rfl) (by kernel_rfl) (fun _ _ _ h => h) (Or.inl ⟨by first | (go_simp;done) | rfl,fun X _ => by go_simp⟩) hHeld ?_
   try simp only [Act.put,zsA,zsB,zsC]
   refine' till_take (i := 4) (oi := _) (v := .agg #[.slice ma ml mc]) rfl (by kernel_rfl) (by kernel_rfl) (by kernel_rfl) (by kernel_rfl) (fun _ _ _ h => h) (Or.inl ⟨by first | (go_simp;done) | rfl,fun X hX => by have h0 := hX.2;go_simp⟩) hHeld ?_
   try simp only [Act.put,zsA,zsB,zsC]
   obtain ⟨Y0,hY0⟩ : ∃ Y,Y = wr.drew := ⟨_,rfl⟩
   have hY1 : Below wr.heap.size wr Y0 := by rw [hY0];exact Below.drew (Below.refl _ _)
   replace rP := Row.keep rP hY1
   replace hp := Rd.below hp hY1
   replace rR := Row.keep rR hY1
   replace bel := Bel.to bel hY1
   replace hmv := Rd.below hmv hY1
   rw [← hY0] at hHeld ⊢
   clear hY0 hY1 c4 e1
   have cM := hide (rmul_nat _ _ q mn Y0 hp hmv hpl hml hpd)
   rw [← hst.out] at cM
   refine till_ready (rs := [5]) (by kernel_rfl) (by simp) ?_
   refine TillReady.cons (o := _) rfl (fun K hK => ?_) TillReady.nil
   go_simp
   refine (cM.out).mono ?_
   rintro e w22 ⟨u,rfl,hu,hb22⟩
   obtain ⟨ua,ul,uc,rfl⟩ := Rd.shape hu
   replace rP := Row.keep rP hb22
   replace rR := Row.keep rR hb22
   replace bel := Bel.to bel hb22
   go_wp2_with fail
   refine hK.out _ _ (⟨Bel.cellOf hb22 hHeld.1,Bel.cellOf hb22 hHeld.2⟩) (fun hHeld => ?_)
   clear hK K hb22
   try simp only [Act.put,zsA,zsB,zsC]
   clear cM hmv hp
   refine' till_pure (i := 6) (oi := _) (v := .tuple #[.agg #[.slice ua ul uc],.int .i64 0]) rfl (by kernel_rfl) (by kernel_rfl) (by kernel_rfl) (by kernel_rfl) (fun _ _ _ h => h) (Or.inl ⟨by first | (go_simp;done) | rfl,fun X _ => by go_simp⟩) hHeld ?_
   try simp only [Act.put,zsA,zsB,zsC]
   refine' till_pure (i := 7) (oi := _) (v := .agg #[.slice ua ul uc]) rfl (by kernel_rfl) (by kernel_rfl) (by kernel_rfl) (by kernel_rfl) (fun _ _ _ h => h) (Or.inl ⟨by first | (go_simp;done) | rfl,fun X _ => by go_simp⟩) hHeld ?_
   try simp only [Act.put,zsA,zsB,zsC]
   refine' till_pure (i := 8) (oi := _) (v := .int .i64 0) rfl (by kernel_rfl) (by kernel_rfl) (by kernel_rfl) (by kernel_rfl) (fun _ _ _ h => h) (Or.inl ⟨by first | (go_simp;done) | rfl,fun X _ => by go_simp⟩) hHeld ?_
   try simp only [Act.put,zsA,zsB,zsC]
   have cb9 := rP.cell? 0
   have fb9 := rP.frozen 0
   simp only [List.getElem?_cons_zero] at cb9
   refine till_ready (rs := [9]) (by kernel_rfl) (by simp) ?_
   refine TillReady.last (o := _) rfl (by kernel_rfl) (fun K hK => ?_) TillReady.nil
   go_simp
   refine hK.out _ _ ?_
   clear hK K
   try simp only [Act.put,zsA,zsB,zsC]
   refine till_done (by kernel_rfl) ?_ _
   go_simp
   obtain ⟨w23,hw23⟩ : ∃ X,X = w22.setCell ⟨b4,0,none⟩ (.slice ua ul uc) := ⟨_,rfl⟩
   have rP2 : Row w23 b4 30 [.slice ua ul uc] := by rw [hw23];exact Row.set rP 0 _
   have hu2 := Rd.setNe hu cb9 (fun _ h => by cases h) (.slice ua ul uc)
   rw [← hw23] at hu2
   have rR2 := Row.far rR (p := ⟨b4,0,none⟩) (by simp only [];omega) (.slice ua ul uc)
   rw [← hw23] at rR2
   have bel2 := Bel.st bel (p := ⟨b4,0,none⟩) (by simp only [];omega) (.slice ua ul uc)
   rw [← hw23] at bel2
   (try rw [← hw23])
   clear hw23 cb9 fb9 rP hu rR bel
   go_wp2
   go_roundw
   case rel => exact ⟨i + 1,ua,ul,uc,by omega,by go_num,rP2,hu2,rR2,bel2⟩
   case measure => simp [intOf];omega
  ·obtain rfl : i = n := by omega
   rw [List.take_of_length_le (by rw [List.length_map,← hnn2.out];exact Nat.le_refl _)] at hp
   have cR := rR.cell? 0
   have fR := rR.frozen 0
   simp only [List.getElem?_cons_zero] at cR
   have hf := Rd.setNe hp cR (fun _ h => by cases h) (.slice pa pn pc)
   have belf := Bel.st bel (p := ⟨w.heap.size,0,none⟩) (Nat.le_refl _) (.slice pa pn pc)
   go_wp2
   exact bodyPost_ret (v := .agg #[(.slice pa pn pc)]) (by simp [results,Tryz.results42,go_sem,cR]) rfl ⟨_,rfl,hf,belf⟩
set_option maxHeartbeats 4000000 in
set_option maxRecDepth 100000 in
theorem rpow_any (d n : Nat) (w : World) (hd : d < 4294967296) (hn : n ≤ 60) :
  Calls Tryz.prog 69 #[.int .i64 (d : Int),.int .i64 (n : Int)] w (SomeNat (d ^ n) w) := by
 have hR0 : Row (w.alloc (.cells #[.slice none 0 0] 30)) w.heap.size 30 [.slice none 0 0] := Row.newOf _ rfl
 have hl1 : (limbs d).length ≤ 1 := length_limbs_lt.1 (by rw [Nat.pow_one];exact hd)
 have hlp : Hid (∀ i,i ≤ n → (limbs (d ^ i)).length ≤ 61) := by
  intro i hi
  have h1 := limS_prod (List.replicate i d)
  have h2 := limS_le (l := List.replicate i d) (c := 1) (fun x hx => by rw [(List.mem_replicate.1 hx).2];exact hl1)
  rw [List.length_replicate] at h2
  rw [prodL_replicate] at h1
  omega
 go_enter Tryz.func69,Tryz.ntmps69
 go_wp2_with fail
 refine (ref_of_int 1 _ (by omega) (by omega)).mono ?_
 rintro e w1 ⟨u,rfl,hu,hb1⟩
 obtain ⟨ua,ul,uc,rfl⟩ := Rd.shape hu
 have rR := Row.keep hR0 hb1
 have bel := Bel.one _ hb1
 clear hR0 hb1
 go_upto_region 2 with (fail)
 obtain ⟨b4,hb4⟩ : ∃ b4,b4 = w1.heap.size := ⟨_,rfl⟩
 obtain ⟨w2,hw2⟩ : ∃ X,X = w1.alloc (.cells #[.slice ua ul uc] 30) := ⟨_,rfl⟩
 have b2 : Below w1.heap.size w1 w2 := by rw [hw2];exact Bel.al (Below.refl _ _) _
 have rP : Row w2 b4 30 [.slice ua ul uc] := by rw [hw2,hb4];exact Row.newOf _ rfl
 have h40 : w.heap.size < b4 := by have := rR.lt;omega
 rw [← hw2,← hb4]
 clear hw2 hb4
 replace rR := Row.keep rR b2
 replace bel := Bel.to bel b2
 replace hu := Rd.below hu b2
 clear b2
 go_wp2
 go_loopw [6] (fun ti wr => ∃ (i : Nat) (pa : Option Addr) (pn pc : Nat),i ≤ n ∧ ti = .int .i64 (i : Int) ∧ Row wr b4 30 [.slice pa pn pc] ∧ NV wr (.slice pa pn pc) (d ^ i) ∧ Row wr w.heap.size 30 [.slice none 0 0] ∧ Below w.heap.size w wr) (fun ti _ => n - (intOf ti).toNat)
 case atStart => exact ⟨0,ua,ul,uc,Nat.zero_le _,rfl,rP,by rw [Nat.pow_zero];exact hu,rR,bel⟩
 case round =>
  clear rP hu rR bel
  obtain ⟨i,pa,pn,pc,hi,rfl,rP,hp,rR,bel⟩ := hrel
  have c4 := rP.cell? 0
  simp only [List.getElem?_cons_zero] at c4
  by_cases hin : i < n
  ·have hpl : (limbs (d ^ i)).length ≤ 64 := by have := hlp.out i hi;omega
   have hml : (limbs d).length ≤ 64 := by omega
   have hpd : (digs (d ^ i * d)).length ≤ 128 := by
    rw [← Nat.pow_succ]
    exact digs_limbs_len (k := 64) (by have := hlp.out (i + 1) (by omega);exact Nat.le_trans this (by omega))
   have i2 : (i : Int) < (n : Int) := by omega
   have i3 : (n : Int) ≤ 60 := by omega
   have wd : IntKind.u64.wrap (d : Int) = (d : Int) := by rw [IntKind.wrap_u64];omega
   go_wp2
   refine till_begin 8 (fun X => X.cell? ⟨b4,0,none⟩ = some (.slice pa pn pc)) (by kernel_rfl) (c4) (fun hHeld => ?_)
   refine' till_take (i := 0) (oi := _) (v := .agg #[.slice pa pn pc]) rfl (by kernel_rfl) (by kernel_rfl) (by kernel_rfl) (by kernel_rfl) (fun _ _ _ h => h) (Or.inl ⟨by first | (go_simp;done) | rfl,fun X hX => by have h0 := hX;go_simp⟩) hHeld ?_
   try simp only [Act.put,zsA,zsB,zsC]
   refine' till_pure (i := 1) (oi := _) (v := .int .i64 (d : Int)) rfl (by kernel_rfl) (by kernel_rfl) (by kernel_rfl) (by kernel_rfl) (fun _ _ _ h => h) (Or.inl ⟨by first | (go_simp;done) | rfl,fun X _ => by go_simp⟩) hHeld ?_
   try simp only [Act.put,zsA,zsB,zsC]
   refine' till_pure (i := 2) (oi := _) (v := .int .u64 (d : Int)) rfl (by kernel_rfl) (by kernel_rfl) (by kernel_rfl) (by kernel_rfl) (fun _ _ _ h => h) (Or.inl ⟨by first | (go_simp;done) | rfl,fun X _ => by go_simp⟩) hHeld ?_
   try simp only [Act.put,zsA,zsB,zsC]
   obtain ⟨Y0,hY0⟩ : ∃ Y,Y = wr.drew := ⟨_,rfl⟩
   have hY1 : Below wr.heap.size wr Y0 := by rw [hY0];exact Below.drew (Below.refl _ _)
   replace rP := Row.keep rP hY1
   replace hp := Rd.below hp hY1
   replace rR := Row.keep rR hY1
   replace bel := Bel.to bel hY1
   rw [← hY0] at hHeld ⊢
   clear hY0 hY1 c4
   refine till_ready (rs := [3]) (by kernel_rfl) (by simp) ?_
   refine TillReady.cons (o := _) rfl (fun K hK => ?_) TillReady.nil
   go_simp
   refine (ref_of_int (d : Int) Y0 (by omega) (by omega)).mono ?_
   rintro e w20 ⟨f,rfl,hf,hb20⟩
   rw [Int.toNat_natCast] at hf
   obtain ⟨fa,fl,fc,rfl⟩ := Rd.shape hf
   replace rP := Row.keep rP hb20
   replace hp := Rd.below hp hb20
   replace rR := Row.keep rR hb20
   replace bel := Bel.to bel hb20
   go_wp2_with fail
   refine hK.out _ _ (Bel.cellOf hb20 hHeld) (fun hHeld => ?_)
   clear hK K hb20
   try simp only [Act.put,zsA,zsB,zsC]
   have cM := hide (rmul_nat _ _ (d ^ i) d w20 hp hf hpl hml hpd)
   rw [← Nat.pow_succ] at cM
   refine till_ready (rs := [4]) (by kernel_rfl) (by simp) ?_
   refine TillReady.cons (o := _) rfl (fun K hK => ?_) TillReady.nil
   go_simp
   refine (cM.out).mono ?_
   rintro e w22 ⟨u,rfl,hu,hb22⟩
   obtain ⟨ua,ul,uc,rfl⟩ := Rd.shape hu
   replace rP := Row.keep rP hb22
   replace rR := Row.keep rR hb22
   replace bel := Bel.to bel hb22
   go_wp2_with fail
   refine hK.out _ _ (Bel.cellOf hb22 hHeld) (fun hHeld => ?_)
   clear hK K hb22
   try simp only [Act.put,zsA,zsB,zsC]
   clear cM hf hp
   refine' till_pure (i := 5) (oi := _) (v := .tuple #[.agg #[.slice ua ul uc],.int .i64 0]) rfl (by kernel_rfl) (by kernel_rfl) (by kernel_rfl) (by kernel_rfl) (fun _ _ _ h => h) (Or.inl ⟨by first | (go_simp;done) | rfl,fun X _ => by go_simp⟩) hHeld ?_
   try simp only [Act.put,zsA,zsB,zsC]
   refine' till_pure (i := 6) (oi := _) (v := .agg #[.slice ua ul uc]) rfl (by kernel_rfl) (by kernel_rfl) (by kernel_rfl) (by kernel_rfl) (fun _ _ _ h => h) (Or.inl ⟨by first | (go_simp;done) | rfl,fun X _ => by go_simp⟩) hHeld ?_
   try simp only [Act.put,zsA,zsB,zsC]
   refine' till_pure (i := 7) (oi := _) (v := .int .i64 0) rfl (by kernel_rfl) (by kernel_rfl) (by kernel_rfl) (by kernel_rfl) (fun _ _ _ h => h) (Or.inl ⟨by first | (go_simp;done) | rfl,fun X _ => by go_simp⟩) hHeld ?_
   try simp only [Act.put,zsA,zsB,zsC]
   have cb9 := rP.cell? 0
   have fb9 := rP.frozen 0
   simp only [List.getElem?_cons_zero] at cb9
   refine till_ready (rs := [8]) (by kernel_rfl) (by simp) ?_
   refine TillReady.last (o := _) rfl (by kernel_rfl) (fun K hK => ?_) TillReady.nil
   go_simp
   refine hK.out _ _ ?_
   clear hK K
   try simp only [Act.put,zsA,zsB,zsC]
   refine till_done (by kernel_rfl) ?_ _
   go_simp
   obtain ⟨w23,hw23⟩ : ∃ X,X = w22.setCell ⟨b4,0,none⟩ (.slice ua ul uc) := ⟨_,rfl⟩
   have rP2 : Row w23 b4 30 [.slice ua ul uc] := by rw [hw23];exact Row.set rP 0 _
   have hu2 := Rd.setNe hu cb9 (fun _ h => by cases h) (.slice ua ul uc)
   rw [← hw23] at hu2
   have rR2 := Row.far rR (p := ⟨b4,0,none⟩) (by simp only [];omega) (.slice ua ul uc)
   rw [← hw23] at rR2
   have bel2 := Bel.st bel (p := ⟨b4,0,none⟩) (by simp only [];omega) (.slice ua ul uc)
   rw [← hw23] at bel2
   (try rw [← hw23])
   clear hw23 cb9 fb9 rP hu rR bel
   go_wp2
   go_roundw
   case rel => exact ⟨i + 1,ua,ul,uc,by omega,by go_num,rP2,hu2,rR2,bel2⟩
   case measure => simp [intOf];omega
  ·obtain rfl : i = n := by omega
   have cR := rR.cell? 0
   have fR := rR.frozen 0
   simp only [List.getElem?_cons_zero] at cR
   have hf := Rd.setNe hp cR (fun _ h => by cases h) (.slice pa pn pc)
   have belf := Bel.st bel (p := ⟨w.heap.size,0,none⟩) (Nat.le_refl _) (.slice pa pn pc)
   go_wp2
   exact bodyPost_ret (v := .agg #[(.slice pa pn pc)]) (by simp [results,Tryz.results69,go_sem,cR]) rfl ⟨_,rfl,hf,belf⟩
set_option maxHeartbeats 4000000 in
set_option maxRecDepth 100000 in
theorem rochoose_any (n k : Int) (w : World) (hn : n ≤ 80) :
  Calls Tryz.prog 78 #[.int .i64 n,.int .i64 k] w (SomeNat (chZ n k) w) := by
 have hR0 : Row (w.alloc (.cells #[.slice none 0 0] 30)) w.heap.size 30 [.slice none 0 0] := Row.newOf _ rfl
 by_cases h0 : n < 0
 ·have e : chZ n k = 0 := by unfold chZ;rw [if_pos h0]
  rw [e]
  clear e
  go_enter Tryz.func78,Tryz.ntmps78
  go_wp2
  refine bodyPost_ret (v := .agg #[.slice none 0 0]) (by simp [results,Tryz.results78,go_sem]) rfl ⟨_,rfl,NV.zero _,?_⟩
  first | exact Bel.al (Below.refl _ _) _ | exact Bel.st (Bel.al (Below.refl _ _) _) (Nat.le_refl _) _
 ·have e : chZ n k = chooseI n k := by unfold chZ;rw [if_neg h0]
  rw [e]
  clear e
  have cC := hide (fun X => rchoose_any n k X)
  have ev : chooseV n k = (chooseI n k,0) := by unfold chooseV;rw [if_pos ⟨by omega,hn⟩]
  rw [ev] at cC
  clear ev
  go_enter Tryz.func78,Tryz.ntmps78
  go_wp2_with fail
  refine (cC.out _).mono ?_
  rintro e w1 ⟨u,rfl,hp,hb1⟩
  obtain ⟨pa,pn,pc,rfl⟩ := Rd.shape hp
  have rR := Row.keep hR0 hb1
  have bel := Bel.one _ hb1
  clear hR0 hb1 cC
  go_upto_region 4 with (fail)
  obtain ⟨w2,hw2⟩ : ∃ X,X = w1.alloc (.cells #[.slice pa pn pc] 30) := ⟨_,rfl⟩
  have b2 : Below w1.heap.size w1 w2 := by rw [hw2];exact Bel.al (Below.refl _ _) _
  have r5 : Row w2 w1.heap.size 30 [.slice pa pn pc] := by rw [hw2];exact Row.newOf _ rfl
  rw [← hw2]
  clear hw2
  replace rR := Row.keep rR b2
  replace bel := Bel.to bel b2
  replace hp := Rd.below hp b2
  have c5 := r5.cell? 0
  simp only [List.getElem?_cons_zero] at c5
  clear b2
  have cR := rR.cell? 0
  have fR := rR.frozen 0
  simp only [List.getElem?_cons_zero] at cR
  have hf := Rd.setNe hp cR (fun _ h => by cases h) (.slice pa pn pc)
  have belf := Bel.st bel (p := ⟨w.heap.size,0,none⟩) (Nat.le_refl _) (.slice pa pn pc)
  go_wp2
  exact bodyPost_ret (v := .agg #[(.slice pa pn pc)]) (by simp [results,Tryz.results78,go_sem,cR]) rfl ⟨_,rfl,hf,belf⟩
end Go.Proofs.YtldikghldcefcaaGreat
end

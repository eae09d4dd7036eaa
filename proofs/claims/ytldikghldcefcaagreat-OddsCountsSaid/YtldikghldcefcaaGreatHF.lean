/- Lemmas, merged out of smaller texts (wip/tools/mergedce.py). No condition. -/
import Derived.Deep.QuietTactic
import Derived.BigQuiet
import Derived.Test.YtldikghldcefcaaGreatHE
import Derived.Test.YtldikghldcefcaaGreatHB
section
set_option linter.unusedVariables false
set_option linter.unusedSimpArgs false
namespace Go.Proofs.YtldikghldcefcaaGreat
open Go.RowKit
def LongO (m n : Nat) (w : World) (e : Ending) (w' : World) : Prop := ∃ u v Q S,e = .returned (.tuple #[u,v]) ∧ Rd U32 w' u Q ∧ Small Q ∧ val Q = m / n ∧ Rd U32 w' v S ∧ Small S ∧ val S = m % n ∧ Below w.heap.size w w'
theorem top_bounds {lb : List Nat} {n : Nat} (hs : Small lb) (hn : lb.length = n) (h1 : 1 ≤ n) : lb[n - 1] * 4294967296 ^ (n - 1) ≤ val lb ∧ val lb < (lb[n - 1] + 1) * 4294967296 ^ (n - 1) := by
 have h2 := val_take_succ lb (n - 1) (by omega)
 rw [List.take_of_length_le (by omega)] at h2
 have h3 := val_take_lt hs (k := n - 1) (by omega)
 generalize (4294967296 : Nat) ^ (n - 1) = P at *
 rw [h2,Nat.add_mul,Nat.mul_comm P]
 omega
theorem pow_le_val {B x n b : Nat} (hx : x ≠ 0) (h : x * B ^ (n - 1) ≤ b) : B ^ (n - 1) ≤ b := by
 have := Nat.mul_le_mul_right (B ^ (n - 1)) (show 1 ≤ x by omega)
 omega
set_option maxHeartbeats 16000000 in
set_option maxRecDepth 100000 in
theorem divideLong (va vb : Value) (la lb : List Nat) (w : World) (ha : Rd U32 w va la) (hb : Rd U32 w vb lb) (hsa : Small la) (hsb : Small lb) (hlb : 2 ≤ lb.length) (hle : lb.length ≤ la.length) (hla : la.length ≤ 64) (htop : lb[lb.length - 1]'(by omega) ≠ 0) :
  Calls Tryz.prog 109 #[va,vb] w (LongO (val la) (val lb) w) := by
 obtain ⟨aa,ca,rfl,hlca,hcma,hra⟩ := ha.form
 obtain ⟨ab,cb,rfl,hlcb,hcmb,hrb⟩ := hb.form
 obtain ⟨N,hN⟩ : ∃ N,N = lb.length := ⟨_,rfl⟩
 obtain ⟨M,hM⟩ : ∃ M,M = la.length := ⟨_,rfl⟩
 have hN1 : N - 1 < lb.length := by omega
 obtain ⟨bb,ob,rfl,hbb,hcellb⟩ := hrb.at_ hN1
 have c1 := hcellb (N - 1) hN1
 clear hcellb
 obtain ⟨x0,hx0⟩ : ∃ x0,x0 = lb[N - 1] := ⟨_,rfl⟩
 have hx0n : x0 ≠ 0 := by subst hN;rw [hx0];exact htop
 have hx0b : x0 < 4294967296 := by rw [hx0];exact small_get hsb hN1
 obtain ⟨s,hs1,hs2,hs3,hs4⟩ := lead_shift hx0n hx0b
 have htb := top_bounds hsb hN.symm (by omega)
 rw [← hx0] at c1 htb
 have cSb := hide (fun X (hX : Below w.heap.size w X) => shifted _ lb s X (hrb.below hX) hs2 hsb (by omega))
 have cSa := hide (fun X (hX : Below w.heap.size w X) => shifted _ la s X (hra.below hX) hs2 hsa (by omega))
 have cLz := hide (fun X => Tryz.bits_LeadingZeros32 (x0 : Int) X (by omega) (by omega))
 have hs1' : ((32 : Int) - ((Lib.bitLen (x0 : Int).toNat : Nat) : Int)) = (s : Int) := by rw [Int.toNat_natCast];exact hs1
 rw [hs1'] at cLz
 rw [← hN] at cSb
 rw [← hM] at cSa
 have hNM : N ≤ M := by omega
 have hN2 : 2 ≤ N := by omega
 have hM64 : M ≤ 64 := by omega
 rw [← hN,← hM]
 rw [← hM] at hlca
 rw [← hN] at hlcb
 obtain ⟨A,hA⟩ : ∃ A,A = val la := ⟨_,rfl⟩
 obtain ⟨b,hb0⟩ : ∃ b,b = val lb := ⟨_,rfl⟩
 have hAlt : Hid (A < 4294967296 ^ M) := by show _ < _;rw [hA,hM];exact val_lt hsa
 rw [← hA] at cSa
 rw [← hb0] at cSb htb
 rw [← hA,← hb0]
 have htb1 := hide htb.1
 have htb2 := hide htb.2
 have hs3h := hide hs3
 have hs4h := hide hs4
 replace hA := hide hA
 replace hb0 := hide hb0
 replace hN := hide hN
 replace hM := hide hM
 clear hx0
 clear hs1 hs1' htb ha hb hra hrb htop hN1 hle hla hlb hsa hsb hs3 hs4
 go_enter Tryz.func109,Tryz.ntmps109
 go_wp2_with fail
 refine (cLz.out _).mono ?_
 rintro e w1 ⟨rfl,h1⟩
 rw [h1]
 clear h1 w1
 have i32 : ((s : Int)) < 32 := by omega
 clear cLz
 go_wp2_with fail
 refine (cSb.out _ (Below.refl _ _)).mono ?_
 rintro e w2 ⟨gD,D0,rfl,hgD,hD0,hD0l,hD0s,hD0v,hb2⟩
 clear cSb
 go_wp2_with fail
 refine (cSa.out _ hb2).mono ?_
 rintro e w3 ⟨gR,R0,rfl,hgR,hR0,hR0l,hR0s,hR0v,hb3⟩
 clear cSa
 have hDlt := hD0.lt
 replace hD0 := hD0.keep hb3
 have hb13 := Bel.to hb2 hb3
 go_wp2_with (with_reducible refine wpList_make_row _ rfl _ _ 28 rfl 68 (.int .u32 0) 4 Tryz.underlying28 infoU32 rfl .i64 .i64 _ _ (M - N + 1) (M - N + 1) rfl rfl (by omega) (by omega) (Nat.le_refl _) (by omega) (by omega) ?_;intro w4 hQ0 hb4 hz4)
 obtain ⟨gQ,hgQ⟩ : ∃ gQ,gQ = w3.heap.size := ⟨_,rfl⟩
 have hRlt := hR0.lt
 have hD3 := hD0.lt
 rw [← hgQ] at hQ0 hz4 hRlt hD3 ⊢
 replace hD0 := hD0.keep hb4
 replace hR0 := hR0.keep hb4
 have hb14 := Bel.to hb13 hb4
 have nDR : gD ≠ gR := by omega
 have nDQ : gD ≠ gQ := by omega
 have nRQ : gR ≠ gQ := by omega
 have nRD : gR ≠ gD := by omega
 have nQD : gQ ≠ gD := by omega
 have nQR : gQ ≠ gR := by omega
 have wgR : w.heap.size ≤ gR := by have := hb2.size;omega
 have wgQ : w.heap.size ≤ gQ := by have := hb13.size;omega
 have hDt := shift_top rfl (by omega) htb1.out htb2.out hs3h.out hs4h.out hD0v (by omega) hD0s
 obtain ⟨D,hD⟩ : ∃ D,D = D0.take N := ⟨_,rfl⟩
 have hDl : D.length = N := by rw [hD,List.length_take];omega
 have hDs : Small D := by rw [hD];exact small_take hD0s N
 have hDv : val D = b * 2 ^ s := by rw [hD];exact hDt.1
 have hDtop : 2147483648 ≤ D[N - 1] := by simp only [hD,List.getElem_take];exact hDt.2.1
 have hdlt : b * 2 ^ s < 4294967296 ^ N := hDt.2.2
 have hD0r : Hid (Row w4 gD 68 (D0.map U32)) := hD0
 have hDrd : ∀ X,Row X gD 68 (D0.map U32) → Rd U32 X (.slice (some ⟨gD,0,none⟩) N N) D := fun X hX => by rw [hD];exact hX.rd (by omega) (Nat.le_refl _) (by omega)
 have hDg : ∀ i (h1 : i < N),D0[i]'(by omega) = D[i]'(by omega) := fun i h1 => by simp only [hD,List.getElem_take]
 have d1 : w4.cell? ⟨gD,N - 1,none⟩ = some (U32 (D[N - 1]'(by omega))) := by rw [← hDg (N - 1) (by omega)];exact hD0.cellV (by omega)
 have d2 : w4.cell? ⟨gD,N - 2,none⟩ = some (U32 (D[N - 2]'(by omega))) := by rw [← hDg (N - 2) (by omega)];exact hD0.cellV (by omega)
 have hst := long_start rfl (pow_le_val hx0n htb1.out) hAlt.out (by omega) hNM hR0v hR0l (Q := List.replicate (M - N + 1) 0) (by simp)
 obtain ⟨top,hto⟩ : ∃ top,top = D[N - 1] := ⟨_,rfl⟩
 obtain ⟨next,hnx⟩ : ∃ next,next = D[N - 2] := ⟨_,rfl⟩
 rw [← hto] at d1 hDtop
 rw [← hnx] at d2
 have hthi : top < 4294967296 := by rw [hto];exact small_get hDs (by omega)
 have hnhi : next < 4294967296 := by rw [hnx];exact small_get hDs (by omega)
 obtain ⟨d,hd⟩ : ∃ d,d = b * 2 ^ s := ⟨_,rfl⟩
 rw [← hd] at hDv hdlt hst
 replace hDv := hide hDv
 replace hdlt := hide hdlt
 replace hst := hide hst
 replace hto := hide hto
 replace hnx := hide hnx
 replace hd := hide hd
 replace hDrd := hide hDrd
 clear hD hDt hDg hD0 hD0v hD0s hb2 hb3 hb13 hb4 hgQ hgR hgD hDlt hD3 hRlt hz4 c1
 go_quiet (fail)
 go_wp2
 go_loopw [13] (fun tj wr => ∃ (k : Nat) (Q R : List Nat),k ≤ M - N + 1 ∧ tj = .int .i64 ((k : Int) - 1) ∧ Row wr gD 68 (D0.map U32) ∧ Row wr gR 68 (R.map U32) ∧ Row wr gQ 68 (Q.map U32) ∧ Hid (R.length = M + 1) ∧ Hid (Q.length = M - N + 1) ∧ Small R ∧ Small Q ∧ Hid (LongI (A * 2 ^ s) d N k Q R) ∧ Below w.heap.size w wr) (fun tj _ => (intOf tj + 1).toNat)
 case atStart =>
  exact ⟨M - N + 1,List.replicate (M - N + 1) 0,R0,Nat.le_refl _,by go_num,hD0r.out,hR0,by rw [List.map_replicate];exact hQ0,hR0l,by show _ = _;simp,hR0s,small_zeros _,hst.out,Bel.drN hb14 _⟩
 case round =>
  clear hst hR0 hQ0 hD0r hR0s d1 d2
  obtain ⟨k,Q,R,hk,rfl,hDr,hRr,hQr,hRl,hQl,hRs,hQs,hI,hbel⟩ := hrel
  by_cases hk0 : k = 0
  ·subst hk0
   have e0 : (((0 : Nat) : Int) - 1) = -1 := by omega
   rw [e0]
   clear e0
   have hbpos : 0 < b := by
    have h1 := pow_le_val hx0n htb1.out
    have h2 : 0 < 4294967296 ^ (N - 1) := Nat.pow_pos (by omega)
    omega
   have hdpos : 0 < d := by rw [hd.out];exact Nat.mul_pos hbpos (Nat.pow_pos (by omega))
   have hend := long_end hI.out hdpos
   have hz0 := long_zero (k := 0) hdlt.out hI.out.low (by have := hRl.out;omega)
   rw [Nat.zero_add] at hz0
   have hsp := val_splitQ R N (by have := hRl.out;omega)
   rw [hz0,Nat.mul_zero,Nat.add_zero] at hsp
   have hQv : Hid (val Q = A / b) := by show _ = _;rw [hend.1,hd.out,mul_div_pow _ _ _ hbpos]
   have hOv : Hid (val (R.take N) = A % b * 2 ^ s) := by show _ = _;rw [← hsp,hend.2,hd.out,mul_mod_pow]
   obtain ⟨O,hO⟩ : ∃ O,O = R.take N := ⟨_,rfl⟩
   have hOl : O.length = N := by rw [hO,List.length_take];have := hRl.out;omega
   have hOg : Hid (∀ i (h1 : i < N) (h2 : i < R.length),R[i] = O[i]'(by omega)) := fun i h1 h2 => by simp only [hO,List.getElem_take]
   rw [← hO] at hOv
   clear hO hsp hz0 hend hbpos hdpos hDr hI hdlt hDv hd hto hnx hDrd hs3h hs4h htb1 htb2
   replace hOl := hide hOl
   go_wp2
   obtain ⟨w9,hw9⟩ : ∃ w9,w9 = wr := ⟨_,rfl⟩
   rw [← hw9] at hRr hQr hbel ⊢
   clear hw9
   go_loopw [139] (fun ti wr => ∃ (i : Nat) (S : List Nat),i ≤ N ∧ ti = .int .i64 (i : Int) ∧ Row wr gR 68 (S.map U32) ∧ Row wr gQ 68 (Q.map U32) ∧ Hid (S.length = M + 1) ∧ Small S ∧ Hid (S.drop i = R.drop i) ∧ Hid (DownI O S s i) ∧ Below w.heap.size w wr) (fun ti _ => N - (intOf ti).toNat)
   case atStart => exact ⟨0,R,Nat.zero_le _,rfl,hRr,hQr,hRl,hRs,rfl,DownI.start (by have := hOl.out;omega),hbel⟩
   case round =>
    clear hRr hQr hbel
    obtain ⟨i,S,hi,rfl,hSr,hQr,hSl,hSs,hSd,hDn,hbel⟩ := hrel
    by_cases hiN : i < N
    ·have hSlo := hSl.out
     have hRlo := hRl.out
     have hOlo := hOl.out
     have e1 := hSr.cellV (i := i) (by omega)
     have f1 := hSr.frozen i
     have hx : S[i] = O[i] := by
      have h1 := congrArg (fun l => l[0]?) hSd.out
      simp only [List.getElem?_drop,Nat.add_zero] at h1
      rw [List.getElem?_eq_getElem (by omega),List.getElem?_eq_getElem (by omega)] at h1
      rw [Option.some.inj h1]
      exact hOg.out i hiN (by omega)
     rw [hx] at e1
     obtain ⟨x,hxx⟩ : ∃ x,x = O[i] := ⟨_,rfl⟩
     have hxb : x < 4294967296 := by rw [hxx,← hx];exact small_get hSs _
     rw [← hxx] at e1
     by_cases hi1 : i + 1 < N
     ·have hi1i : (i : Int) + 1 < (N : Int) := by omega
      have e2 := hSr.cellV (i := i + 1) (by omega)
      have f2 := hSr.frozen (i + 1)
      have hy : S[i + 1] = O[i + 1] := by
       have h1 := congrArg (fun l => l[1]?) hSd.out
       simp only [List.getElem?_drop] at h1
       rw [List.getElem?_eq_getElem (by omega),List.getElem?_eq_getElem (by omega)] at h1
       rw [Option.some.inj h1]
       exact hOg.out (i + 1) hi1 (by omega)
      rw [hy] at e2
      have hyb : O[i + 1] < 4294967296 := by rw [← hy];exact small_get hSs _
      obtain ⟨y,hyy⟩ : ∃ y,y = O[i + 1] := ⟨_,rfl⟩
      rw [← hyy] at e2 hyb
      clear hx hy
      replace hxx := hide hxx
      replace hyy := hide hyy
      obtain ⟨u,hu⟩ : ∃ u,u = x / 2 ^ s := ⟨_,rfl⟩
      have hui : (x : Int) / 2 ^ s = (u : Int) := by rw [hu,Int.natCast_ediv,Int.natCast_pow];rfl
      obtain ⟨s2,hs2e⟩ : ∃ s2,s2 = 32 - s := ⟨_,rfl⟩
      have hs2i : (32 : Int) - (s : Int) = (s2 : Int) := by omega
      have hs2b : s2 ≤ 32 := by omega
      replace hu := hide hu
      replace hs2e := hide hs2e
      have hod := or_down hxb (show s ≤ 32 by omega) (y := y)
      rw [← hu.out,← hs2e.out] at hod
      have hmb : y * 2 ^ s2 < 18446744073709551616 := by
       have h1 : (2 : Nat) ^ s2 ≤ 2 ^ 32 := Nat.pow_le_pow_right (by omega) hs2b
       have h2 : y * 2 ^ s2 ≤ 4294967295 * 4294967296 := Nat.mul_le_mul (by omega) h1
       omega
      obtain ⟨m,hm⟩ : ∃ m,m = y * 2 ^ s2 := ⟨_,rfl⟩
      have hmi : IntKind.u64.wrap ((y : Int) * 2 ^ s2) = (m : Int) := by
       have e : (y : Int) * 2 ^ s2 = (m : Int) := by rw [hm,Int.natCast_mul,Int.natCast_pow];rfl
       rw [e,IntKind.wrap_u64];omega
      rw [← hm] at hmb hod
      obtain ⟨m3,hm3⟩ : ∃ m3,m3 = m % 4294967296 := ⟨_,rfl⟩
      have hm3i : (m : Int) % 4294967296 = (m3 : Int) := by omega
      rw [← hm3] at hod
      obtain ⟨z,hz⟩ : ∃ z,z = u + y % 2 ^ s * 2 ^ s2 := ⟨_,rfl⟩
      rw [← hz] at hod
      have hor := hod.1
      have hzb := hod.2
      have hDz := hide (hDn.out.step (S := S) (z := z) hs2 (show i < O.length by omega) (by omega) (by rw [dif_pos (by omega),hz,hu.out,hs2e.out,hxx.out,hyy.out]))
      have hdr : Hid ((S.set i z).drop (i + 1) = R.drop (i + 1)) := by
       show _ = _
       rw [List.drop_set_of_lt (by omega)]
       have h1 := congrArg (List.drop 1) hSd.out
       rwa [List.drop_drop,List.drop_drop] at h1
      clear hm hm3 hz hod hDn hSd
      have hi1b : i + 1 < 9223372036854775807 := by omega
      have wi1 : IntKind.i64.wrap ((i : Int) + 1) = (i : Int) + 1 := by rw [IntKind.wrap_i64];omega
      have wi0 : ¬ (i : Int) + 1 < 0 := by omega
      have wyy : IntKind.u64.wrap (y : Int) = (y : Int) := by rw [IntKind.wrap_u64];omega
      have ws2 : IntKind.u64.wrap (s2 : Int) = (s2 : Int) := by rw [IntKind.wrap_u64];omega
      have wm3 : IntKind.u32.wrap (m : Int) = (m3 : Int) := by rw [IntKind.wrap_u32];omega
      go_wp2
      obtain ⟨w1,hw1⟩ : ∃ w1,w1 = wr.setCell ⟨gR,i,none⟩ (.int .u32 (u : Int)) := ⟨_,rfl⟩
      have hS1 : Row w1 gR 68 ((S.set i u).map U32) := by rw [hw1];exact hSr.setV i u
      have hQ1 : Row w1 gQ 68 (Q.map U32) := by rw [hw1];exact hQr.far nQR _
      have hB1 : Below w.heap.size w w1 := by rw [hw1];exact Bel.st hbel (p := ⟨gR,i,none⟩) wgR _
      rw [← hw1]
      have g1 : w1.cell? ⟨gR,i,none⟩ = some (.int .u32 (u : Int)) := by
       have h1 := hS1.cellV (i := i) (by rw [List.length_set];omega)
       rw [List.getElem_set_self] at h1
       exact h1
      have g2 : w1.cell? ⟨gR,i + 1,none⟩ = some (.int .u32 (y : Int)) := by rw [hw1];exact (World.cell?_setCell_other wr _ _ _ (by intro e;injection e with e1 e2;omega)).trans e2
      have g1f : w1.frozen? ⟨gR,i,none⟩ = false := hS1.frozen i
      clear hw1 e1 e2 f1 f2 hSr hQr hbel hui
      refine till_begin 16 (fun X => X.cell? ⟨gR,i,none⟩ = some (.int .u32 (u : Int)) ∧ X.cell? ⟨gR,i + 1,none⟩ = some (.int .u32 (y : Int))) (by kernel_rfl) (⟨g1,g2⟩) (fun hHeld => ?_)
      refine' till_pure (i := 0) (oi := _) (v := .slice (some ⟨gR,0,none⟩) N N) rfl (by kernel_rfl) (by kernel_rfl) (by kernel_rfl) (by kernel_rfl) (fun _ _ _ h => h) (Or.inl ⟨by first | (go_simp;done) | rfl,fun X _ => by go_simp⟩) hHeld ?_
      try simp only [Act.put,zsA,zsB,zsC]
      refine' till_pure (i := 1) (oi := _) (v := .int .i64 (i : Int)) rfl (by kernel_rfl) (by kernel_rfl) (by kernel_rfl) (by kernel_rfl) (fun _ _ _ h => h) (Or.inl ⟨by first | (go_simp;done) | rfl,fun X _ => by go_simp⟩) hHeld ?_
      try simp only [Act.put,zsA,zsB,zsC]
      refine' till_pure (i := 2) (oi := _) (v := .pointer (some ⟨gR,i,none⟩)) rfl (by kernel_rfl) (by kernel_rfl) (by kernel_rfl) (by kernel_rfl) (fun _ _ _ h => h) (Or.inl ⟨by first | (go_simp;done) | rfl,fun X _ => by go_simp⟩) hHeld ?_
      try simp only [Act.put,zsA,zsB,zsC]
      refine' till_take (i := 3) (oi := _) (v := .int .u32 (u : Int)) rfl (by kernel_rfl) (by kernel_rfl) (by kernel_rfl) (by kernel_rfl) (fun _ _ _ h => h) (Or.inl ⟨by first | (go_simp;done) | rfl,fun X hX => by have cX := hX.1;go_simp⟩) hHeld ?_
      try simp only [Act.put,zsA,zsB,zsC]
      refine' till_pure (i := 4) (oi := _) (v := .slice (some ⟨gR,0,none⟩) N N) rfl (by kernel_rfl) (by kernel_rfl) (by kernel_rfl) (by kernel_rfl) (fun _ _ _ h => h) (Or.inl ⟨by first | (go_simp;done) | rfl,fun X _ => by go_simp⟩) hHeld ?_
      try simp only [Act.put,zsA,zsB,zsC]
      refine' till_pure (i := 5) (oi := _) (v := .int .i64 (i : Int)) rfl (by kernel_rfl) (by kernel_rfl) (by kernel_rfl) (by kernel_rfl) (fun _ _ _ h => h) (Or.inl ⟨by first | (go_simp;done) | rfl,fun X _ => by go_simp⟩) hHeld ?_
      try simp only [Act.put,zsA,zsB,zsC]
      refine' till_pure (i := 6) (oi := _) (v := .int .i64 ((i : Int) + 1)) rfl (by kernel_rfl) (by kernel_rfl) (by kernel_rfl) (by kernel_rfl) (fun _ _ _ h => h) (Or.inl ⟨by first | (go_simp;done) | rfl,fun X _ => by go_simp⟩) hHeld ?_
      try simp only [Act.put,zsA,zsB,zsC]
      refine' till_pure (i := 7) (oi := _) (v := .pointer (some ⟨gR,(i + 1),none⟩)) rfl (by kernel_rfl) (by kernel_rfl) (by kernel_rfl) (by kernel_rfl) (fun _ _ _ h => h) (Or.inl ⟨by first | (go_simp;done) | rfl,fun X _ => by go_simp⟩) hHeld ?_
      try simp only [Act.put,zsA,zsB,zsC]
      refine' till_take (i := 8) (oi := _) (v := .int .u32 (y : Int)) rfl (by kernel_rfl) (by kernel_rfl) (by kernel_rfl) (by kernel_rfl) (fun _ _ _ h => h) (Or.inl ⟨by first | (go_simp;done) | rfl,fun X hX => by have cX := hX.2;go_simp⟩) hHeld ?_
      try simp only [Act.put,zsA,zsB,zsC]
      refine' till_pure (i := 9) (oi := _) (v := .int .u64 (y : Int)) rfl (by kernel_rfl) (by kernel_rfl) (by kernel_rfl) (by kernel_rfl) (fun _ _ _ h => h) (Or.inl ⟨by first | (go_simp;done) | rfl,fun X _ => by go_simp⟩) hHeld ?_
      try simp only [Act.put,zsA,zsB,zsC]
      refine' till_pure (i := 10) (oi := _) (v := .int .u64 (s : Int)) rfl (by kernel_rfl) (by kernel_rfl) (by kernel_rfl) (by kernel_rfl) (fun _ _ _ h => h) (Or.inl ⟨by first | (go_simp;done) | rfl,fun X _ => by go_simp⟩) hHeld ?_
      try simp only [Act.put,zsA,zsB,zsC]
      refine' till_pure (i := 11) (oi := _) (v := .int .u64 (s2 : Int)) rfl (by kernel_rfl) (by kernel_rfl) (by kernel_rfl) (by kernel_rfl) (fun _ _ _ h => h) (Or.inl ⟨by first | (go_simp;done) | rfl,fun X _ => by go_simp⟩) hHeld ?_
      try simp only [Act.put,zsA,zsB,zsC]
      refine' till_pure (i := 12) (oi := _) (v := .int .u64 (m : Int)) rfl (by kernel_rfl) (by kernel_rfl) (by kernel_rfl) (by kernel_rfl) (fun _ _ _ h => h) (Or.inl ⟨by first | (go_simp;done) | rfl,fun X _ => by go_simp⟩) hHeld ?_
      try simp only [Act.put,zsA,zsB,zsC]
      refine' till_pure (i := 13) (oi := _) (v := .int .u32 (m3 : Int)) rfl (by kernel_rfl) (by kernel_rfl) (by kernel_rfl) (by kernel_rfl) (fun _ _ _ h => h) (Or.inl ⟨by first | (go_simp;done) | rfl,fun X _ => by go_simp⟩) hHeld ?_
      try simp only [Act.put,zsA,zsB,zsC]
      refine' till_pure (i := 14) (oi := _) (v := .int .u32 (z : Int)) rfl (by kernel_rfl) (by kernel_rfl) (by kernel_rfl) (by kernel_rfl) (fun _ _ _ h => h) (Or.inl ⟨by first | (go_simp;done) | rfl,fun X _ => by go_simp⟩) hHeld ?_
      try simp only [Act.put,zsA,zsB,zsC]
      refine' till_pure (i := 15) (oi := _) (v := .pointer (some ⟨gR,i,none⟩)) rfl (by kernel_rfl) (by kernel_rfl) (by kernel_rfl) (by kernel_rfl) (fun _ _ _ h => h) (Or.inl ⟨by first | (go_simp;done) | rfl,fun X _ => by go_simp⟩) hHeld ?_
      try simp only [Act.put,zsA,zsB,zsC]
      refine till_ready (rs := [16]) (by kernel_rfl) (by simp) ?_
      refine TillReady.last (o := _) rfl (by kernel_rfl) (fun K hK => ?_) TillReady.nil
      go_simp
      refine hK.out _ _ ?_
      clear hK K
      try simp only [Act.put,zsA,zsB,zsC]
      refine till_done (by kernel_rfl) ?_ _
      go_simp
      have hS2 : Row (w1.setCell ⟨gR,i,none⟩ (.int .u32 (z : Int))) gR 68 ((S.set i z).map U32) := by
       have := hS1.setV i z
       rwa [List.set_set] at this
      go_wp2
      go_roundw
      case rel =>
       exact ⟨i + 1,S.set i z,by omega,by go_num,hS2,hQ1.far nQR _,by show _ = _;rw [List.length_set];exact hSl.out,small_set hSs _ hzb,hdr,hDz,Below.drew (Bel.st hB1 (p := ⟨gR,i,none⟩) wgR _)⟩
      case measure => simp [intOf];omega
     ·have hi1i : ¬ (i : Int) + 1 < (N : Int) := by omega
      obtain ⟨u,hu⟩ : ∃ u,u = x / 2 ^ s := ⟨_,rfl⟩
      have hui : (x : Int) / 2 ^ s = (u : Int) := by rw [hu,Int.natCast_ediv,Int.natCast_pow];rfl
      have hub : u < 4294967296 := by rw [hu];have := Nat.div_le_self x (2 ^ s);omega
      have hDz := hide (hDn.out.step (S := S) (z := u) hs2 (show i < O.length by omega) (by omega) (by rw [dif_neg (by omega),hu,hxx]))
      have hdr : Hid ((S.set i u).drop (i + 1) = R.drop (i + 1)) := by
       show _ = _
       rw [List.drop_set_of_lt (by omega)]
       have h1 := congrArg (List.drop 1) hSd.out
       rwa [List.drop_drop,List.drop_drop] at h1
      clear hu hxx hx hDn hSd
      go_wp2
      go_roundw
      case rel =>
       exact ⟨i + 1,S.set i u,by omega,by go_num,hSr.setV i u,hQr.far nQR _,by show _ = _;rw [List.length_set];exact hSl.out,small_set hSs _ hub,hdr,hDz,Bel.st hbel (p := ⟨gR,i,none⟩) wgR _⟩
      case measure => simp [intOf];omega
    ·obtain rfl : i = N := by omega
     have hSv := hDn.out
     rw [← hOl.out] at hSv
     have hfin := hSv.stop
     rw [hOl.out,hOv.out,Nat.mul_div_cancel _ (Nat.pow_pos (by omega))] at hfin
     replace hfin := hide hfin
     have hSlo := hSl.out
     have hQlo := hQl.out
     have hrS := hSr.rd (n := i) (c := i) (by omega) (Nat.le_refl _) (by omega)
     have hrQ := hQr.rdAll (n := M - i + 1) (c := M - i + 1) (by omega) (Nat.le_refl _) (by omega)
     clear hSv hDn hSd hOg hOl hOv hSlo hQlo
     go_wp2
     go_ret2
     exact ⟨_,_,Q,S.take i,rfl,hrQ,hQs,hQv.out,hrS,small_take hSs i,hfin.out,hbel⟩
  ·obtain ⟨j,rfl⟩ : ∃ j,k = j + 1 := ⟨k - 1,by omega⟩
   have ej : (((j + 1 : Nat) : Int) - 1) = (j : Int) := by omega
   rw [ej]
   clear ej hk0
   have hjN : j + N ≤ M := by omega
   have hjj : j + N + 1 - j = N + 1 := by omega
   have hRlo := hRl.out
   have y2c := hRr.cellV (i := j + N) (by omega)
   have y1c := hRr.cellV (i := j + (N - 1)) (by omega)
   have y0c := hRr.cellV (i := j + (N - 2)) (by omega)
   have rl := round_law hN2 hDl hDs hDv.out (by rw [← hto.out];exact hDtop) hRs (by omega) hI.out.low
   rw [← hto.out,← hnx.out] at rl
   have y2b := small_get hRs (i := j + N) (by omega)
   have y1b := small_get hRs (i := j + (N - 1)) (by omega)
   have y0b := small_get hRs (i := j + (N - 2)) (by omega)
   obtain ⟨y2,hy2⟩ : ∃ y2,y2 = R[j + N] := ⟨_,rfl⟩
   obtain ⟨y1,hy1⟩ : ∃ y1,y1 = R[j + (N - 1)] := ⟨_,rfl⟩
   obtain ⟨y0,hy0⟩ : ∃ y0,y0 = R[j + (N - 2)] := ⟨_,rfl⟩
   rw [← hy2] at y2c y2b rl
   rw [← hy1] at y1c y1b rl
   rw [← hy0] at y0c y0b rl
   clear hy2 hy1 hy0
   obtain ⟨Wv,hWv⟩ : ∃ Wv,Wv = val ((R.drop j).take (N + 1)) := ⟨_,rfl⟩
   rw [← hWv] at rl
   have hbits := or_shift y2b y1b
   obtain ⟨head,hhead⟩ : ∃ head,head = y2 * 4294967296 + y1 := ⟨_,rfl⟩
   rw [← hhead] at rl hbits
   have hht := head_lt rfl rl.hd hthi
   have rlh := hide rl
   have g0 := hide (guess_start rl)
   replace hWv := hide hWv
   replace hhead := hide hhead
   clear rl hRlo
   go_wp2
   go_quiet (fail)
   obtain ⟨q0,hq0⟩ : ∃ q0,q0 = head / top := ⟨_,rfl⟩
   obtain ⟨r0,hr0⟩ : ∃ r0,r0 = head % top := ⟨_,rfl⟩
   have hq0i : (head : Int) / (top : Int) = (q0 : Int) := by rw [hq0,Int.natCast_ediv]
   have hr0i : (head : Int) % (top : Int) = (r0 : Int) := by rw [hr0,Int.natCast_emod]
   have hq0t : (head : Int).tdiv (top : Int) = (q0 : Int) := by rw [Int.tdiv_eq_ediv_of_nonneg (by omega)];exact hq0i
   have hr0t : (head : Int).tmod (top : Int) = (r0 : Int) := by rw [Int.tmod_eq_emod_of_nonneg (by omega)];exact hr0i
   have tn0 : top ≠ 0 := by omega
   have tn1 : ((top : Int) == 0) = false := by simpa using tn0
   rw [← hq0,← hr0] at g0
   have qb : q0 ≤ 4294967297 := g0.out.gb
   have rb : r0 < 4294967296 := g0.out.lb
   have wq : IntKind.u64.wrap (q0 : Int) = (q0 : Int) := by rw [IntKind.wrap_u64];omega
   have wr0 : IntKind.u64.wrap (r0 : Int) = (r0 : Int) := by rw [IntKind.wrap_u64];omega
   clear hq0 hr0
   go_wp2
   go_quiet (fail)
   clear hq0i hr0i hq0t hr0t wq wr0
   go_wp2
   have hbelX : Below w.heap.size w wr := hbel
   go_loop [16,17] (fun tg tl => ∃ (g left : Nat),tg = .int .u64 (g : Int) ∧ tl = .int .u64 (left : Int) ∧ Hid (GuessI d Wv top head g left) ∧ g ≤ 4294967297 ∧ left < 4294967296) (fun tg _ => (intOf tg).toNat)
   case atStart => exact ⟨q0,r0,rfl,rfl,g0,qb,rb⟩
   case round =>
    clear qb rb
    obtain ⟨g,left,rfl,rfl,hG,hgb,hlb⟩ := hrel
    by_cases hb : 4294967296 ≤ g
    ·have hbi : (4294967296 : Int) ≤ (g : Int) := by omega
     have hdn := guess_down rlh.out hG.out (.inl hb)
     have hg1 := (guess_less rlh.out hG.out (.inl hb)).1
     obtain ⟨g2,hg2⟩ : ∃ g2,g2 = g - 1 := ⟨_,rfl⟩
     have hg2i : (g : Int) - 1 = (g2 : Int) := by omega
     rw [← hg2] at hdn
     have l2b : left + top < 18446744073709551616 := by omega
     have l2i : (left : Int) + (top : Int) < 18446744073709551616 := by omega
     have g2b : g2 < 18446744073709551616 := by omega
     clear hg2
     have hd1 := hide hdn.1
     have hd2 := hide hdn.2
     clear hdn
     by_cases hl : left + top < 4294967296
     ·have hli : ¬ (4294967296 : Int) ≤ (left : Int) + (top : Int) := by omega
      clear hd2
      go_wp2
      go_round
      case rel => exact ⟨g2,rfl,left + top,by go_num,hd1.out hl,by have := (hd1.out hl).gb;omega,hl⟩
      case measure => first | (simp [intOf];done) | (simp [intOf];omega)
     ·have hE := hide (hd2.out (by omega))
      have hli : (4294967296 : Int) ≤ (left : Int) + (top : Int) := by omega
      clear hd1 hd2 hG
      have hDX := hDrd.out _ hDr
      have hgb0 := hE.out.gb
      have hjM : j + N + 1 ≤ R.length := by have := hRl.out;omega
      go_wp2_with fail
      refine (subtract gR j _ N g2 R D (.slice (some ⟨gD,0,none⟩) N N) _ (by exact hRr) hRs hjM (by exact hDX) hDs hDl (fun e => nDR (by simpa [Value.ownBlock] using e)) hgb0 (by omega)).mono ?_
      rintro e w8 ⟨bo,R1,rfl,hR1,hS,hgr8⟩
      have hD8 : Row w8 gD 68 (D0.map U32) := Row.grown (by exact hDr) hgr8 (fun e => nDR (by simpa using e))
      have hQ8 : Row w8 gQ 68 (Q.map U32) := Row.grown (by exact hQr) hgr8 (fun e => nQR (by simpa using e))
      have hb8 : Below w.heap.size w w8 := Gb.bel (Bel.drN hbelX _) hgr8 wgR
      have hl1 := hS.win.len
      clear hgr8 hDX
      cases bo
      ·obtain ⟨w9,hw9⟩ : ∃ w9,w9 = w8 := ⟨_,rfl⟩
       rw [← hw9] at hR1 hD8 hQ8 hb8 ⊢
       clear hw9
       have hjR : j + 1 + N ≤ R.length := by omega
       have hDr9 : Row w9 gD 68 (D0.map U32) := hD8
       have hQr9 : Row w9 gQ 68 (Q.map U32) := hQ8
       have hbel9 : Below w.heap.size w w9 := hb8
       have hjQ : j < Q.length := by have := hQl.out;omega
       have q9 := hQr9.cellV hjQ
       have q9f := hQr9.frozen j
       have hgB : g2 < 4294967296 := by have := hE.out.gb;omega
       have hI9 := hide (digit_right hdlt.out hRs (by have := hQl.out;have := hRl.out;omega) hjR hI.out hDv.out (by rw [← hWv.out];exact hE.out) hS)
       have hQl2 : Hid ((Q.set j g2).length = M - N + 1) := by show _ = _;rw [List.length_set];exact hQl.out
       have hRl2 : Hid (R1.length = M + 1) := by show _ = _;rw [hl1];exact hRl.out
       have hR1s := hS.small
       clear hI hE hS hWv rlh g0 hl1 hjM
       go_wp2
       go_roundw
       case rel =>
        exact ⟨j,Q.set j g2,R1,by omega,by go_num,hDr9.far nDQ _,hR1.far nRQ _,hQr9.setV j g2,hRl2,hQl2,hR1s,small_set hQs j hgB,hI9,Bel.st hbel9 (p := ⟨gQ,j,none⟩) wgQ _⟩
       case measure => first | (simp [intOf];done) | (simp [intOf];omega)
      ·have hD8X := hDrd.out _ hD8
       go_wp2_with fail
       refine (restore gR j _ N R1 D (.slice (some ⟨gD,0,none⟩) N N) _ (by exact hR1) hS.small (by omega) (by exact hD8X) hDs hDl (fun e => nDR (by simpa [Value.ownBlock] using e)) (by omega)).mono ?_
       rintro e w9 ⟨cc,R2,rfl,hR2,hW2,hR2s,hv2,hgr9⟩
       have hjR : j + 1 + N ≤ R.length := by omega
       have hdl := digit_less hdlt.out hRs (by have := hQl.out;have := hRl.out;omega) hjR hI.out hDv.out (by rw [← hWv.out];exact hE.out) hS hW2 hR2s hv2
       obtain ⟨g9,hg9⟩ : ∃ g9,g9 = g2 - 1 := ⟨_,rfl⟩
       have hg1 := hdl.2
       have hg9i : ((g2 : Nat) : Int) - 1 = (g9 : Int) := by omega
       have hgz : g9 < 4294967296 := by omega
       have hdl1 := hdl.1
       rw [← hg9] at hdl1
       clear hg9 hdl
       have hDr9 : Row w9 gD 68 (D0.map U32) := Row.grown hD8 hgr9 (fun e => nDR (by simpa using e))
       have hQr9 : Row w9 gQ 68 (Q.map U32) := Row.grown hQ8 hgr9 (fun e => nQR (by simpa using e))
       have hbel9 : Below w.heap.size w w9 := Gb.bel hb8 hgr9 wgR
       have hjQ : j < Q.length := by have := hQl.out;omega
       have q9 := hQr9.cellV hjQ
       have q9f := hQr9.frozen j
       have hgB : g9 < 4294967296 := hgz
       have hI9 := hide (hdl1)
       have hQl2 : Hid ((Q.set j g9).length = M - N + 1) := by show _ = _;rw [List.length_set];exact hQl.out
       have hRl2 : Hid (R2.length = M + 1) := by show _ = _;rw [hW2.len,hl1];exact hRl.out
       clear hI hE hS hWv rlh g0 hl1 hjM hdl1 hgr9 hv2 hW2
       go_wp2
       go_roundw
       case rel =>
        exact ⟨j,Q.set j g9,R2,by omega,by go_num,hDr9.far nDQ _,hR2.far nRQ _,hQr9.setV j g9,hRl2,hQl2,hR2s,small_set hQs j hgB,hI9,Bel.st hbel9 (p := ⟨gQ,j,none⟩) wgQ _⟩
       case measure => first | (simp [intOf];done) | (simp [intOf];omega)
    ·have hbi : ¬ (4294967296 : Int) ≤ (g : Int) := by omega
     obtain ⟨p,hp⟩ : ∃ p,p = g * next := ⟨_,rfl⟩
     have hpi : (g : Int) * (next : Int) = (p : Int) := by rw [hp,Int.natCast_mul]
     have hpb : p < 18446744073709551616 := by have := mul_lt (show g < 4294967296 by omega) hnhi;omega
     have hor := or_shift hlb y0b
     obtain ⟨z,hz⟩ : ∃ z,z = left * 4294967296 + y0 := ⟨_,rfl⟩
     rw [← hz] at hor
     by_cases ht : z < p
     ·have hti : (z : Int) < (p : Int) := by omega
      have htag : 4294967296 ≤ g ∨ left * 4294967296 + y0 < g * next := .inr (by omega)
      replace hp := hide hp
      replace hz := hide hz
      have hdn := guess_down rlh.out hG.out htag
      have hg1 := (guess_less rlh.out hG.out htag).1
      obtain ⟨g2,hg2⟩ : ∃ g2,g2 = g - 1 := ⟨_,rfl⟩
      have hg2i : (g : Int) - 1 = (g2 : Int) := by omega
      rw [← hg2] at hdn
      have l2b : left + top < 18446744073709551616 := by omega
      have l2i : (left : Int) + (top : Int) < 18446744073709551616 := by omega
      have g2b : g2 < 18446744073709551616 := by omega
      clear hg2
      have hd1 := hide hdn.1
      have hd2 := hide hdn.2
      clear hdn
      by_cases hl : left + top < 4294967296
      ·have hli : ¬ (4294967296 : Int) ≤ (left : Int) + (top : Int) := by omega
       clear hd2
       go_wp2
       go_round
       case rel => exact ⟨g2,rfl,left + top,by go_num,hd1.out hl,by have := (hd1.out hl).gb;omega,hl⟩
       case measure => first | (simp [intOf];done) | (simp [intOf];omega)
      ·have hE := hide (hd2.out (by omega))
       have hli : (4294967296 : Int) ≤ (left : Int) + (top : Int) := by omega
       clear hd1 hd2 hG
       have hDX := hDrd.out _ hDr
       have hgb0 := hE.out.gb
       have hjM : j + N + 1 ≤ R.length := by have := hRl.out;omega
       go_wp2_with fail
       refine (subtract gR j _ N g2 R D (.slice (some ⟨gD,0,none⟩) N N) _ (by exact hRr) hRs hjM (by exact hDX) hDs hDl (fun e => nDR (by simpa [Value.ownBlock] using e)) hgb0 (by omega)).mono ?_
       rintro e w8 ⟨bo,R1,rfl,hR1,hS,hgr8⟩
       have hD8 : Row w8 gD 68 (D0.map U32) := Row.grown (by exact hDr) hgr8 (fun e => nDR (by simpa using e))
       have hQ8 : Row w8 gQ 68 (Q.map U32) := Row.grown (by exact hQr) hgr8 (fun e => nQR (by simpa using e))
       have hb8 : Below w.heap.size w w8 := Gb.bel (Bel.drN hbelX _) hgr8 wgR
       have hl1 := hS.win.len
       clear hgr8 hDX
       cases bo
       ·obtain ⟨w9,hw9⟩ : ∃ w9,w9 = w8 := ⟨_,rfl⟩
        rw [← hw9] at hR1 hD8 hQ8 hb8 ⊢
        clear hw9
        have hjR : j + 1 + N ≤ R.length := by omega
        have hDr9 : Row w9 gD 68 (D0.map U32) := hD8
        have hQr9 : Row w9 gQ 68 (Q.map U32) := hQ8
        have hbel9 : Below w.heap.size w w9 := hb8
        have hjQ : j < Q.length := by have := hQl.out;omega
        have q9 := hQr9.cellV hjQ
        have q9f := hQr9.frozen j
        have hgB : g2 < 4294967296 := by have := hE.out.gb;omega
        have hI9 := hide (digit_right hdlt.out hRs (by have := hQl.out;have := hRl.out;omega) hjR hI.out hDv.out (by rw [← hWv.out];exact hE.out) hS)
        have hQl2 : Hid ((Q.set j g2).length = M - N + 1) := by show _ = _;rw [List.length_set];exact hQl.out
        have hRl2 : Hid (R1.length = M + 1) := by show _ = _;rw [hl1];exact hRl.out
        have hR1s := hS.small
        clear hI hE hS hWv rlh g0 hl1 hjM
        go_wp2
        go_roundw
        case rel =>
         exact ⟨j,Q.set j g2,R1,by omega,by go_num,hDr9.far nDQ _,hR1.far nRQ _,hQr9.setV j g2,hRl2,hQl2,hR1s,small_set hQs j hgB,hI9,Bel.st hbel9 (p := ⟨gQ,j,none⟩) wgQ _⟩
        case measure => first | (simp [intOf];done) | (simp [intOf];omega)
       ·have hD8X := hDrd.out _ hD8
        go_wp2_with fail
        refine (restore gR j _ N R1 D (.slice (some ⟨gD,0,none⟩) N N) _ (by exact hR1) hS.small (by omega) (by exact hD8X) hDs hDl (fun e => nDR (by simpa [Value.ownBlock] using e)) (by omega)).mono ?_
        rintro e w9 ⟨cc,R2,rfl,hR2,hW2,hR2s,hv2,hgr9⟩
        have hjR : j + 1 + N ≤ R.length := by omega
        have hdl := digit_less hdlt.out hRs (by have := hQl.out;have := hRl.out;omega) hjR hI.out hDv.out (by rw [← hWv.out];exact hE.out) hS hW2 hR2s hv2
        obtain ⟨g9,hg9⟩ : ∃ g9,g9 = g2 - 1 := ⟨_,rfl⟩
        have hg1 := hdl.2
        have hg9i : ((g2 : Nat) : Int) - 1 = (g9 : Int) := by omega
        have hgz : g9 < 4294967296 := by omega
        have hdl1 := hdl.1
        rw [← hg9] at hdl1
        clear hg9 hdl
        have hDr9 : Row w9 gD 68 (D0.map U32) := Row.grown hD8 hgr9 (fun e => nDR (by simpa using e))
        have hQr9 : Row w9 gQ 68 (Q.map U32) := Row.grown hQ8 hgr9 (fun e => nQR (by simpa using e))
        have hbel9 : Below w.heap.size w w9 := Gb.bel hb8 hgr9 wgR
        have hjQ : j < Q.length := by have := hQl.out;omega
        have q9 := hQr9.cellV hjQ
        have q9f := hQr9.frozen j
        have hgB : g9 < 4294967296 := hgz
        have hI9 := hide (hdl1)
        have hQl2 : Hid ((Q.set j g9).length = M - N + 1) := by show _ = _;rw [List.length_set];exact hQl.out
        have hRl2 : Hid (R2.length = M + 1) := by show _ = _;rw [hW2.len,hl1];exact hRl.out
        clear hI hE hS hWv rlh g0 hl1 hjM hdl1 hgr9 hv2 hW2
        go_wp2
        go_roundw
        case rel =>
         exact ⟨j,Q.set j g9,R2,by omega,by go_num,hDr9.far nDQ _,hR2.far nRQ _,hQr9.setV j g9,hRl2,hQl2,hR2s,small_set hQs j hgB,hI9,Bel.st hbel9 (p := ⟨gQ,j,none⟩) wgQ _⟩
        case measure => first | (simp [intOf];done) | (simp [intOf];omega)
     ·have hti : ¬ (z : Int) < (p : Int) := by omega
      have hE := hide (guess_stop rlh.out hG.out (by omega) (by omega))
      replace hp := hide hp
      replace hz := hide hz
      clear hG
      have hDX := hDrd.out _ hDr
      have hgb0 := hE.out.gb
      have hjM : j + N + 1 ≤ R.length := by have := hRl.out;omega
      go_wp2_with fail
      refine (subtract gR j _ N g R D (.slice (some ⟨gD,0,none⟩) N N) _ (by exact hRr) hRs hjM (by exact hDX) hDs hDl (fun e => nDR (by simpa [Value.ownBlock] using e)) hgb0 (by omega)).mono ?_
      rintro e w8 ⟨bo,R1,rfl,hR1,hS,hgr8⟩
      have hD8 : Row w8 gD 68 (D0.map U32) := Row.grown (by exact hDr) hgr8 (fun e => nDR (by simpa using e))
      have hQ8 : Row w8 gQ 68 (Q.map U32) := Row.grown (by exact hQr) hgr8 (fun e => nQR (by simpa using e))
      have hb8 : Below w.heap.size w w8 := Gb.bel (Bel.drN hbelX _) hgr8 wgR
      have hl1 := hS.win.len
      clear hgr8 hDX
      cases bo
      ·obtain ⟨w9,hw9⟩ : ∃ w9,w9 = w8 := ⟨_,rfl⟩
       rw [← hw9] at hR1 hD8 hQ8 hb8 ⊢
       clear hw9
       have hjR : j + 1 + N ≤ R.length := by omega
       have hDr9 : Row w9 gD 68 (D0.map U32) := hD8
       have hQr9 : Row w9 gQ 68 (Q.map U32) := hQ8
       have hbel9 : Below w.heap.size w w9 := hb8
       have hjQ : j < Q.length := by have := hQl.out;omega
       have q9 := hQr9.cellV hjQ
       have q9f := hQr9.frozen j
       have hgB : g < 4294967296 := by have := hE.out.gb;omega
       have hI9 := hide (digit_right hdlt.out hRs (by have := hQl.out;have := hRl.out;omega) hjR hI.out hDv.out (by rw [← hWv.out];exact hE.out) hS)
       have hQl2 : Hid ((Q.set j g).length = M - N + 1) := by show _ = _;rw [List.length_set];exact hQl.out
       have hRl2 : Hid (R1.length = M + 1) := by show _ = _;rw [hl1];exact hRl.out
       have hR1s := hS.small
       clear hI hE hS hWv rlh g0 hl1 hjM
       go_wp2
       go_roundw
       case rel =>
        exact ⟨j,Q.set j g,R1,by omega,by go_num,hDr9.far nDQ _,hR1.far nRQ _,hQr9.setV j g,hRl2,hQl2,hR1s,small_set hQs j hgB,hI9,Bel.st hbel9 (p := ⟨gQ,j,none⟩) wgQ _⟩
       case measure => first | (simp [intOf];done) | (simp [intOf];omega)
      ·have hD8X := hDrd.out _ hD8
       go_wp2_with fail
       refine (restore gR j _ N R1 D (.slice (some ⟨gD,0,none⟩) N N) _ (by exact hR1) hS.small (by omega) (by exact hD8X) hDs hDl (fun e => nDR (by simpa [Value.ownBlock] using e)) (by omega)).mono ?_
       rintro e w9 ⟨cc,R2,rfl,hR2,hW2,hR2s,hv2,hgr9⟩
       have hjR : j + 1 + N ≤ R.length := by omega
       have hdl := digit_less hdlt.out hRs (by have := hQl.out;have := hRl.out;omega) hjR hI.out hDv.out (by rw [← hWv.out];exact hE.out) hS hW2 hR2s hv2
       obtain ⟨g9,hg9⟩ : ∃ g9,g9 = g - 1 := ⟨_,rfl⟩
       have hg1 := hdl.2
       have hg9i : ((g : Nat) : Int) - 1 = (g9 : Int) := by omega
       have hgz : g9 < 4294967296 := by omega
       have hdl1 := hdl.1
       rw [← hg9] at hdl1
       clear hg9 hdl
       have hDr9 : Row w9 gD 68 (D0.map U32) := Row.grown hD8 hgr9 (fun e => nDR (by simpa using e))
       have hQr9 : Row w9 gQ 68 (Q.map U32) := Row.grown hQ8 hgr9 (fun e => nQR (by simpa using e))
       have hbel9 : Below w.heap.size w w9 := Gb.bel hb8 hgr9 wgR
       have hjQ : j < Q.length := by have := hQl.out;omega
       have q9 := hQr9.cellV hjQ
       have q9f := hQr9.frozen j
       have hgB : g9 < 4294967296 := hgz
       have hI9 := hide (hdl1)
       have hQl2 : Hid ((Q.set j g9).length = M - N + 1) := by show _ = _;rw [List.length_set];exact hQl.out
       have hRl2 : Hid (R2.length = M + 1) := by show _ = _;rw [hW2.len,hl1];exact hRl.out
       clear hI hE hS hWv rlh g0 hl1 hjM hdl1 hgr9 hv2 hW2
       go_wp2
       go_roundw
       case rel =>
        exact ⟨j,Q.set j g9,R2,by omega,by go_num,hDr9.far nDQ _,hR2.far nRQ _,hQr9.setV j g9,hRl2,hQl2,hR2s,small_set hQs j hgB,hI9,Bel.st hbel9 (p := ⟨gQ,j,none⟩) wgQ _⟩
       case measure => first | (simp [intOf];done) | (simp [intOf];omega)
end Go.Proofs.YtldikghldcefcaaGreat
end
section
open Go.RowKit
set_option linter.unusedVariables false
set_option linter.unusedSimpArgs false
namespace Go.Proofs.YtldikghldcefcaaGreat
theorem limbs_len_le {m n : Nat} (h : m ≤ n) : (limbs m).length ≤ (limbs n).length := by
 rw [← length_limbs_lt]
 exact Nat.lt_of_le_of_lt h (length_limbs_lt.2 (Nat.le_refl _))
set_option maxHeartbeats 1000000 in
set_option maxRecDepth 100000 in
theorem divmod_long (va vb : Value) (m n : Nat) (w : World) (ha : NV w va m) (hb : NV w vb n) (hm : (limbs m).length ≤ 64) (hn : 2 ≤ (limbs n).length) (hge : n ≤ m) :
  Calls Tryz.prog 77 #[.agg #[va],.agg #[vb]] w (Nat3 (m / n) (m % n) w) := by
 obtain ⟨cv,hcmp,hcv⟩ : ∃ cv,cmpN m n = cv ∧ ¬ cv < 0 := by
  refine ⟨_,rfl,?_⟩
  unfold cmpN;rw [if_neg (by omega)];split <;> omega
 have hlen := limbs_len_le hge
 have hn64 : (limbs n).length ≤ 64 := by omega
 have cD := hide (fun X (hX : Below w.heap.size w X) => divideLong va vb (limbs m) (limbs n) X (ha.below hX) (hb.below hX) (small_limbs m) (small_limbs n) hn hlen hm (limbs_last (by omega)))
 rw [val_limbs,val_limbs] at cD
 obtain ⟨aa,ca,rfl,hla,hca,hra⟩ := Rd.form ha
 obtain ⟨ab,cb,rfl,hlb,hcb,hrb⟩ := Rd.form hb
 have n1 : ¬ (((limbs n).length : Nat) : Int) = 1 := by omega
 have n2 : ((((limbs n).length : Nat) : Int) == 1) = false := by simpa using n1
 have n0 : ¬ (((limbs n).length : Nat) : Int) = 0 := by omega
 have hn1 : 0 < (limbs n).length := by omega
 go_enter Tryz.func77,Tryz.ntmps77
 go_wp2_with fail
 refine (valid _ m _ (by exact (((ha.alloc _).alloc _).alloc _).alloc _) hm).mono ?_
 rintro e w1 ⟨rfl,hb1⟩
 have hp : DivPre w w1 aa ab m n ca cb := ⟨Bel.to (Bel.al (Bel.al (Bel.al (Bel.al (Below.refl _ _) _) _) _) _) hb1,by have := hb1.size;simp at this;omega,Bel.cellOf hb1 (by go_simp),Bel.cellOf hb1 (by go_simp),Bel.cellOf hb1 (by go_simp),Bel.cellOf hb1 (by go_simp),Bel.frozenOf hb1 (v := .slice none 0 0) (by go_simp) (by go_simp),Bel.frozenOf hb1 (v := .slice none 0 0) (by go_simp) (by go_simp)⟩
 clear hb1
 have d1 := hp.c1
 go_wp2_with fail
 refine (valid _ n _ (by exact hb.below hp.bel) hn64).mono ?_
 rintro e w2 ⟨rfl,hb2⟩
 replace hp := hp.keep hb2
 clear hb2 d1
 have d0 := hp.c0
 have d1 := hp.c1
 go_wp2_with fail
 refine (compare_lists _ _ _ _ m n _ rfl rfl (by exact hra.below hp.bel) (by exact hrb.below hp.bel)).mono ?_
 rintro e w3 ⟨rfl,k,rfl⟩
 replace hp := hp.keep (Bel.drN (Below.refl _ _) k)
 clear d0 d1
 rw [hcmp]
 replace hcmp := hide hcmp
 have d0 := hp.c0
 have d1 := hp.c1
 obtain ⟨w4,hw4⟩ : ∃ w4,w4 = w2.drewN k := ⟨_,rfl⟩
 rw [← hw4] at hp d0 d1 ⊢
 clear hw4
 go_wp2_with fail
 refine (cD.out w4 hp.bel).mono ?_
 rintro e w5 ⟨qv,rv,Q,S,rfl,hQ,hQs,hQv,hS,hSs,hSv,hb5⟩
 replace hp := hp.keep hb5
 obtain ⟨qa,qn,qc,rfl⟩ := Rd.shape hQ
 obtain ⟨ra,rn,rc,rfl⟩ := Rd.shape hS
 have cQ := trimmed _ Q w5 hQ hQs
 rw [hQv] at cQ
 have cR := hide (fun X (hX : Below w5.heap.size w5 X) => trimmed _ S X (hS.below hX) hSs)
 rw [hSv] at cR
 clear d0 d1 cD hQ hS hQv hSv hb5
 go_wp2_with fail
 refine cQ.mono ?_
 rintro e w7 ⟨u,rfl,hu,hb7⟩
 replace hp := hp.keep hb7
 go_wp2_with fail
 refine (cR.out w7 hb7).mono ?_
 rintro e w8 ⟨v,rfl,hv,hb8⟩
 replace hp := hp.keep hb8
 replace hu := hu.below hb8
 have hu1 := hu.setNe hp.c2 (fun _ h => by cases h) u
 have hv1 := hv.setNe hp.c2 (fun _ h => by cases h) u
 have c3' : (w8.setCell ⟨w.heap.size + 1 + 1,0,none⟩ u).cell? ⟨w.heap.size + 1 + 1 + 1,0,none⟩ = some (.slice none 0 0) := by
  have := hp.c3;go_simp
 have hu2 := hu1.setNe c3' (fun _ h => by cases h) v
 have hv2 := hv1.setNe c3' (fun _ h => by cases h) v
 have hbel := Bel.st (Bel.st hp.bel (p := ⟨w.heap.size + 1 + 1,0,none⟩) (by simp only [];omega) u) (p := ⟨w.heap.size + 1 + 1 + 1,0,none⟩) (by simp only [];omega) v
 have e2 := hp.c2
 have e3 := hp.c3
 have g2 := hp.f2
 have g3 := hp.f3
 obtain ⟨ao,n0,cp,rfl⟩ := Rd.shape hu
 obtain ⟨ao',n0',cp',rfl⟩ := Rd.shape hv
 go_wp2
 refine bodyPost_ret (v := .tuple #[.agg #[.slice ao n0 cp],.agg #[.slice ao' n0' cp'],.int .i64 0]) (by simp [results,Tryz.results77,go_sem,e2,e3]) rfl ⟨_,_,rfl,hu2,hv2,hbel⟩
theorem divmod_any (va vb : Value) (m n : Nat) (w : World) (ha : NV w va m) (hb : NV w vb n) (hm : (limbs m).length ≤ 64) (hn : (limbs n).length ≤ 64) (h0 : 0 < n) :
  Calls Tryz.prog 77 #[.agg #[va],.agg #[vb]] w (Nat3 (m / n) (m % n) w) := by
 by_cases hlt : m < n
 ·rw [Nat.div_eq_of_lt hlt,Nat.mod_eq_of_lt hlt]
  exact divmod_lt va vb m n w ha hb hm hn hlt
 ·by_cases h1 : n < 4294967296
  ·exact divmod_small va vb m n w ha hb hm h0 h1 (by omega)
  ·refine divmod_long va vb m n w ha hb hm ?_ (by omega)
   apply Nat.lt_of_not_le
   intro h
   have := (length_limbs_lt (n := n) (k := 1)).2 h
   rw [Nat.pow_one] at this
   exact h1 this
end Go.Proofs.YtldikghldcefcaaGreat
end
section
set_option linter.unusedVariables false
set_option linter.unusedSimpArgs false
namespace Go.Proofs.YtldikghldcefcaaGreat
open Go.RowKit
def wayP (g : GameD) (m x b : Nat) : List (Int × Int) := [(g.main,(m : Int)),(g.of - g.main,g.main - (m : Int)),(g.main - (m : Int),(x : Int)),(g.of - 2 * g.main + (m : Int),g.extra - (x : Int)),(g.bonus,(b : Int)),(g.bonusOf - g.bonus,g.bonus - (b : Int))]
def wayN (g : GameD) (m x b : Nat) : Nat := prodL ((wayP g m x b).map chP)
def winH (g : GameD) (t : Int) (m x b : Nat) : Nat := if wonC g m x b = t then wayN g m x b else 0
def winG (g : GameD) (t : Int) (m x : Nat) : Nat := sumTo (winH g t m x) (g.bonus.toNat + 1)
def winF (g : GameD) (t : Int) (m : Nat) : Nat := sumTo (winG g t m) (g.extra.toNat + 1)
def winC (g : GameD) (t : Int) : Nat := sumTo (winF g t) (g.main.toNat + 1)
theorem sumTo_mono {f : Nat → Nat} {m n : Nat} (h : m ≤ n) : sumTo f m ≤ sumTo f n := by
  induction n with
  | zero => obtain rfl : m = 0 := by omega
            exact Nat.le_refl _
  | succ n ih =>
    by_cases e : m = n + 1
    · subst e; exact Nat.le_refl _
    · have := ih (by omega); rw [sumTo]; omega
theorem sumTo_bound {f : Nat → Nat} {n K : Nat} (h : ∀ k,k < n → f k ≤ K) : sumTo f n ≤ n * K := by
 have h1 := sumTo_le (f := f) (g := fun _ => K) h
 rwa [sumTo_const] at h1
theorem mat_extra {g : GameD} (h : matB g = true) : 0 ≤ g.extra ∧ g.extra ≤ 4 := by
 unfold matB at h
 simp only [Bool.and_eq_true] at h
 obtain ⟨⟨⟨_,h6⟩,_⟩,_⟩ := h
 split at h6
 ·have := inB_iff.1 h6;omega
 ·rw [Bool.and_eq_true] at h6;have := inB_iff.1 h6.1;omega
structure ChoF (g : GameD) : Prop where
 m1 : 1 ≤ g.main
 m2 : g.main ≤ 10
 o1 : g.main ≤ g.of
 o2 : g.of ≤ 80
 b1 : 0 ≤ g.bonus
 b2 : g.bonus ≤ 4
 p1 : g.bonus ≤ g.bonusOf
 p2 : g.bonusOf ≤ 80
 e1 : 0 ≤ g.extra
 e2 : g.extra ≤ 4
theorem choF {g : GameD} (he : gameE g = 0) (hk : g.kind ≠ 2) : ChoF g := by
 have h := mat_facts (game_mat he)
 have h2 := mat_extra (game_mat he)
 exact ⟨by omega,by omega,h.2.2.2.2.2.2.2.1 hk,by omega,by omega,by omega,by omega,by omega,h2.1,h2.2⟩
theorem way_80 {g : GameD} (h : ChoF g) {m : Nat} (x b : Nat) (hm : (m : Int) ≤ g.main) : ∀ p ∈ wayP g m x b,p.1 ≤ 80 := by
 intro p hp
 have h1 := h.m1
 have h2 := h.m2
 have h3 := h.o1
 have h4 := h.o2
 have h5 := h.b1
 have h6 := h.b2
 have h7 := h.p2
 unfold wayP at hp
 simp only [List.mem_cons,List.not_mem_nil,or_false] at hp
 rcases hp with rfl | rfl | rfl | rfl | rfl | rfl <;> (simp only [];omega)
theorem way_limbs {g : GameD} (h : ChoF g) {m : Nat} (x b : Nat) (hm : (m : Int) ≤ g.main) : (limbs (wayN g m x b)).length ≤ 19 := by
 have h1 := limS_prod ((wayP g m x b).map chP)
 have h2 := limS_le (l := (wayP g m x b).map chP) (c := 3) (fun y hy => by
  obtain ⟨p,hp,rfl⟩ := List.mem_map.1 hy
  exact chZ_limbs p.1 p.2 (way_80 h x b hm p hp))
 rw [List.length_map] at h2
 have h3 : (wayP g m x b).length = 6 := rfl
 unfold wayN
 omega
theorem winC_limbs {g : GameD} (h : ChoF g) (t : Int) : (limbs (winC g t)).length ≤ 60 := by
 obtain ⟨K,hK⟩ : ∃ K,K = 4294967296 ^ 19 := ⟨_,rfl⟩
 have h1 : ∀ m,m < g.main.toNat + 1 → ∀ x b,winH g t m x b ≤ K := by
  intro m hm x b
  unfold winH
  split
  ·have := length_limbs_lt.2 (way_limbs h x b (show (m : Int) ≤ g.main by have := h.m1;omega))
   rw [← hK] at this
   omega
  ·omega
 have h2 : ∀ m,m < g.main.toNat + 1 → ∀ x,winG g t m x ≤ 5 * K := fun m hm x => Nat.le_trans (sumTo_bound fun b _ => h1 m hm x b) (Nat.mul_le_mul_right K (by have := h.b2;omega))
 have h3 : ∀ m,m < g.main.toNat + 1 → winF g t m ≤ 5 * (5 * K) := fun m hm => Nat.le_trans (sumTo_bound fun x _ => h2 m hm x) (Nat.mul_le_mul_right _ (by have := h.e2;omega))
 have h4 : winC g t ≤ 11 * (5 * (5 * K)) := Nat.le_trans (sumTo_bound fun m hm => h3 m hm) (Nat.mul_le_mul_right _ (by have := h.m2;omega))
 have h5 : winC g t < 4294967296 ^ 20 := by
  rw [Nat.pow_succ,← hK]
  have : 0 < K := by rw [hK];exact Nat.pow_pos (by omega)
  omega
 have := length_limbs_lt.1 h5
 omega
theorem win_part {g : GameD} {t : Int} {m x b : Nat} (hm : m < g.main.toNat + 1) (hx : x < g.extra.toNat + 1) (hb : b < g.bonus.toNat + 1) : sumTo (winF g t) m + sumTo (winG g t m) x + sumTo (winH g t m x) b + winH g t m x b ≤ winC g t := by
 have h1 : sumTo (winH g t m x) (b + 1) ≤ winG g t m x := sumTo_mono hb
 have h2 : sumTo (winG g t m) (x + 1) ≤ winF g t m := sumTo_mono hx
 have h3 : sumTo (winF g t) (m + 1) ≤ winC g t := sumTo_mono hm
 rw [sumTo] at h1 h2 h3
 omega
set_option maxHeartbeats 16000000 in
set_option maxRecDepth 100000 in
theorem owin_choose (g : GameD) (av tv : Value) (ms : List AddonM) (t : Int) (w : World) (rg : GameR w av tv ms g) (he : gameE g = 0) (hk : g.kind ≠ 2) :
  Calls Tryz.prog 30 #[gameVal g av tv,.int .i64 t] w (NatC (winC g t) 0 w) := by
 have hF := hide (choF he hk)
 have hlim := hide (winC_limbs hF.out t)
 have hk1 : (g.kind == 2) = false := by simpa using hk
 obtain ⟨P,hP⟩ : ∃ P,P = winC g t := ⟨_,rfl⟩
 rw [← hP] at hlim ⊢
 replace hP := hide hP
 have cW := hide (fun (m x b : Nat) X (hX : Below w.heap.size w X) => owon_any g av tv ms m x b X (rg.below hX))
 obtain ⟨aa,ac,rfl,hal,ham⟩ := rg.1.1.shape
 obtain ⟨ta,tc,rfl,htl,htm⟩ := rg.2.2.shape
 obtain ⟨an,han⟩ : ∃ an,an = ms.length := ⟨_,rfl⟩
 obtain ⟨tn,htn⟩ : ∃ tn,tn = g.tiers.length := ⟨_,rfl⟩
 rw [← han,← htn] at cW ⊢
 clear rg hal htl ham htm han htn he hk
 unfold gameVal at cW ⊢
 go_enter Tryz.func30,Tryz.ntmps30
 go_upto_region 1 with (fail)
 obtain ⟨W,hW⟩ : ∃ W,W = (w.alloc (Obj.cells #[.string g.name,.int .i64 g.kind,.int .i64 g.price,.int .i64 g.main,.int .i64 g.of,.int .i64 g.bonus,.int .i64 g.bonusOf,.int .i64 g.extra,.int .i64 g.draws,.int .i64 g.system,.int .i64 g.days,.int .i64 g.at_,.int .i64 g.close,.int .i64 g.cancel,.int .i64 g.expiry,.int .i64 g.pool,.int .i64 g.reserve,.int .i64 g.round,.int .i64 g.cap,.int .i64 g.rolls,(.slice aa an ac),(.slice ta tn tc)] 25)).alloc (Obj.cells #[.slice none 0 0] 30) := ⟨_,rfl⟩
 have bW : Below w.heap.size w W := by rw [hW];exact Bel.al (Bel.al (Below.refl _ _) _) _
 have r0 : GameAt W w.heap.size g (.slice aa an ac) (.slice ta tn tc) := by rw [hW];exact Row.alloc (Row.new _ _ _) _
 have rR : Row W (w.heap.size + 1) 30 [.slice none 0 0] := by rw [hW];exact Row.at2 _ _ _ _
 rw [← hW]
 clear hW
 have ck := r0.kind
 have cm := r0.main
 have ce := r0.extra
 have cb := r0.bonus
 have b1 := hF.out.m1
 have b2 := hF.out.m2
 have b3 := hF.out.o1
 have b4 := hF.out.o2
 have b5 := hF.out.b1
 have b6' := hF.out.b2
 have b7 := hF.out.p1
 have b8 := hF.out.p2
 have b9 := hF.out.e1
 have b0 := hF.out.e2
 go_upto_region 4 with (fail)
 obtain ⟨b6,hb6⟩ : ∃ b6,b6 = W.heap.size := ⟨_,rfl⟩
 obtain ⟨w3,hw3⟩ : ∃ X,X = W.alloc (Obj.cells #[.slice none 0 0] 30) := ⟨_,rfl⟩
 have r6 : Row w3 b6 30 [.slice none 0 0] := by rw [hw3,hb6];exact Row.newOf _ rfl
 have b3' : Below W.heap.size W w3 := by rw [hw3];exact Bel.al (Below.refl _ _) _
 have h6W : W.heap.size ≤ b6 := by omega
 have h6r : w.heap.size + 1 < b6 := by have := rR.lt;omega
 replace rR := Row.keep rR b3'
 rw [← hw3,← hb6]
 clear hw3 hb6
 have cm3 := Bel.cellOf b3' cm
 have ce3 := Bel.cellOf b3' ce
 have cb3 := Bel.cellOf b3' cb
 go_wp2
 go_loopg [24] (g.main.toNat + 1) (fun gh tm wr => ∃ (m s : Nat) (sa : Option Addr) (sn sc : Nat),gh = g.main.toNat + 1 - m ∧ (m : Int) ≤ g.main + 1 ∧ tm = .int .i64 (m : Int) ∧ Hid (s = sumTo (winF g t) m) ∧ Row wr b6 30 [.slice sa sn sc] ∧ NV wr (.slice sa sn sc) s ∧ Row wr (w.heap.size + 1) 30 [.slice none 0 0] ∧ Below W.heap.size W wr)
 case atStart => exact ⟨0,0,none,0,0,rfl,by omega,rfl,rfl,r6,NV.zero _,rR,b3'⟩
 case round =>
  clear r6 rR cm3 ce3 cb3 b3'
  obtain ⟨m,s,sa,sn,sc,hgm,hm,rfl,hs,r6,hsv,rR,hB⟩ := hrel
  replace hgm := hide hgm
  by_cases hml : (m : Int) < g.main + 1
  ·have ce3 := Bel.cellOf hB ce
   go_wp2
   obtain ⟨wo,hwo⟩ : ∃ wo,wo = wr := ⟨_,rfl⟩
   rw [← hwo] at r6 hsv rR hB ⊢
   clear hwo ce3
   go_loopg [30] (g.extra.toNat + 1) (fun gh tx wr => ∃ (x s : Nat) (sa : Option Addr) (sn sc : Nat),gh = g.extra.toNat + 1 - x ∧ (x : Int) ≤ g.extra + 1 ∧ tx = .int .i64 (x : Int) ∧ Hid (s = sumTo (winF g t) m + sumTo (winG g t m) x) ∧ Row wr b6 30 [.slice sa sn sc] ∧ NV wr (.slice sa sn sc) s ∧ Row wr (w.heap.size + 1) 30 [.slice none 0 0] ∧ Below W.heap.size W wr)
   case atStart => exact ⟨0,s,sa,sn,sc,rfl,by omega,rfl,by show _ = _;rw [hs.out];rfl,r6,hsv,rR,hB⟩
   case round =>
    clear r6 hsv rR hB hs
    obtain ⟨x,s,sa,sn,sc,hgx,hx,rfl,hs,r6,hsv,rR,hB⟩ := hrel
    replace hgx := hide hgx
    by_cases hxl : (x : Int) < g.extra + 1
    ·have cb3 := Bel.cellOf hB cb
     go_wp2
     obtain ⟨wo2,hwo2⟩ : ∃ wo,wo = wr := ⟨_,rfl⟩
     rw [← hwo2] at r6 hsv rR hB ⊢
     clear hwo2 cb3
     go_loopg [36] (g.bonus.toNat + 1) (fun gh tb wr => ∃ (b s : Nat) (sa : Option Addr) (sn sc : Nat),gh = g.bonus.toNat + 1 - b ∧ (b : Int) ≤ g.bonus + 1 ∧ tb = .int .i64 (b : Int) ∧ Hid (s = sumTo (winF g t) m + sumTo (winG g t m) x + sumTo (winH g t m x) b) ∧ Row wr b6 30 [.slice sa sn sc] ∧ NV wr (.slice sa sn sc) s ∧ Row wr (w.heap.size + 1) 30 [.slice none 0 0] ∧ Below W.heap.size W wr)
     case atStart => exact ⟨0,s,sa,sn,sc,rfl,by omega,rfl,by show _ = _;rw [hs.out];rfl,r6,hsv,rR,hB⟩
     case round =>
      clear r6 hsv rR hB hs
      obtain ⟨b,s,sa,sn,sc,hgb,hb,rfl,hs,r6,hsv,rR,hB⟩ := hrel
      replace hgb := hide hgb
      have bel := Bel.to bW hB
      by_cases hbl : (b : Int) < g.bonus + 1
      ·have hpart := hide (win_part (g := g) (t := t) (m := m) (x := x) (b := b) (by omega) (by omega) (by omega))
       have rg9 := r0.keep hB
       obtain ⟨tt,htt⟩ : ∃ tt,tt = wonC g m x b := ⟨_,rfl⟩
       have cW2 := hide (cW.out m x b wr bel)
       rw [← htt] at cW2
       have hbl2 := hide hbl
       go_wp2_with (first | (refine wpList_load_row rfl 25 _ rfl _ rfl _ _ _ _ rg9 Tryz.underlying25 rfl (by kernel_rfl) ?_) | fail)
       refine cW2.out.mono ?_
       rintro e w7 ⟨rfl,hb7⟩
       clear cW2 rg9
       replace r6 := Row.keep r6 hb7
       replace rR := Row.keep rR hb7
       replace hsv := Rd.below hsv hb7
       replace hB := Bel.to hB hb7
       replace bel := Bel.to bel hb7
       clear hb7
       by_cases htier : tt = t
       ·have ht1 : (tt != t) = false := by simpa using htier
        have hval : Hid (winH g t m x b = wayN g m x b) := by show _ = _;unfold winH;rw [if_pos (by rw [← htt];exact htier)]
        have h80 := hide (way_80 hF.out x b (show (m : Int) ≤ g.main by omega))
        have hwl := hide (way_limbs hF.out x b (show (m : Int) ≤ g.main by omega))
        have cm7 := Bel.cellOf hB r0.main
        have co7 := Bel.cellOf hB r0.of
        have ce7 := Bel.cellOf hB r0.extra
        have cb7 := Bel.cellOf hB r0.bonus
        have cp7 := Bel.cellOf hB r0.bonusOf
        have cC := hide (fun X (hX : Row X w7.heap.size 98 ((wayP g m x b).flatMap pairC)) => ochosen_any _ _ X (Row.pairs hX rfl (by simp [wayP])) h80.out (by simp [wayP]))
        clear htt htier
        go_wp2_with fail
        refine (cC.out _ (Row.newOf _ rfl)).mono ?_
        rintro e w8 ⟨u,rfl,hu,hb8⟩
        obtain ⟨ua,ul,uc,rfl⟩ := Rd.shape hu
        have hb78 : Below w7.heap.size w7 w8 := Bel.one _ hb8
        replace r6 := Row.keep r6 hb78
        replace rR := Row.keep rR hb78
        replace hsv := Rd.below hsv hb78
        replace hB := Bel.to hB hb78
        clear hb8 hb78 cC cm7 co7 ce7 cb7 cp7 h80
        obtain ⟨y,hy⟩ : ∃ y,y = wayN g m x b := ⟨_,rfl⟩
        have hu : NV w8 (.slice ua ul uc) y := by rw [hy];exact hu
        rw [← hy] at hval hwl
        have hsy : s + y ≤ P := by have := hpart.out;rw [← hP.out,hval.out] at this;have := hs.out;omega
        have hl1 : (limbs (s + y)).length ≤ 64 := by have := limbs_len_le hsy;have := hlim.out;omega
        have hl2 : (limbs s).length ≤ 64 := by have := limbs_len_le (Nat.le_trans (Nat.le_add_right s y) hsy);have := hlim.out;omega
        have hl3 : (limbs y).length ≤ 64 := by have := hwl.out;omega
        have hs2 : Hid (s + y = sumTo (winF g t) m + sumTo (winG g t m) x + sumTo (winH g t m x) (b + 1)) := by show _ = _;rw [sumTo,hval.out];have := hs.out;omega
        clear hy hval hwl hpart hs hsy
        go_upto_region 15 with (fail)
        obtain ⟨w9,hw9⟩ : ∃ X,X = w8.alloc (.cells #[.slice ua ul uc] 30) := ⟨_,rfl⟩
        have b9' : Below w8.heap.size w8 w9 := by rw [hw9];exact Bel.al (Below.refl _ _) _
        have r9 : Row w9 w8.heap.size 30 [.slice ua ul uc] := by rw [hw9];exact Row.newOf _ rfl
        rw [← hw9]
        clear hw9
        replace r6 := Row.keep r6 b9'
        replace rR := Row.keep rR b9'
        replace hsv := Rd.below hsv b9'
        replace hu := Rd.below hu b9'
        replace hB := Bel.to hB b9'
        have c6 := r6.cell? 0
        have c9 := r9.cell? 0
        simp only [List.getElem?_cons_zero] at c6 c9
        clear b9'
        go_wp2_with fail
        refine (add_any _ _ s y _ hsv hu hl2 hl3).mono ?_
        rintro e w10 ⟨v,c,rfl,hc,hv,hb10⟩
        have hc0 := hc.out
        rw [if_pos hl1] at hc0 hv
        subst hc0
        obtain ⟨va,vl,vc,rfl⟩ := Rd.shape hv
        replace r6 := Row.keep r6 hb10
        replace rR := Row.keep rR hb10
        replace hB := Bel.to hB hb10
        clear hb10 hu hsv r9 c9 c6 hc
        have c6 := r6.cell? 0
        have f6 := r6.frozen 0
        simp only [List.getElem?_cons_zero] at c6
        have hv2 := Rd.setNe hv c6 (fun _ h => by cases h) (.slice va vl vc)
        have r62 := Row.set r6 0 (.slice va vl vc)
        simp only [zsB] at r62
        have rR2 := Row.far rR (p := ⟨b6,0,none⟩) (by simp only [];omega) (.slice va vl vc)
        have hB2 := Bel.st hB (p := ⟨b6,0,none⟩) h6W (.slice va vl vc)
        clear hl1 hl2 hl3 hv
        go_wp2
        go_roundg (g.bonus.toNat + 1 - (b + 1))
        case measure => have := hgb.out;have := hbl2.out;omega
        case rel => exact ⟨b + 1,s + y,va,vl,vc,rfl,by have := hbl2.out;omega,by go_num,hs2,r62,hv2,rR2,hB2⟩
       ·have ht1 : (tt != t) = true := by simpa using htier
        have hs2 : Hid (s = sumTo (winF g t) m + sumTo (winG g t m) x + sumTo (winH g t m x) (b + 1)) := by
         have h0 : winH g t m x b = 0 := by unfold winH;rw [if_neg (by rw [← htt];exact htier)]
         show _ = _
         rw [sumTo,h0,Nat.add_zero]
         exact hs.out
        clear htt htier hs hpart
        go_wp2
        go_roundg (g.bonus.toNat + 1 - (b + 1))
        case measure => have := hgb.out;have := hbl2.out;omega
        case rel => exact ⟨b + 1,s,sa,sn,sc,rfl,by have := hbl2.out;omega,by go_num,hs2,r6,hsv,rR,hB⟩
      ·have hbn : b = g.bonus.toNat + 1 := by omega
       have hs2 : Hid (s = sumTo (winF g t) m + sumTo (winG g t m) (x + 1)) := by show _ = _;rw [sumTo,hs.out,hbn,Nat.add_assoc];rfl
       replace hbn := hide hbn
       have hxl2 := hide hxl
       clear hs
       go_wp2
       go_roundg (g.extra.toNat + 1 - (x + 1))
       case measure => have := hgx.out;have := hxl2.out;omega
       case rel => exact ⟨x + 1,s,sa,sn,sc,rfl,by have := hxl2.out;omega,by go_num,hs2,r6,hsv,rR,hB⟩
    ·have hxn : x = g.extra.toNat + 1 := by omega
     have hs2 : Hid (s = sumTo (winF g t) (m + 1)) := by show _ = _;rw [sumTo,hs.out,hxn];rfl
     replace hxn := hide hxn
     have hml2 := hide hml
     clear hs
     go_wp2
     go_roundg (g.main.toNat + 1 - (m + 1))
     case measure => have := hgm.out;have := hml2.out;omega
     case rel => exact ⟨m + 1,s,sa,sn,sc,rfl,by have := hml2.out;omega,by go_num,hs2,r6,hsv,rR,hB⟩
  ·have hmn : m = g.main.toNat + 1 := by omega
   have hp : NV wr (.slice sa sn sc) P := by rw [hP.out];unfold winC;rw [← hmn,← hs.out];exact hsv
   have c6 := r6.cell? 0
   simp only [List.getElem?_cons_zero] at c6
   have bel := Bel.to bW hB
   clear hsv hs
   replace hmn := hide hmn
   have cR := rR.cell? 0
   have fR := rR.frozen 0
   simp only [List.getElem?_cons_zero] at cR
   have hf := Rd.setNe hp cR (fun _ h => by cases h) (.slice sa sn sc)
   have belf := Bel.st bel (p := ⟨w.heap.size + 1,0,none⟩) (by simp only [];omega) (.slice sa sn sc)
   go_wp2
   exact bodyPost_ret (v := .tuple #[.agg #[(.slice sa sn sc)],.int .i64 0]) (by simp [results,Tryz.results30,go_sem,cR]) rfl ⟨_,rfl,hf,belf⟩
end Go.Proofs.YtldikghldcefcaaGreat
end

/- Lemmas, merged out of smaller texts (wip/tools/mergedce.py). No condition. -/
import Derived.Deep.RegionHeld3
import Derived.Deep.MidRow
import Derived.Deep.DeepCutAuto
import Derived.Deep.RegionWith
import Derived.Laws.Rows
import Derived.Deep.LoopGhost
import Derived.BigQuiet
import Derived.Test.YtldikghldcefcaaGreatHC
import Derived.Test.YtldikghldcefcaaGreatHN
import Derived.Test.YtldikghldcefcaaGreatHB
import Derived.Test.YtldikghldcefcaaGreatHCore
import Derived.Test.YtldikghldcefcaaGreatHH
import Derived.Test.YtldikghldcefcaaGreatHD
import Derived.Test.YtldikghldcefcaaGreatHE
section
open Go.RowKit
set_option linter.unusedVariables false
set_option linter.unusedSimpArgs false
namespace Go.Proofs.YtldikghldcefcaaGreat
theorem half_step {a L : List Nat} {k r x : Nat} (hk : k + 1 ≤ a.length) (hL : L.length = a.length) (h : dval (a.drop (k + 1)) = 2 * dval (L.drop (k + 1)) + r) (hx : x = 65536 * r + a[k]) :
  dval (a.drop k) = 2 * dval ((L.set k (x / 2)).drop k) + x % 2 := by
 have h1 : (L.set k (x / 2)).drop k = (x / 2) :: L.drop (k + 1) := by
  rw [List.drop_eq_getElem_cons (by rw [List.length_set];omega),List.getElem_set_self,List.drop_set_of_lt (by omega)]
 rw [List.drop_eq_getElem_cons (show k < a.length by omega),h1,dval,dval,h]
 omega
set_option maxHeartbeats 4000000 in
set_option maxRecDepth 100000 in
theorem rhalf (v : Value) (m : Nat) (w : World) (h : DV w v m) (lm : (digs m).length ≤ 1000) :
  Calls Tryz.prog 131 #[v] w (SomeDig (m / 2) w) := by
 unfold DV at h
 have SA := hide (dsmall_digs m)
 have em := hide (dval_digs m)
 obtain ⟨a,hae⟩ : ∃ a,a = digs m := ⟨_,rfl⟩
 rw [← hae] at h SA em lm
 clear hae
 obtain ⟨aa,ca,rfl,hla,hca,hra⟩ := Rd.form h
 clear h
 go_enter Tryz.func131,Tryz.ntmps131
 go_wp2_with (with_reducible refine wpList_make_row _ rfl _ _ 53 rfl 3 (.int .i64 0) 8 Tryz.underlying53 infoInt rfl .i64 .i64 _ _ a.length a.length rfl rfl (by omega) (by omega) (Nat.le_refl _) (by omega) (by omega) ?_;intro w2 hrow hb2 hz2)
 obtain ⟨g,hg⟩ : ∃ g,g = w.heap.size := ⟨_,rfl⟩
 have hgs : w.heap.size ≤ g := by omega
 rw [← hg] at hrow ⊢
 clear hz2 hg
 go_wp2
 go_loopw [4,5] (fun tr ti wr => ∃ (k r : Nat) (L : List Nat),k ≤ a.length ∧ tr = .int .i64 (r : Int) ∧ ti = .int .i64 ((k : Int) - 1) ∧ r ≤ 1 ∧ Row wr g 3 (L.map D64) ∧ Hid (L.length = a.length) ∧ Hid (DSmall L) ∧ Hid (dval (a.drop k) = 2 * dval (L.drop k) + r) ∧ w2.grownBy wr (some g)) (fun _ ti _ => (intOf ti + 1).toNat)
 case atStart =>
  exact ⟨a.length,0,List.replicate a.length 0,Nat.le_refl _,rfl,rfl,by omega,by rw [List.map_replicate];exact hrow,by show _ = _;simp,dsmall_zeros _,by show _ = _;simp [dval],Gb.refl _ _⟩
 case round =>
  obtain ⟨k,r,L,hk,rfl,rfl,hr,hrow,hLl,hLs,hLv,hgb⟩ := hrel
  by_cases hk0 : k = 0
  ·subst hk0
   have hv := hLv.out
   simp only [List.drop_zero] at hv
   rw [em.out] at hv
   have hq : Hid (dval L = m / 2) := by show _ = _;omega
   have hrd := hrow.rdAll (n := a.length) (c := a.length) hLl.out.symm (Nat.le_refl _) (by omega)
   have cT := hide (rtrim _ L _ hrd hLs.out)
   rw [hq.out] at cT
   have hbel := Gb.bel hb2 hgb hgs
   clear hv hLv hrd hq
   go_wp2_with fail
   refine cT.out.mono ?_
   rintro e w5 ⟨u,rfl,hu,hb5,hown⟩
   obtain ⟨ua,un,uc,rfl⟩ := Rd.shape hu
   go_wp2
   go_ret
   exact ⟨_,rfl,hu,Bel.to hbel hb5,fun q hq => by have h9 := hown q hq;simp [Value.ownBlock] at h9;omega⟩
  ·obtain ⟨j,rfl⟩ : ∃ j,k = j + 1 := ⟨k - 1,by omega⟩
   have ej : (((j + 1 : Nat) : Int) - 1) = (j : Int) := by omega
   rw [ej]
   clear ej hk0
   have hja : j < a.length := by omega
   have hLlo := hLl.out
   have hjL : j < L.length := by omega
   obtain ⟨b,off,rfl,hb,hcell⟩ := hra.at_ hja
   have hbg : b ≠ g := by omega
   have e1 := Gb.cellOf hgb (Bel.cellOf hb2 (hcell j hja)) hbg
   have e3 := hrow.cellV hjL
   have e4 := hrow.frozen j
   have hds := dsmall_get SA.out hja
   obtain ⟨d,hd⟩ : ∃ d,d = a[j] := ⟨_,rfl⟩
   rw [← hd] at e1 hds
   obtain ⟨x,hx⟩ : ∃ x,x = 65536 * r + d := ⟨_,rfl⟩
   have hst := hide (half_step (L := L) (x := x) (show j + 1 ≤ a.length by omega) hLl.out hLv.out (by rw [hx,hd]))
   have xi : ((65536 : Int) * (r : Int) + (d : Int)) = (x : Int) := by omega
   have xb : x < 131072 := by omega
   obtain ⟨q,hq⟩ : ∃ q,q = x / 2 := ⟨_,rfl⟩
   obtain ⟨s,hs⟩ : ∃ s,s = x % 2 := ⟨_,rfl⟩
   rw [← hq,← hs] at hst
   have qi : (x : Int) / 2 = (q : Int) := by omega
   have si : (x : Int) % 2 = (s : Int) := by omega
   have qt : (x : Int).tdiv 2 = (q : Int) := by rw [Int.tdiv_eq_ediv_of_nonneg (by omega)];exact qi
   have st : (x : Int).tmod 2 = (s : Int) := by rw [Int.tmod_eq_emod_of_nonneg (by omega)];exact si
   have wq : IntKind.i64.wrap (q : Int) = (q : Int) := by rw [IntKind.wrap_i64];omega
   have qb : q < 65536 := by omega
   have sb : s ≤ 1 := by omega
   clear hcell hLlo hd hx hLv hq hs qi si
   go_wp2
   go_roundw
   case rel =>
    exact ⟨j,s,L.set j q,by omega,rfl,by go_num,sb,hrow.setV j q,by show _ = _;rw [List.length_set];exact hLl.out,dsmall_set hLs.out j qb,hst,Gb.set hgb (.inl rfl) _⟩
   case measure => first | (simp [intOf];done) | (simp [intOf];omega)
theorem gcd_ee {x y : Nat} (hx : x % 2 = 0) (hy : y % 2 = 0) : Nat.gcd x y = 2 * Nat.gcd (x / 2) (y / 2) := by
 rw [← Nat.gcd_mul_left]
 congr 1 <;> omega
theorem gcd_odd {x y : Nat} (hx : x % 2 = 0) (hy : y % 2 ≠ 0) : Nat.gcd x y = Nat.gcd (x / 2) y := by
 have h : Nat.Coprime y 2 := by
  rw [Nat.coprime_comm]
  unfold Nat.Coprime
  rw [Nat.gcd_rec,show y % 2 = 1 by omega]
  exact Nat.gcd_one_left 2
 have e : x = 2 * (x / 2) := by omega
 rw [e,Nat.mul_div_cancel_left _ (by omega),Nat.gcd_comm,Nat.gcd_comm (x / 2)]
 exact Nat.Coprime.gcd_mul_left_cancel_right _ h.symm
theorem gcd_less {x y : Nat} (h : y ≤ x) : Nat.gcd x y = Nat.gcd (x - y) y := by
 have e : x = (x - y) + y := by omega
 conv => lhs;rw [e]
 rw [Nat.gcd_add_self_left]
theorem dig_head {m : Nat} (h : m ≠ 0) : (digs m).length ≠ 0 ∧ (digs m)[0]? = some (m % 65536) := by
 rw [digs_pos h]
 exact ⟨by simp,rfl⟩
theorem half_len {m k : Nat} (h : (digs m).length ≤ k) : (digs (m / 2)).length ≤ k := by
 have := digs_len_le (Nat.div_le_self m 2)
 omega
theorem sub_len {m n k : Nat} (h : (digs m).length ≤ k) : (digs (m - n)).length ≤ k := by
 have := digs_len_le (Nat.sub_le m n)
 omega
theorem pow_lt_of {t g z : Nat} (h : 2 ^ t * g = z) (hg : 0 < g) : 2 ^ t ≤ z := by
 have := Nat.mul_le_mul_left (2 ^ t) hg
 omega
theorem twos_lt {t g z k : Nat} (h : 2 ^ t * g = z) (hz : 0 < z) (hd : (digs z).length ≤ k) : t < 16 * k := by
 have h1 : z < 65536 ^ k := length_digs_lt.2 hd
 rw [show (65536 : Nat) = 2 ^ 16 by rfl,← Nat.pow_mul] at h1
 apply Nat.lt_of_not_le
 intro hc
 have h2 : 2 ^ (16 * k) ≤ 2 ^ t := Nat.pow_le_pow_right (by omega) hc
 have hg : 0 < g := by
  rcases Nat.eq_zero_or_pos g with h0 | h0
  ·rw [h0,Nat.mul_zero] at h;omega
  ·exact h0
 have h3 := pow_lt_of h hg
 omega
theorem pow_double {i t s z : Nat} (h : 2 ^ t * s = z) (hi : i ≤ t) : 2 ^ i * s ≤ z := by
 rw [← h]
 exact Nat.mul_le_mul_right s (Nat.pow_le_pow_right (by omega) hi)
set_option maxHeartbeats 16000000 in
set_option maxRecDepth 100000 in
theorem rgcd_any (va vb : Value) (m n : Nat) (w : World) (ha : NV w va m) (hb : NV w vb n) (hm : (limbs m).length ≤ 64) (hn : (limbs n).length ≤ 64) (h0 : 0 < m + n) :
  Calls Tryz.prog 111 #[.agg #[va],.agg #[vb]] w (NatC (Nat.gcd m n) 0 w) := by
 have dm := hide (digs_limbs_len hm)
 have dn := hide (digs_limbs_len hn)
 have hgz : 0 < Nat.gcd m n := by
  rcases Nat.eq_zero_or_pos m with h | h
  ·rw [h,Nat.gcd_zero_left];omega
  ·exact Nat.gcd_pos_of_pos_left n h
 have hgd : (digs (Nat.gcd m n)).length ≤ 128 := by
  rcases Nat.eq_zero_or_pos m with h | h
  ·rw [h,Nat.gcd_zero_left];exact dn.out
  ·have h1 := digs_len_le (Nat.gcd_le_left n h)
   have := dm.out
   omega
 obtain ⟨z,hz⟩ : ∃ z,z = Nat.gcd m n := ⟨_,rfl⟩
 rw [← hz] at hgz hgd ⊢
 replace hz := hide hz
 replace hgd := hide hgd
 obtain ⟨aa,la,ca,rfl⟩ := Rd.shape ha
 obtain ⟨ab,lb,cb,rfl⟩ := Rd.shape hb
 have rR0 : ∀ o o',Row (((w.alloc o).alloc o').alloc (.cells #[.slice none 0 0] 30)) (w.heap.size + 2) 30 [.slice none 0 0] := fun o o' => by
  have h := Row.new ((w.alloc o).alloc o') 30 [.slice none 0 0]
  simpa using h
 go_enter Tryz.func111,Tryz.ntmps111
 go_wp2_with fail
 refine (rvalid _ m _ (Rd.alloc (Rd.alloc (Rd.alloc ha _) _) _) hm).mono ?_
 rintro e w1 ⟨rfl,hb1⟩
 have c10 : w1.cell? ⟨w.heap.size,0,none⟩ = some (.slice aa la ca) := Bel.cellOf hb1 (by go_simp)
 have c11 : w1.cell? ⟨w.heap.size + 1,0,none⟩ = some (.slice ab lb cb) := Bel.cellOf hb1 (by go_simp)
 have rR := Row.keep (rR0 _ _) hb1
 have hbw := Bel.three _ _ _ hb1
 have hz1 : w.heap.size + 2 < w1.heap.size := by have := hb1.size;simp at this;omega
 clear hb1 rR0
 go_wp2_with fail
 refine (rvalid _ n _ (Rd.below hb hbw) hn).mono ?_
 rintro e w2 ⟨rfl,hb2⟩
 replace c10 := Bel.cellOf hb2 c10
 replace c11 := Bel.cellOf hb2 c11
 replace rR := Row.keep rR hb2
 replace hbw := Bel.to hbw hb2
 replace hz1 : w.heap.size + 2 < w2.heap.size := by have := hb2.size;omega
 clear hb2
 go_wp2_with fail
 refine (halves _ m _ (Rd.below ha hbw) (by omega)).mono ?_
 rintro e w3 ⟨xv,rfl,hxv,hb3,-⟩
 obtain ⟨xa,xn,xc,rfl⟩ := Rd.shape hxv
 replace c11 := Bel.cellOf hb3 c11
 replace rR := Row.keep rR hb3
 replace hbw := Bel.to hbw hb3
 replace hz1 : w.heap.size + 2 < w3.heap.size := by have := hb3.size;omega
 clear hb3 c10
 go_wp2_with fail
 refine (halves _ n _ (Rd.below hb hbw) (by omega)).mono ?_
 rintro e w4 ⟨yv,rfl,hyv,hb4,-⟩
 obtain ⟨ya,yn,yc,rfl⟩ := Rd.shape hyv
 replace rR := Row.keep rR hb4
 replace hbw := Bel.to hbw hb4
 replace hxv := Rd.below hxv hb4
 replace hz1 : w.heap.size + 2 < w4.heap.size := by have := hb4.size;omega
 clear hb4 c11 ha hb
 go_wp2
 go_loopg [6,7,8] (m + n) (fun gh tx ty tt wr => ∃ (x y t : Nat) (xa : Option Addr) (xn xc : Nat) (ya : Option Addr) (yn yc : Nat),gh = x + y ∧ tx = .slice xa xn xc ∧ ty = .slice ya yn yc ∧ tt = .int .i64 (t : Int) ∧ DV wr (.slice xa xn xc) x ∧ DV wr (.slice ya yn yc) y ∧ Hid (2 ^ t * Nat.gcd x y = z) ∧ Hid ((digs x).length ≤ 128) ∧ Hid ((digs y).length ≤ 128) ∧ Hid (0 < x + y) ∧ t < 1000000 ∧ Below w.heap.size w wr ∧ Row wr (w.heap.size + 2) 30 [.slice none 0 0])
 case atStart => exact ⟨m,n,0,xa,xn,xc,ya,yn,yc,rfl,rfl,rfl,rfl,hxv,hyv,by show _ = _;rw [Nat.pow_zero,Nat.one_mul,← hz.out],dm,dn,h0,by omega,hbw,rR⟩
 case round =>
  clear hxv hyv hbw rR hz1 dm dn
  obtain ⟨x,y,t,xa,xn,xc,ya,yn,yc,hgh,rfl,rfl,rfl,hx,hy,hg,dx,dy,hpos,htb,bel,rR⟩ := hrel
  replace hgh := hide hgh
  have htb2 : Hid (t + 1 < 1000000) := by show _ < _;have := twos_lt hg.out hgz hgd.out;omega
  have lx := Rd.len_eq hx
  have ly := Rd.len_eq hy
  by_cases hx0 : x = 0
  ·obtain rfl : xn = 0 := by rw [lx,hx0,digs_zero];rfl
   replace hx0 := hide hx0
   have hgs : Hid (2 ^ t * (x + y) = z) := by show _ = _;rw [← hg.out,hx0.out,Nat.gcd_zero_left,Nat.zero_add]
   clear lx ly hg htb2 hpos
   go_wp2_with fail
   refine (radd _ _ x y _ hx hy (by have := dx.out;omega) (by have := dy.out;omega)).mono ?_
   rintro e w5 ⟨lv,rfl,hl,hb5,-⟩
   obtain ⟨va,vn,vc,rfl⟩ := Rd.shape hl
   replace bel := Bel.to bel hb5
   replace rR := Row.keep rR hb5
   obtain ⟨s,hs⟩ : ∃ s,s = x + y := ⟨_,rfl⟩
   rw [← hs] at hl hgs
   clear hs hb5 hx hy
   go_wp2
   go_loopg [9,10] t (fun gh tl ti wr => ∃ (i : Nat) (va : Option Addr) (vn vc : Nat),gh = t - i ∧ i ≤ t ∧ tl = .slice va vn vc ∧ ti = .int .i64 (i : Int) ∧ DV wr (.slice va vn vc) (2 ^ i * s) ∧ Below w.heap.size w wr ∧ Row wr (w.heap.size + 2) 30 [.slice none 0 0])
   case atStart => exact ⟨0,va,vn,vc,rfl,Nat.zero_le _,rfl,rfl,by rw [Nat.pow_zero,Nat.one_mul];exact hl,bel,rR⟩
   case round =>
    clear hl bel rR
    obtain ⟨i,va,vn,vc,hgi,hi,rfl,rfl,hl,bel,rR⟩ := hrel
    replace hgi := hide hgi
    by_cases hit : i < t
    ·have hii : (i : Int) < (t : Int) := by omega
     have hdl : (digs (2 ^ i * s)).length ≤ 1000 := by
      have h1 := digs_len_le (pow_double hgs.out hi)
      have := hgd.out
      omega
     have hdb : Hid (2 ^ i * s + 2 ^ i * s = 2 ^ (i + 1) * s) := by show _ = _;rw [Nat.pow_succ];grind
     have hit2 := hide hit
     have cA := hide (radd _ _ (2 ^ i * s) (2 ^ i * s) _ hl hl hdl hdl)
     rw [hdb.out] at cA
     clear hdl hdb
     go_wp2_with fail
     refine cA.out.mono ?_
     rintro e w6 ⟨u,rfl,hu,hb6,-⟩
     obtain ⟨ua,un,uc,rfl⟩ := Rd.shape hu
     clear cA hl
     go_wp2
     go_roundg (t - (i + 1))
     case measure => have := hgi.out;have := hit2.out;omega
     case rel => exact ⟨i + 1,ua,un,uc,rfl,by have := hit2.out;omega,rfl,by go_num,hu,Bel.to bel hb6,Row.keep rR hb6⟩
    ·obtain rfl : i = t := by omega
     rw [hgs.out] at hl
     have hit2 : ¬ (i : Int) < (i : Int) := by omega
     go_wp2_with fail
     refine (whole_ok _ z _ hl hgd.out).mono ?_
     rintro e w7 ⟨u,rfl,hu,hb7⟩
     obtain ⟨ua,un,uc,rfl⟩ := Rd.shape hu
     replace bel := Bel.to bel hb7
     replace rR := Row.keep rR hb7
     go_upto_region 24 with (fail)
     obtain ⟨w8,hw8⟩ : ∃ X,X = w7.alloc (.cells #[.slice ua un uc] 30) := ⟨_,rfl⟩
     have b8 : Below w7.heap.size w7 w8 := by rw [hw8];exact Bel.al (Below.refl _ _) _
     have r8 : Row w8 w7.heap.size 30 [.slice ua un uc] := by rw [hw8];exact Row.newOf _ rfl
     rw [← hw8]
     clear hw8
     replace bel := Bel.to bel b8
     replace rR := Row.keep rR b8
     replace hu := Rd.below hu b8
     have c8 := r8.cell? 0
     have cR := rR.cell? 0
     have fR := rR.frozen 0
     simp only [List.getElem?_cons_zero] at c8 cR
     have hf := Rd.setNe hu cR (fun _ h => by cases h) (.slice ua un uc)
     have belf := Bel.st bel (p := ⟨w.heap.size + 2,0,none⟩) (by simp only [];omega) (.slice ua un uc)
     clear hu
     go_wp2
     exact bodyPost_ret (v := .tuple #[.agg #[.slice ua un uc],.int .i64 0]) (by simp [results,Tryz.results111,go_sem,cR]) rfl ⟨_,rfl,hf,belf⟩
  by_cases hy0 : y = 0
  ·obtain rfl : yn = 0 := by rw [ly,hy0,digs_zero];rfl
   have hxn : 0 < xn := by rw [lx,digs_pos hx0];simp
   have hxi : (0 : Int) < (xn : Int) := by omega
   replace hx0 := hide hx0
   replace hy0 := hide hy0
   have hgs : Hid (2 ^ t * (x + y) = z) := by show _ = _;rw [← hg.out,hy0.out,Nat.gcd_zero_right,Nat.add_zero]
   clear lx ly hg htb2 hpos
   go_wp2_with fail
   refine (radd _ _ x y _ hx hy (by have := dx.out;omega) (by have := dy.out;omega)).mono ?_
   rintro e w5 ⟨lv,rfl,hl,hb5,-⟩
   obtain ⟨va,vn,vc,rfl⟩ := Rd.shape hl
   replace bel := Bel.to bel hb5
   replace rR := Row.keep rR hb5
   obtain ⟨s,hs⟩ : ∃ s,s = x + y := ⟨_,rfl⟩
   rw [← hs] at hl hgs
   clear hs hb5 hx hy
   go_wp2
   go_loopg [9,10] t (fun gh tl ti wr => ∃ (i : Nat) (va : Option Addr) (vn vc : Nat),gh = t - i ∧ i ≤ t ∧ tl = .slice va vn vc ∧ ti = .int .i64 (i : Int) ∧ DV wr (.slice va vn vc) (2 ^ i * s) ∧ Below w.heap.size w wr ∧ Row wr (w.heap.size + 2) 30 [.slice none 0 0])
   case atStart => exact ⟨0,va,vn,vc,rfl,Nat.zero_le _,rfl,rfl,by rw [Nat.pow_zero,Nat.one_mul];exact hl,bel,rR⟩
   case round =>
    clear hl bel rR
    obtain ⟨i,va,vn,vc,hgi,hi,rfl,rfl,hl,bel,rR⟩ := hrel
    replace hgi := hide hgi
    by_cases hit : i < t
    ·have hii : (i : Int) < (t : Int) := by omega
     have hdl : (digs (2 ^ i * s)).length ≤ 1000 := by
      have h1 := digs_len_le (pow_double hgs.out hi)
      have := hgd.out
      omega
     have hdb : Hid (2 ^ i * s + 2 ^ i * s = 2 ^ (i + 1) * s) := by show _ = _;rw [Nat.pow_succ];grind
     have hit2 := hide hit
     have cA := hide (radd _ _ (2 ^ i * s) (2 ^ i * s) _ hl hl hdl hdl)
     rw [hdb.out] at cA
     clear hdl hdb
     go_wp2_with fail
     refine cA.out.mono ?_
     rintro e w6 ⟨u,rfl,hu,hb6,-⟩
     obtain ⟨ua,un,uc,rfl⟩ := Rd.shape hu
     clear cA hl
     go_wp2
     go_roundg (t - (i + 1))
     case measure => have := hgi.out;have := hit2.out;omega
     case rel => exact ⟨i + 1,ua,un,uc,rfl,by have := hit2.out;omega,rfl,by go_num,hu,Bel.to bel hb6,Row.keep rR hb6⟩
    ·obtain rfl : i = t := by omega
     rw [hgs.out] at hl
     have hit2 : ¬ (i : Int) < (i : Int) := by omega
     go_wp2_with fail
     refine (whole_ok _ z _ hl hgd.out).mono ?_
     rintro e w7 ⟨u,rfl,hu,hb7⟩
     obtain ⟨ua,un,uc,rfl⟩ := Rd.shape hu
     replace bel := Bel.to bel hb7
     replace rR := Row.keep rR hb7
     go_upto_region 24 with (fail)
     obtain ⟨w8,hw8⟩ : ∃ X,X = w7.alloc (.cells #[.slice ua un uc] 30) := ⟨_,rfl⟩
     have b8 : Below w7.heap.size w7 w8 := by rw [hw8];exact Bel.al (Below.refl _ _) _
     have r8 : Row w8 w7.heap.size 30 [.slice ua un uc] := by rw [hw8];exact Row.newOf _ rfl
     rw [← hw8]
     clear hw8
     replace bel := Bel.to bel b8
     replace rR := Row.keep rR b8
     replace hu := Rd.below hu b8
     have c8 := r8.cell? 0
     have cR := rR.cell? 0
     have fR := rR.frozen 0
     simp only [List.getElem?_cons_zero] at c8 cR
     have hf := Rd.setNe hu cR (fun _ h => by cases h) (.slice ua un uc)
     have belf := Bel.st bel (p := ⟨w.heap.size + 2,0,none⟩) (by simp only [];omega) (.slice ua un uc)
     clear hu
     go_wp2
     exact bodyPost_ret (v := .tuple #[.agg #[.slice ua un uc],.int .i64 0]) (by simp [results,Tryz.results111,go_sem,cR]) rfl ⟨_,rfl,hf,belf⟩
  have hxn : 0 < xn := by rw [lx,digs_pos hx0];simp
  have hyn : 0 < yn := by rw [ly,digs_pos hy0];simp
  have hxi : (0 : Int) < (xn : Int) := by omega
  have hyi : (0 : Int) < (yn : Int) := by omega
  have kx : 0 < (digs x).length := by omega
  have ky : 0 < (digs y).length := by omega
  obtain ⟨bx,ox,rfl,hbx,hcx⟩ := Rd.at_ hx kx
  obtain ⟨by_,oy,rfl,hby,hcy⟩ := Rd.at_ hy ky
  have ex : wr.cell? ⟨bx,ox,none⟩ = some (.int .i64 ((x % 65536 : Nat) : Int)) := by
   have h1 := hcx 0 kx
   have h2 := (dig_head hx0).2
   rw [List.getElem?_eq_getElem kx] at h2
   rw [Option.some.inj h2] at h1
   exact h1
  have ey : wr.cell? ⟨by_,oy,none⟩ = some (.int .i64 ((y % 65536 : Nat) : Int)) := by
   have h1 := hcy 0 ky
   have h2 := (dig_head hy0).2
   rw [List.getElem?_eq_getElem ky] at h2
   rw [Option.some.inj h2] at h1
   exact h1
  obtain ⟨ux,hux⟩ : ∃ u,u = x % 65536 := ⟨_,rfl⟩
  obtain ⟨uy,huy⟩ : ∃ u,u = y % 65536 := ⟨_,rfl⟩
  rw [← hux] at ex
  rw [← huy] at ey
  have ux2 : ux % 2 = x % 2 := by omega
  have uy2 : uy % 2 = y % 2 := by omega
  have uxb : ux < 65536 := by omega
  have uyb : uy < 65536 := by omega
  replace hux := hide hux
  replace huy := hide huy
  replace hx0 := hide hx0
  replace hy0 := hide hy0
  clear hcx hcy lx ly kx ky
  by_cases px : x % 2 = 0
  ·have pxi : (ux : Int).tmod 2 = 0 := by rw [Int.tmod_eq_emod_of_nonneg (by omega)];omega
   by_cases py : y % 2 = 0
   ·have pyi : (uy : Int).tmod 2 = 0 := by rw [Int.tmod_eq_emod_of_nonneg (by omega)];omega
    have hg2 : Hid (2 ^ (t + 1) * Nat.gcd (x / 2) (y / 2) = z) := by show _ = _;rw [← hg.out,gcd_ee px py,Nat.pow_succ,Nat.mul_assoc]
    have hp2 : Hid (0 < x / 2 + y / 2) := by show _ < _;have := hx0.out;omega
    have hms : Hid (x / 2 + y / 2 < x + y) := by show _ < _;have := hpos.out;omega
    clear ux2 uy2 px py hg
    go_wp2_with fail
    refine (rhalf _ x _ hx (by have := dx.out;omega)).mono ?_
    rintro e w5 ⟨u,rfl,hu,hb5,-⟩
    obtain ⟨ua,un,uc,rfl⟩ := Rd.shape hu
    replace hy := Rd.below hy hb5
    replace bel := Bel.to bel hb5
    replace rR := Row.keep rR hb5
    clear hx ex ey
    go_wp2_with fail
    refine (rhalf _ y _ hy (by have := dy.out;omega)).mono ?_
    rintro e w6 ⟨u2,rfl,hu2,hb6,-⟩
    obtain ⟨ua2,un2,uc2,rfl⟩ := Rd.shape hu2
    go_wp2
    go_roundg (x / 2 + y / 2)
    case measure => have := hgh.out;have := hms.out;omega
    case rel => exact ⟨x / 2,y / 2,t + 1,ua,un,uc,ua2,un2,uc2,rfl,rfl,rfl,by go_num,Rd.below hu hb6,hu2,hg2,half_len dx.out,half_len dy.out,hp2,htb2.out,Bel.to bel hb6,Row.keep rR hb6⟩
   ·have pyi : (uy : Int).tmod 2 = 1 := by rw [Int.tmod_eq_emod_of_nonneg (by omega)];omega
    have hg2 : Hid (2 ^ t * Nat.gcd (x / 2) y = z) := by show _ = _;rw [← hg.out,gcd_odd px py]
    have hp2 : Hid (0 < x / 2 + y) := by show _ < _;have := hx0.out;have := hy0.out;omega
    have hms : Hid (x / 2 + y < x + y) := by show _ < _;have := hx0.out;have := hy0.out;omega
    clear ux2 uy2 px py hg
    go_wp2_with fail
    refine (rhalf _ x _ hx (by have := dx.out;omega)).mono ?_
    rintro e w5 ⟨u,rfl,hu,hb5,-⟩
    obtain ⟨ua,un,uc,rfl⟩ := Rd.shape hu
    go_wp2
    go_roundg (x / 2 + y)
    case measure => have := hgh.out;have := hms.out;omega
    case rel => exact ⟨x / 2,y,t,ua,un,uc,some ⟨by_,oy,none⟩,yn,yc,rfl,rfl,rfl,rfl,hu,Rd.below hy hb5,hg2,half_len dx.out,dy,hp2,htb,Bel.to bel hb5,Row.keep rR hb5⟩
  ·have pxi : (ux : Int).tmod 2 = 1 := by rw [Int.tmod_eq_emod_of_nonneg (by omega)];omega
   by_cases py : y % 2 = 0
   ·have pyi : (uy : Int).tmod 2 = 0 := by rw [Int.tmod_eq_emod_of_nonneg (by omega)];omega
    have hg2 : Hid (2 ^ t * Nat.gcd x (y / 2) = z) := by show _ = _;rw [← hg.out,Nat.gcd_comm x y,gcd_odd py px,Nat.gcd_comm]
    have hp2 : Hid (0 < x + y / 2) := by show _ < _;have := hx0.out;have := hy0.out;omega
    have hms : Hid (x + y / 2 < x + y) := by show _ < _;have := hx0.out;have := hy0.out;omega
    clear ux2 uy2 px py hg
    go_wp2_with fail
    refine (rhalf _ y _ hy (by have := dy.out;omega)).mono ?_
    rintro e w5 ⟨u,rfl,hu,hb5,-⟩
    obtain ⟨ua,un,uc,rfl⟩ := Rd.shape hu
    go_wp2
    go_roundg (x + y / 2)
    case measure => have := hgh.out;have := hms.out;omega
    case rel => exact ⟨x,y / 2,t,some ⟨bx,ox,none⟩,xn,xc,ua,un,uc,rfl,rfl,rfl,rfl,Rd.below hx hb5,hu,hg2,dx,half_len dy.out,hp2,htb,Bel.to bel hb5,Row.keep rR hb5⟩
   ·have pyi : (uy : Int).tmod 2 = 1 := by rw [Int.tmod_eq_emod_of_nonneg (by omega)];omega
    clear ux2 uy2 px py
    by_cases hle : y ≤ x
    ·have hcv : ¬ cmpV x y < 0 := by unfold cmpV;rw [if_neg (by omega)];split <;> omega
     have hg2 : Hid (2 ^ t * Nat.gcd (x - y) y = z) := by show _ = _;rw [← hg.out,gcd_less hle]
     have hp2 : Hid (0 < x - y + y) := by show _ < _;have := hx0.out;have := hy0.out;omega
     have hms : Hid (x - y + y < x + y) := by show _ < _;have := hx0.out;have := hy0.out;omega
     have hle2 : Hid (y ≤ x) := by show _ ≤ _;omega
     obtain ⟨cv,hcvd⟩ : ∃ cv,cv = cmpV x y := ⟨_,rfl⟩
     rw [← hcvd] at hcv
     replace hcvd := hide hcvd
     clear hg hle
     go_wp2_with fail
     refine (rcmp _ _ x y _ hx hy).mono ?_
     rintro e w9 ⟨rfl,hb9⟩
     rw [← hcvd.out]
     have hx9 : DV w9 (.slice (some ⟨bx,ox,none⟩) xn xc) x := Rd.below hx hb9
     have hy9 : DV w9 (.slice (some ⟨by_,oy,none⟩) yn yc) y := Rd.below hy hb9
     have bel9 : Below w.heap.size w w9 := Bel.to bel hb9
     have rR9 : Row w9 (w.heap.size + 2) 30 [.slice none 0 0] := Row.keep rR hb9
     clear hb9 hx hy bel rR ex ey
     go_wp2_with fail
     refine (rsub _ _ x y _ hx9 hy9 hle2.out (by have := dx.out;omega)).mono ?_
     rintro e w5 ⟨u,rfl,hu,hb5,-⟩
     obtain ⟨ua,un,uc,rfl⟩ := Rd.shape hu
     go_wp2
     go_roundg (x - y + y)
     case measure => have := hgh.out;have := hms.out;omega
     case rel => exact ⟨x - y,y,t,ua,un,uc,some ⟨by_,oy,none⟩,yn,yc,rfl,rfl,rfl,rfl,hu,Rd.below hy9 hb5,hg2,sub_len dx.out,dy,hp2,htb,Bel.to bel9 hb5,Row.keep rR9 hb5⟩
    ·have hcv : cmpV x y < 0 := by unfold cmpV;rw [if_pos (by omega)];omega
     have hg2 : Hid (2 ^ t * Nat.gcd x (y - x) = z) := by show _ = _;rw [← hg.out,Nat.gcd_comm x y,gcd_less (show x ≤ y by omega),Nat.gcd_comm]
     have hp2 : Hid (0 < x + (y - x)) := by show _ < _;have := hx0.out;have := hy0.out;omega
     have hms : Hid (x + (y - x) < x + y) := by show _ < _;have := hx0.out;have := hy0.out;omega
     have hle2 : Hid (x ≤ y) := by show _ ≤ _;omega
     obtain ⟨cv,hcvd⟩ : ∃ cv,cv = cmpV x y := ⟨_,rfl⟩
     rw [← hcvd] at hcv
     replace hcvd := hide hcvd
     clear hg hle
     go_wp2_with fail
     refine (rcmp _ _ x y _ hx hy).mono ?_
     rintro e w9 ⟨rfl,hb9⟩
     rw [← hcvd.out]
     have hx9 : DV w9 (.slice (some ⟨bx,ox,none⟩) xn xc) x := Rd.below hx hb9
     have hy9 : DV w9 (.slice (some ⟨by_,oy,none⟩) yn yc) y := Rd.below hy hb9
     have bel9 : Below w.heap.size w w9 := Bel.to bel hb9
     have rR9 : Row w9 (w.heap.size + 2) 30 [.slice none 0 0] := Row.keep rR hb9
     clear hb9 hx hy bel rR ex ey
     go_wp2_with fail
     refine (rsub _ _ y x _ hy9 hx9 hle2.out (by have := dy.out;omega)).mono ?_
     rintro e w5 ⟨u,rfl,hu,hb5,-⟩
     obtain ⟨ua,un,uc,rfl⟩ := Rd.shape hu
     go_wp2
     go_roundg (x + (y - x))
     case measure => have := hgh.out;have := hms.out;omega
     case rel => exact ⟨x,y - x,t,some ⟨bx,ox,none⟩,xn,xc,ua,un,uc,rfl,rfl,rfl,rfl,Rd.below hx9 hb5,hu,hg2,dx,sub_len dy.out,hp2,htb,Bel.to bel9 hb5,Row.keep rR9 hb5⟩
theorem limbs_63 {m : Nat} (h : m ≤ 9223372036854775807) : (limbs m).length ≤ 64 := by
 have e : (4294967296 : Nat) ^ 2 = 18446744073709551616 := by decide
 have h1 : m < 4294967296 ^ 2 := by omega
 have h2 := length_limbs_lt.1 h1
 omega
set_option maxHeartbeats 16000000 in
set_option maxRecDepth 100000 in
theorem rreduce_ok (va vb : Value) (m n : Nat) (w : World) (ha : NV w va m) (hb : NV w vb n) (hm : (limbs m).length ≤ 64) (hn : (limbs n).length ≤ 64) (h0 : 0 < n) :
  Calls Tryz.prog 79 #[.agg #[va],.agg #[vb]] w (FracC (m / Nat.gcd m n) (n / Nat.gcd m n) 0 w) := by
 have hg0 : 0 < Nat.gcd m n := Nat.gcd_pos_of_pos_right m h0
 have hgl : (limbs (Nat.gcd m n)).length ≤ 64 := by
  have h1 := limbs_len_le (Nat.gcd_le_right m h0)
  omega
 obtain ⟨aa,la,ca,rfl⟩ := Rd.shape ha
 obtain ⟨ab,lb,cb,rfl⟩ := Rd.shape hb
 have rA0 : ∀ o o',Row (((w.alloc (.cells #[.slice aa la ca] 30)).alloc o).alloc o') w.heap.size 30 [.slice aa la ca] := fun o o' => ((Row.newOf 30 rfl).alloc o).alloc o'
 have rB0 : ∀ o o',Row (((w.alloc o).alloc (.cells #[.slice ab lb cb] 30)).alloc o') (w.heap.size + 1) 30 [.slice ab lb cb] := fun o o' => by
  have h := (Row.new (w.alloc o) 30 [.slice ab lb cb]).alloc o'
  simpa using h
 have rR0 : ∀ o o',Row (((w.alloc o).alloc o').alloc (.cells #[.slice none 0 0,.slice none 0 0] 35)) (w.heap.size + 2) 35 [.slice none 0 0,.slice none 0 0] := fun o o' => by
  have h := Row.new ((w.alloc o).alloc o') 35 [.slice none 0 0,.slice none 0 0]
  simpa using h
 go_enter Tryz.func79,Tryz.ntmps79
 go_wp2_with fail
 refine (rgcd_any _ _ m n _ (Rd.alloc (Rd.alloc (Rd.alloc ha _) _) _) (Rd.alloc (Rd.alloc (Rd.alloc hb _) _) _) hm hn (by omega)).mono ?_
 rintro e w3 ⟨u,rfl,hu,hb3⟩
 obtain ⟨gu,gl,gc,rfl⟩ := Rd.shape hu
 have rA := Row.keep (rA0 _ _) hb3
 have rB := Row.keep (rB0 _ _) hb3
 have rR := Row.keep (rR0 _ _) hb3
 have hbw := Bel.three _ _ _ hb3
 clear rA0 rB0 rR0
 replace ha := Rd.below ha hbw
 replace hb := Rd.below hb hbw
 go_upto_region 2 with (fail)
 obtain ⟨w4,hw4⟩ : ∃ X,X = w3.alloc (.cells #[.slice gu gl gc] 30) := ⟨_,rfl⟩
 have bw4 : Below w3.heap.size w3 w4 := by rw [hw4];exact Bel.al (Below.refl _ _) _
 have rG : Row w4 w3.heap.size 30 [.slice gu gl gc] := by rw [hw4];exact Row.newOf _ rfl
 rw [← hw4]
 clear hw4
 replace rA := Row.keep rA bw4
 replace rB := Row.keep rB bw4
 replace rR := Row.keep rR bw4
 replace ha := Rd.below ha bw4
 replace hb := Rd.below hb bw4
 replace hu := Rd.below hu bw4
 replace hbw := Bel.to hbw bw4
 clear bw4 hb3
 have crA := rA.cell? 0
 simp only [List.getElem?_cons_zero] at crA
 have crB := rB.cell? 0
 simp only [List.getElem?_cons_zero] at crB
 have crG := rG.cell? 0
 simp only [List.getElem?_cons_zero] at crG
 go_wp2_with fail
 refine (rdivmod _ _ m (Nat.gcd m n) _ ha hu hm hgl hg0).mono ?_
 rintro e w5 ⟨q,r,rfl,hq,hr,hb5⟩
 obtain ⟨qu,ql,qc,rfl⟩ := Rd.shape hq
 obtain ⟨ru,rl,rc,rfl⟩ := Rd.shape hr
 clear crA crB crG
 replace rA := Row.keep rA hb5
 replace rB := Row.keep rB hb5
 replace rR := Row.keep rR hb5
 replace rG := Row.keep rG hb5
 replace hb := Rd.below hb hb5
 replace hu := Rd.below hu hb5
 replace hbw := Bel.to hbw hb5
 go_upto_region 5 with (fail)
 obtain ⟨w6,hw6⟩ : ∃ X,X = (w5.alloc (.cells #[.slice qu ql qc] 30)).alloc (.cells #[.slice ru rl rc] 30) := ⟨_,rfl⟩
 have bw6 : Below w5.heap.size w5 w6 := by rw [hw6];exact Bel.al (Bel.al (Below.refl _ _) _) _
 have rQ : Row w6 w5.heap.size 30 [.slice qu ql qc] := by rw [hw6];exact (Row.newOf _ rfl).alloc _
 rw [← hw6]
 clear hw6
 replace rA := Row.keep rA bw6
 replace rB := Row.keep rB bw6
 replace rR := Row.keep rR bw6
 replace rG := Row.keep rG bw6
 replace hb := Rd.below hb bw6
 replace hu := Rd.below hu bw6
 replace hq := Rd.below hq bw6
 replace hbw := Bel.to hbw bw6
 clear bw6 hb5 hr ha
 have crB := rB.cell? 0
 simp only [List.getElem?_cons_zero] at crB
 have crG := rG.cell? 0
 simp only [List.getElem?_cons_zero] at crG
 go_wp2_with fail
 refine (rdivmod _ _ n (Nat.gcd m n) _ hb hu hn hgl hg0).mono ?_
 rintro e w7 ⟨p,r2,rfl,hp,hr2,hb7⟩
 obtain ⟨pu,pl,pc,rfl⟩ := Rd.shape hp
 obtain ⟨su,sl,sc,rfl⟩ := Rd.shape hr2
 clear crB crG
 replace rR := Row.keep rR hb7
 replace rQ := Row.keep rQ hb7
 replace hq := Rd.below hq hb7
 replace hbw := Bel.to hbw hb7
 go_upto_region 6 with (fail)
 obtain ⟨w8,hw8⟩ : ∃ X,X = (w7.alloc (.cells #[.slice pu pl pc] 30)).alloc (.cells #[.slice su sl sc] 30) := ⟨_,rfl⟩
 have bw8 : Below w7.heap.size w7 w8 := by rw [hw8];exact Bel.al (Bel.al (Below.refl _ _) _) _
 have rP : Row w8 w7.heap.size 30 [.slice pu pl pc] := by rw [hw8];exact (Row.newOf _ rfl).alloc _
 rw [← hw8]
 clear hw8
 replace rR := Row.keep rR bw8
 replace rQ := Row.keep rQ bw8
 replace hq := Rd.below hq bw8
 replace hp := Rd.below hp bw8
 replace hbw := Bel.to hbw bw8
 clear bw8 hb7 hr2 hb hu rA rB rG
 have crQ := rQ.cell? 0
 simp only [List.getElem?_cons_zero] at crQ
 have crP := rP.cell? 0
 simp only [List.getElem?_cons_zero] at crP
 have cR0 := rR.cell? 0
 have cR1 := rR.cell? 1
 simp only [List.getElem?_cons_zero,List.getElem?_cons_succ] at cR0 cR1
 have fR0 := rR.frozen 0
 have fR1 := rR.frozen 1
 have hq2 := (Rd.setNe hq cR0 (fun _ h => by cases h) (.slice qu ql qc))
 have c1' := (rR.set 0 (.slice qu ql qc)).cell? 1
 simp only [zsB,List.getElem?_cons_zero,List.getElem?_cons_succ] at c1'
 have hq3 := hq2.setNe c1' (fun _ h => by cases h) (.slice pu pl pc)
 have hp3 := (Rd.setNe hp cR0 (fun _ h => by cases h) (.slice qu ql qc)).setNe c1' (fun _ h => by cases h) (.slice pu pl pc)
 have bel := Bel.st (Bel.st hbw (p := ⟨w.heap.size + 2,0,none⟩) (by simp only [];omega) (.slice qu ql qc)) (p := ⟨w.heap.size + 2,1,none⟩) (by simp only [];omega) (.slice pu pl pc)
 have rF := (rR.set 0 (.slice qu ql qc)).set 1 (.slice pu pl pc)
 simp only [zsB,zsC] at rF
 have cF0 := rF.cell? 0
 have cF1 := rF.cell? 1
 simp only [List.getElem?_cons_zero,List.getElem?_cons_succ] at cF0 cF1
 clear hq hp hq2 c1' rQ rP hbw
 go_wp2
 exact bodyPost_ret (v := .tuple #[.agg #[.slice qu ql qc,.slice pu pl pc],.int .i64 0]) (by simp [results,Tryz.results79,go_sem,cF0,cF1]) rfl ⟨_,_,rfl,hq3,hp3,bel⟩
set_option maxHeartbeats 16000000 in
set_option maxRecDepth 100000 in
theorem rmake_ok (va vb : Value) (m n : Nat) (w : World) (ha : NV w va m) (hb : NV w vb n) (hm : (limbs m).length ≤ 64) (hn : (limbs n).length ≤ 64) (h0 : 0 < n) :
  Calls Tryz.prog 36 #[.agg #[va],.agg #[vb]] w (FracC (m / Nat.gcd m n) (n / Nat.gcd m n) 0 w) := by
 have hbl : (0 : Nat) < (limbs n).length := by rw [limbs_pos (by omega)];simp
 have hlb := hide (fun (ab : Option Addr) (lb cb : Nat) (X : World) (h : NV X (.slice ab lb cb) n) => (Rd.len_eq h : lb = _))
 obtain ⟨aa,la,ca,rfl⟩ := Rd.shape ha
 obtain ⟨ab,lb,cb,rfl⟩ := Rd.shape hb
 have rA0 : ∀ o o',Row (((w.alloc (.cells #[.slice aa la ca] 30)).alloc o).alloc o') w.heap.size 30 [.slice aa la ca] := fun o o' => ((Row.newOf 30 rfl).alloc o).alloc o'
 have rB0 : ∀ o o',Row (((w.alloc o).alloc (.cells #[.slice ab lb cb] 30)).alloc o') (w.heap.size + 1) 30 [.slice ab lb cb] := fun o o' => by
  have h := (Row.new (w.alloc o) 30 [.slice ab lb cb]).alloc o'
  simpa using h
 have rR0 : ∀ o o',Row (((w.alloc o).alloc o').alloc (.cells #[.slice none 0 0,.slice none 0 0] 35)) (w.heap.size + 2) 35 [.slice none 0 0,.slice none 0 0] := fun o o' => by
  have h := Row.new ((w.alloc o).alloc o') 35 [.slice none 0 0,.slice none 0 0]
  simpa using h
 go_enter Tryz.func36,Tryz.ntmps36
 have lb0 : 0 < lb := by rw [hlb.out ab lb cb w hb];exact hbl
 have lbi : ¬ (lb : Int) = 0 := by omega
 clear hlb hbl
 go_wp2_with fail
 refine (rvalid _ m _ (Rd.alloc (Rd.alloc (Rd.alloc ha _) _) _) hm).mono ?_
 rintro e w1 ⟨rfl,hb1⟩
 have rA := Row.keep (rA0 _ _) hb1
 have rB := Row.keep (rB0 _ _) hb1
 have rR := Row.keep (rR0 _ _) hb1
 have hbw := Bel.three _ _ _ hb1
 have hz : w.heap.size + 2 < w1.heap.size := by have := hb1.size;simp at this;omega
 clear rA0 rB0 rR0 hb1
 have crA := rA.cell? 0
 simp only [List.getElem?_cons_zero] at crA
 have crB := rB.cell? 0
 simp only [List.getElem?_cons_zero] at crB
 go_wp2_with fail
 refine (rvalid _ n _ (Rd.below hb hbw) hn).mono ?_
 rintro e w2 ⟨rfl,hb2⟩
 clear crA crB
 replace rA := Row.keep rA hb2
 replace rB := Row.keep rB hb2
 replace rR := Row.keep rR hb2
 replace hbw := Bel.to hbw hb2
 replace ha := Rd.below ha hbw
 replace hb := Rd.below hb hbw
 clear hb2 hz
 have crA := rA.cell? 0
 simp only [List.getElem?_cons_zero] at crA
 have crB := rB.cell? 0
 simp only [List.getElem?_cons_zero] at crB
 go_wp2_with fail
 refine (rreduce_ok _ _ m n _ ha hb hm hn h0).mono ?_
 rintro e w3 ⟨q,p,rfl,hq,hp,hb3⟩
 obtain ⟨qu,ql,qc,rfl⟩ := Rd.shape hq
 obtain ⟨pu,pl,pc,rfl⟩ := Rd.shape hp
 clear crA crB
 replace rR := Row.keep rR hb3
 replace hbw := Bel.to hbw hb3
 clear hb3 rA rB ha hb
 have cR0 := rR.cell? 0
 have cR1 := rR.cell? 1
 simp only [List.getElem?_cons_zero,List.getElem?_cons_succ] at cR0 cR1
 have fR0 := rR.frozen 0
 have fR1 := rR.frozen 1
 have hq2 := (Rd.setNe hq cR0 (fun _ h => by cases h) (.slice qu ql qc))
 have c1' := (rR.set 0 (.slice qu ql qc)).cell? 1
 simp only [zsB,List.getElem?_cons_zero,List.getElem?_cons_succ] at c1'
 have hq3 := hq2.setNe c1' (fun _ h => by cases h) (.slice pu pl pc)
 have hp3 := (Rd.setNe hp cR0 (fun _ h => by cases h) (.slice qu ql qc)).setNe c1' (fun _ h => by cases h) (.slice pu pl pc)
 have bel := Bel.st (Bel.st hbw (p := ⟨w.heap.size + 2,0,none⟩) (by simp only [];omega) (.slice qu ql qc)) (p := ⟨w.heap.size + 2,1,none⟩) (by simp only [];omega) (.slice pu pl pc)
 have rF := (rR.set 0 (.slice qu ql qc)).set 1 (.slice pu pl pc)
 simp only [zsB,zsC] at rF
 have cF0 := rF.cell? 0
 have cF1 := rF.cell? 1
 simp only [List.getElem?_cons_zero,List.getElem?_cons_succ] at cF0 cF1
 clear hq hp hq2 c1' hbw
 go_wp2
 exact bodyPost_ret (v := .tuple #[.agg #[.slice qu ql qc,.slice pu pl pc],.int .i64 0]) (by simp [results,Tryz.results36,go_sem,cF0,cF1]) rfl ⟨_,_,rfl,hq3,hp3,bel⟩
set_option maxHeartbeats 4000000 in
set_option maxRecDepth 100000 in
theorem rfof_ok (m n : Nat) (w : World) (hm : m ≤ 9223372036854775807) (hn : n ≤ 9223372036854775807) (h0 : 0 < n) :
  Calls Tryz.prog 28 #[.int .i64 (m : Int),.int .i64 (n : Int)] w (FracC (m / Nat.gcd m n) (n / Nat.gcd m n) 0 w) := by
 have hR0 : Row (w.alloc (.cells #[.slice none 0 0,.slice none 0 0] 35)) w.heap.size 35 [.slice none 0 0,.slice none 0 0] := Row.newOf _ rfl
 have m0 : ¬ (m : Int) < 0 := by omega
 have n0 : ¬ (n : Int) < 0 := by omega
 have hml := limbs_63 hm
 have hnl := limbs_63 hn
 go_enter Tryz.func28,Tryz.ntmps28
 go_wp2_with fail
 refine (ref_of_int _ _ (by omega) (by omega)).mono ?_
 rintro e w1 ⟨a,rfl,ha,hb1⟩
 obtain ⟨aa,la,ca,rfl⟩ := Rd.shape ha
 have rR := Row.keep hR0 hb1
 have hbw := Bel.one _ hb1
 clear hR0 hb1
 go_wp2_with fail
 refine (ref_of_int _ _ (by omega) (by omega)).mono ?_
 rintro e w2 ⟨b,rfl,hb,hb2⟩
 obtain ⟨ab,lb,cb,rfl⟩ := Rd.shape hb
 replace rR := Row.keep rR hb2
 replace hbw := Bel.to hbw hb2
 replace ha := Rd.below ha hb2
 clear hb2
 go_wp2_with fail
 refine (rmake_ok _ _ m n _ ha hb hml hnl h0).mono ?_
 rintro e w3 ⟨q,p,rfl,hq,hp,hb3⟩
 obtain ⟨qu,ql,qc,rfl⟩ := Rd.shape hq
 obtain ⟨pu,pl,pc,rfl⟩ := Rd.shape hp
 replace rR := Row.keep rR hb3
 replace hbw := Bel.to hbw hb3
 clear hb3 ha hb
 have cR0 := rR.cell? 0
 have cR1 := rR.cell? 1
 simp only [List.getElem?_cons_zero,List.getElem?_cons_succ] at cR0 cR1
 have fR0 := rR.frozen 0
 have fR1 := rR.frozen 1
 have hq2 := (Rd.setNe hq cR0 (fun _ h => by cases h) (.slice qu ql qc))
 have c1' := (rR.set 0 (.slice qu ql qc)).cell? 1
 simp only [zsB,List.getElem?_cons_zero,List.getElem?_cons_succ] at c1'
 have hq3 := hq2.setNe c1' (fun _ h => by cases h) (.slice pu pl pc)
 have hp3 := (Rd.setNe hp cR0 (fun _ h => by cases h) (.slice qu ql qc)).setNe c1' (fun _ h => by cases h) (.slice pu pl pc)
 have bel := Bel.st (Bel.st hbw (p := ⟨w.heap.size,0,none⟩) (by simp only [];omega) (.slice qu ql qc)) (p := ⟨w.heap.size,1,none⟩) (by simp only [];omega) (.slice pu pl pc)
 have rF := (rR.set 0 (.slice qu ql qc)).set 1 (.slice pu pl pc)
 simp only [zsB,zsC] at rF
 have cF0 := rF.cell? 0
 have cF1 := rF.cell? 1
 simp only [List.getElem?_cons_zero,List.getElem?_cons_succ] at cF0 cF1
 clear hq hp hq2 c1' hbw
 go_wp2
 exact bodyPost_ret (v := .tuple #[.agg #[.slice qu ql qc,.slice pu pl pc],.int .i64 0]) (by simp [results,Tryz.results28,go_sem,cF0,cF1]) rfl ⟨_,_,rfl,hq3,hp3,bel⟩
set_option maxHeartbeats 1000000 in
set_option maxRecDepth 100000 in
theorem rfsame_lists (va vb : Value) (la lb : List Nat) (w : World) (ha : Rd U32 w va la) (hb : Rd U32 w vb lb) :
  Calls Tryz.prog 37 #[va,vb] w (BoolB (decide (la = lb)) w) := by
 obtain ⟨aa,ca,rfl,hla,hca,hra⟩ := Rd.form ha
 obtain ⟨ab,cb,rfl,hlb,hcb,hrb⟩ := Rd.form hb
 have hca' : ca ≤ 9223372036854775807 := by unfold maxLen at hca;omega
 have hcb' : cb ≤ 9223372036854775807 := by unfold maxLen at hcb;omega
 by_cases hl : la.length = lb.length
 ·have l3 : ((la.length : Int) != lb.length) = false := by simp;omega
  have l1 : la.length ≤ lb.length := by omega
  have l2 : lb.length ≤ la.length := by omega
  replace hl := hide hl
  go_enter Tryz.func37,Tryz.ntmps37
  go_wp2
  go_loopw [5] (fun i wr => ∃ (k d : Nat),k ≤ la.length ∧ i = .int .i64 k ∧ wr = w.drewN d ∧ Hid (la.take k = lb.take k)) (fun i _ => la.length - (intOf i).toNat)
  case atStart => exact ⟨0,0,Nat.zero_le _,rfl,rfl,rfl⟩
  case round =>
   obtain ⟨k,d,hk,rfl,rfl,htk⟩ := hrel
   by_cases hkl : k < la.length
   ·have hk2 : k < lb.length := by omega
    obtain ⟨ba,offa,rfl,hba,hcella⟩ := hra.at_ hkl
    obtain ⟨bb,offb,rfl,hbb,hcellb⟩ := hrb.at_ hk2
    have c1 := hcella _ hkl
    have c2 := hcellb _ hk2
    clear hcella hcellb
    have i1 : (0 : Int) ≤ (k : Int) := by omega
    have i2 : (k : Int) < (la.length : Int) := by omega
    have i3 : (k : Int) < (lb.length : Int) := by omega
    by_cases he : la[k] = lb[k]
    ·have hb1 : (((la[k] : Nat) : Int) != ((lb[k] : Nat) : Int)) = false := by rw [he];simp
     replace he := hide he
     go_wp2
     go_quiet (fail)
     go_wp2
     go_roundw
     case rel =>
      refine ⟨k + 1,_,by omega,by go_num,rfl,?_⟩
      show _ = _
      rw [take_snoc la k hkl,take_snoc lb k hk2,he.out,htk.out]
     case measure => simp [intOf];omega
    ·have hb1 : (((la[k] : Nat) : Int) != ((lb[k] : Nat) : Int)) = true := by simp;omega
     have hne : decide (la = lb) = false := by
      apply decide_eq_false
      intro h
      subst h
      exact he rfl
     replace hne := hide hne
     go_wp2
     go_quiet (fail)
     go_wp2
     go_ret
     exact ⟨by rw [hne.out];rfl,Bel.drN (Bel.drN (Below.refl _ _) _) _⟩
   ·have hkk : k = la.length := by omega
    have heq : decide (la = lb) = true := by
     apply decide_eq_true
     have := htk.out
     rw [List.take_of_length_le (by omega),List.take_of_length_le (by omega)] at this
     exact this
    replace heq := hide heq
    replace hkk := hide hkk
    go_wp2
    go_ret
    exact ⟨by rw [heq.out];rfl,Bel.drN (Below.refl _ _) _⟩
 ·have l3 : ((la.length : Int) != lb.length) = true := by simp;omega
  have hne : decide (la = lb) = false := by
   apply decide_eq_false
   intro h
   exact hl (by rw [h])
  rw [hne]
  clear hl hne
  go_enter Tryz.func37,Tryz.ntmps37
  go_wp2
  go_ret
  exact ⟨rfl,Below.refl _ _⟩
theorem rfsame_nums (va vb : Value) (m n : Nat) (w : World) (ha : NV w va m) (hb : NV w vb n) :
  Calls Tryz.prog 37 #[va,vb] w (BoolB (decide (m = n)) w) := by
 have h : decide (m = n) = decide (limbs m = limbs n) := by
  rw [decide_eq_decide]
  exact ⟨fun h => by rw [h],limbs_inj⟩
 rw [h]
 exact rfsame_lists va vb _ _ w ha hb
set_option maxHeartbeats 4000000 in
set_option maxRecDepth 100000 in
theorem rfsame_any (va vb vc vd : Value) (m n p q : Nat) (w : World) (ha : NV w va m) (hb : NV w vb n) (hc : NV w vc p) (hd : NV w vd q) :
  Calls Tryz.prog 13 #[.agg #[va,vb],.agg #[vc,vd]] w (BoolB (decide (m = p ∧ n = q)) w) := by
 obtain ⟨aa,la,ca,rfl⟩ := Rd.shape ha
 obtain ⟨ab,lb,cb,rfl⟩ := Rd.shape hb
 obtain ⟨ac,lc,cc,rfl⟩ := Rd.shape hc
 obtain ⟨ad,ld,cd,rfl⟩ := Rd.shape hd
 have rA0 : ∀ o,Row ((w.alloc (.cells #[.slice aa la ca,.slice ab lb cb] 35)).alloc o) w.heap.size 35 [.slice aa la ca,.slice ab lb cb] := fun o => (Row.newOf _ rfl).alloc o
 have rB0 : ∀ o,Row ((w.alloc o).alloc (.cells #[.slice ac lc cc,.slice ad ld cd] 35)) (w.heap.size + 1) 35 [.slice ac lc cc,.slice ad ld cd] := fun o => by
  have h := Row.new (w.alloc o) 35 [.slice ac lc cc,.slice ad ld cd]
  simpa using h
 go_enter Tryz.func13,Tryz.ntmps13
 by_cases h1 : m = p
 ·have cS := fun X (hX : Below w.heap.size w X) => rfsame_nums _ _ m p X (Rd.below ha hX) (Rd.below hc hX)
  rw [decide_eq_true h1] at cS
  have e1 : decide (m = p ∧ n = q) = decide (n = q) := by rw [decide_eq_decide];exact ⟨fun h => h.2,fun h => ⟨h1,h⟩⟩
  rw [e1]
  clear e1
  replace cS := hide cS
  go_wp2_with fail
  refine (cS.out _ (Bel.al (Bel.al (Below.refl _ _) _) _)).mono ?_
  rintro e w1 ⟨rfl,hb1⟩
  have rA := Row.keep (rA0 _) hb1
  have rB := Row.keep (rB0 _) hb1
  have cA := rA.cell? 1
  have cB := rB.cell? 1
  simp only [List.getElem?_cons_zero,List.getElem?_cons_succ] at cA cB
  have hbw := Bel.two _ _ hb1
  clear hb1 rA rB rA0 rB0 cS
  go_wp2_with fail
  refine (rfsame_nums _ _ n q _ (Rd.below hb hbw) (Rd.below hd hbw)).mono ?_
  rintro e w2 ⟨rfl,hb2⟩
  go_wp2
  go_ret
  exact ⟨rfl,Bel.to hbw hb2⟩
 ·have cS := fun X (hX : Below w.heap.size w X) => rfsame_nums _ _ m p X (Rd.below ha hX) (Rd.below hc hX)
  rw [decide_eq_false h1] at cS
  have e1 : decide (m = p ∧ n = q) = false := decide_eq_false fun h => h1 h.1
  rw [e1]
  clear e1
  replace cS := hide cS
  go_wp2_with fail
  refine (cS.out _ (Bel.al (Bel.al (Below.refl _ _) _) _)).mono ?_
  rintro e w1 ⟨rfl,hb1⟩
  have hbw := Bel.two _ _ hb1
  go_wp2
  go_ret
  exact ⟨rfl,hbw⟩
def chPF (p : Int × Int) : Nat := if p.1 < 0 then 0 else if p.2 < 0 then 0 else chooseF p.1.toNat p.2.toNat
theorem chP_eq : chP = chPF := by
 funext p
 unfold chP chPF chZ chooseI
 simp only [choose_fast]
theorem lot_game : gameE lottoG = 0 := by decide
theorem lot_outN : outN lottoG = 13983816 := by
 show prodL [chP (49,6),chP (43,0),chP (0,0)] = _
 rw [chP_eq]
 kernel_rfl
theorem lot_outV : outV lottoG = (13983816,0) := by unfold outV;rw [if_pos lot_game,lot_outN]
def winL (t : Int) : Nat := sumTo (fun m => if wonC lottoG m 0 0 = t then prodL ((wayP lottoG m 0 0).map chPF) else 0) 7
theorem lot_winL (t : Int) : winC lottoG t = winL t := by
 have h : ∀ f : Nat → Nat,sumTo f 1 = f 0 := fun f => by simp [sumTo]
 unfold winC winF winG winH wayN winL
 rw [chP_eq]
 show sumTo (fun m => sumTo (fun x => sumTo _ 1) 1) 7 = _
 simp only [h]
 rfl
theorem lot_win0 : winC lottoG 0 = 1 := by rw [lot_winL];kernel_rfl
theorem lot_win1 : winC lottoG 1 = 258 := by rw [lot_winL];kernel_rfl
theorem lot_win2 : winC lottoG 2 = 13545 := by rw [lot_winL];kernel_rfl
theorem lot_win3 : winC lottoG 3 = 246820 := by rw [lot_winL];kernel_rfl
theorem lot_sum : sumTo (fun i => winC lottoG (i : Int)) 4 = 260624 := by
 simp only [sumTo]
 show 0 + winC lottoG 0 + winC lottoG 1 + winC lottoG 2 + winC lottoG 3 = 260624
 rw [lot_win0,lot_win1,lot_win2,lot_win3]
theorem lot_pay : sumTo (payT lottoG (winC lottoG)) 4 = 260624000 := by
 simp only [sumTo]
 show 0 + winC lottoG 0 * 1000 + winC lottoG 1 * 1000 + winC lottoG 2 * 1000 + winC lottoG 3 * 1000 = 260624000
 rw [lot_win0,lot_win1,lot_win2,lot_win3]
theorem lot_hW (av tv : Value) (ms : List AddonM) : gameE lottoG = 0 → ∀ (t : Int) (X : World),0 ≤ t → t < lottoG.tiers.length → GameR X av tv ms lottoG → Calls Tryz.prog 30 #[gameVal lottoG av tv,.int .i64 t] X (NatC (winC lottoG t) 0 X) :=
 fun he t X _ _ h => owin_choose lottoG av tv ms t X h he (by decide)
theorem lot_tiers : lottoG.tiers.length = 4 := rfl
theorem lo_out (av tv : Value) (ms : List AddonM) (w : World) (h : GameR w av tv ms lottoG) : Calls Tryz.prog 26 #[gameVal lottoG av tv] w (NatC 13983816 0 w) := by
 have h1 := oOut_any lottoG av tv ms w h
 rw [lot_outV] at h1
 exact h1
theorem lo_win (av tv : Value) (ms : List AddonM) (w : World) (h : GameR w av tv ms lottoG) : Calls Tryz.prog 8 #[gameVal lottoG av tv,.int .i64 3] w (NatC 246820 0 w) :=
 oWin_any lottoG av tv ms (winC lottoG) 3 w h 246820 0 (by unfold WinO;rw [if_neg (by rw [lot_game];simp),if_neg (by rw [lot_tiers];decide),lot_win3]) (lot_hW av tv ms)
theorem lo_chance (av tv : Value) (ms : List AddonM) (w : World) (h : GameR w av tv ms lottoG) : Calls Tryz.prog 10 #[gameVal lottoG av tv,.int .i64 0] w (FracC 1 13983816 0 w) := by
 have h1 := oChance_any lottoG av tv ms (winC lottoG) 0 w h 1 0 (by unfold WinO;rw [if_neg (by rw [lot_game];simp),if_neg (by rw [lot_tiers];decide),lot_win0]) (fun _ => by have := limbs_two (n := 1) (by omega);omega) (lot_hW av tv ms)
 rw [lot_outN] at h1
 exact h1
theorem lo_any (av tv : Value) (ms : List AddonM) (w : World) (h : GameR w av tv ms lottoG) : Calls Tryz.prog 14 #[gameVal lottoG av tv] w (FracC 4654 249711 0 w) := by
 have h1 := oAny_any lottoG av tv ms (winC lottoG) w h (fun _ => by rw [lot_tiers,lot_sum];have := limbs_two (n := 260624) (by omega);omega) (lot_hW av tv ms)
 rw [lot_outN,lot_game,lot_tiers,lot_sum] at h1
 exact h1
theorem lo_pay (av tv : Value) (ms : List AddonM) (w : World) (h : GameR w av tv ms lottoG) : Calls Tryz.prog 16 #[gameVal lottoG av tv] w (FracC 23270 249711 0 w) := by
 have h1 := oPay_any lottoG av tv ms (winC lottoG) w h (fun _ => by rw [lot_tiers,lot_pay];have := limbs_two (n := 260624000) (by omega);omega) (fun he i hi => winC_limbs (choF he (by decide)) i) (fun _ t ht => by
  have : ∀ t ∈ lottoG.tiers,t.value ≤ 9223372036854775807 := by decide
  exact this t ht) (lot_hW av tv ms)
 rw [lot_outN,lot_game,lot_tiers,lot_pay] at h1
 exact h1
theorem lo_of (m n : Nat) (w : World) (hm : m ≤ 9223372036854775807) (hn : n ≤ 9223372036854775807) (h0 : 0 < n) (hg : Nat.gcd m n = 1) : Calls Tryz.prog 28 #[.int .i64 (m : Int),.int .i64 (n : Int)] w (FracC m n 0 w) := by
 have h1 := rfof_ok m n w hm hn h0
 rw [hg,Nat.div_one,Nat.div_one] at h1
 exact h1
def Rng (X : World) (l : List (Nat × List Value)) : Prop := ∀ p ∈ l,X.rangeAt p.1 0 p.2
theorem Rng.nil (X : World) : Rng X [] := fun _ h => by cases h
theorem Rng.cons {X : World} {b : Nat} {t : TypeId} {cs : List Value} {l : List (Nat × List Value)} (h : Row X b t cs) (hl : Rng X l) : Rng X ((b,cs) :: l) := by
 intro p hp
 rcases List.mem_cons.1 hp with rfl | hp
 ·intro j v hv
  rw [Nat.zero_add]
  exact (Row.cell? h j).trans hv
 ·exact hl p hp
theorem Rng.keep {X Y : World} {l : List (Nat × List Value)} (h : Rng X l) (hb : Below X.heap.size X Y) : Rng Y l := fun p hp j v hv => Bel.cellOf hb (h p hp j v hv)
theorem Rng.drew {X : World} {l : List (Nat × List Value)} (h : Rng X l) : Rng X.drew l := h
theorem Rng.at2 {X : World} {p q : Nat × List Value} {b : Nat} {cs : List Value} {l : List (Nat × List Value)} (h : Rng X (p :: q :: (b,cs) :: l)) : X.rangeAt b 0 cs := h (b,cs) (.tail _ (.tail _ (.head _)))
theorem Rng.far {X : World} {l : List (Nat × List Value)} (h : Rng X l) {q : Addr} (hq : ∀ p ∈ l,p.1 ≠ q.block) (u : Value) : Rng (X.setCell q u) l := by
 intro p hp j v hv
 exact cell_far (h p hp j v hv) (hq p hp) u
theorem GameAt.drew {X : World} {b : Nat} {g : GameD} {av tv : Value} (h : GameAt X b g av tv) : GameAt X.drew b g av tv := h
theorem LineAt.drew {X : World} {b : Nat} {mv bv : Value} (h : LineAt X b mv bv) : LineAt X.drew b mv bv := h
theorem Below.drewSelf (X : World) : Below X.heap.size X X.drew := Below.drew (Below.refl _ _)
theorem lo_of1 (w : World) : Calls Tryz.prog 28 #[.int .i64 1,.int .i64 13983816] w (FracC 1 13983816 0 w) := lo_of 1 13983816 w (by omega) (by omega) (by omega) (by decide)
theorem lo_of2 (w : World) : Calls Tryz.prog 28 #[.int .i64 4654,.int .i64 249711] w (FracC 4654 249711 0 w) := lo_of 4654 249711 w (by omega) (by omega) (by omega) (by decide)
theorem lo_of3 (w : World) : Calls Tryz.prog 28 #[.int .i64 23270,.int .i64 249711] w (FracC 23270 249711 0 w) := lo_of 23270 249711 w (by omega) (by omega) (by omega) (by decide)
theorem ref_n1 (w : World) : Calls Tryz.prog 25 #[.int .u64 13983816] w (SomeNat 13983816 w) := ref_of 13983816 w (by omega)
theorem ref_n2 (w : World) : Calls Tryz.prog 25 #[.int .u64 246820] w (SomeNat 246820 w) := ref_of 246820 w (by omega)
set_option maxHeartbeats 16000000 in
set_option maxRecDepth 100000 in
theorem awake35_any (w : World) : Calls Tryz.prog 7 #[] w (BoolB true w) := by
 go_enter Tryz.func7,Tryz.ntmps7
 have bel := Below.refl w.heap.size w
 go_wp2_with fail
 refine (lotto35_any _).mono ?_
 rintro e l0 ⟨av,tv,ms,rfl,hG,hb⟩
 replace bel := Bel.to bel hb
 clear hb
 go_wp2_with fail
 refine (lo_out av tv ms l0 hG).mono ?_
 rintro e x0 ⟨u,rfl,h0,hb⟩
 obtain ⟨a0,m0,c0,rfl⟩ := Rd.shape h0
 replace bel := Bel.to bel hb
 clear hb hG
 go_upto_region 2 with (fail)
 obtain ⟨y0,hy0⟩ : ∃ X,X = x0.alloc (.cells #[.slice a0 m0 c0] 30) := ⟨_,rfl⟩
 have hb : Below x0.heap.size x0 y0 := by rw [hy0];exact Bel.al (Below.refl _ _) _
 have r0 : Row y0 x0.heap.size 30 [.slice a0 m0 c0] := by rw [hy0];exact Row.newOf _ rfl
 rw [← hy0]
 clear hy0
 replace bel := Bel.to bel hb
 replace h0 := Rd.below h0 hb
 clear hb
 obtain ⟨b0,hq0⟩ : ∃ b,b = x0.heap.size := ⟨_,rfl⟩
 rw [← hq0] at r0 ⊢
 clear hq0
 go_wp2_with fail
 refine (lotto35_any _).mono ?_
 rintro e l1 ⟨av,tv,ms,rfl,hG,hb⟩
 replace bel := Bel.to bel hb
 replace h0 := Rd.below h0 hb
 replace r0 := Row.keep r0 hb
 clear hb
 go_wp2_with fail
 refine (lo_win av tv ms l1 hG).mono ?_
 rintro e x1 ⟨u,rfl,h1,hb⟩
 obtain ⟨a1,m1,c1,rfl⟩ := Rd.shape h1
 replace bel := Bel.to bel hb
 replace h0 := Rd.below h0 hb
 replace r0 := Row.keep r0 hb
 clear hb hG
 go_upto_region 3 with (fail)
 obtain ⟨y1,hy1⟩ : ∃ X,X = x1.alloc (.cells #[.slice a1 m1 c1] 30) := ⟨_,rfl⟩
 have hb : Below x1.heap.size x1 y1 := by rw [hy1];exact Bel.al (Below.refl _ _) _
 have r1 : Row y1 x1.heap.size 30 [.slice a1 m1 c1] := by rw [hy1];exact Row.newOf _ rfl
 rw [← hy1]
 clear hy1
 replace bel := Bel.to bel hb
 replace h0 := Rd.below h0 hb
 replace r0 := Row.keep r0 hb
 replace h1 := Rd.below h1 hb
 clear hb
 obtain ⟨b1,hq1⟩ : ∃ b,b = x1.heap.size := ⟨_,rfl⟩
 rw [← hq1] at r1 ⊢
 clear hq1
 go_wp2_with fail
 refine (lotto35_any _).mono ?_
 rintro e l2 ⟨av,tv,ms,rfl,hG,hb⟩
 replace bel := Bel.to bel hb
 replace h0 := Rd.below h0 hb
 replace r0 := Row.keep r0 hb
 replace h1 := Rd.below h1 hb
 replace r1 := Row.keep r1 hb
 clear hb
 go_wp2_with fail
 refine (lo_chance av tv ms l2 hG).mono ?_
 rintro e x2 ⟨u,v,rfl,h2,g2,hb⟩
 obtain ⟨a2,m2,c2,rfl⟩ := Rd.shape h2
 obtain ⟨d2,p2,e2,rfl⟩ := Rd.shape g2
 replace bel := Bel.to bel hb
 replace h0 := Rd.below h0 hb
 replace r0 := Row.keep r0 hb
 replace h1 := Rd.below h1 hb
 replace r1 := Row.keep r1 hb
 clear hb hG
 go_upto_region 4 with (fail)
 obtain ⟨y2,hy2⟩ : ∃ X,X = x2.alloc (.cells #[.slice a2 m2 c2,.slice d2 p2 e2] 35) := ⟨_,rfl⟩
 have hb : Below x2.heap.size x2 y2 := by rw [hy2];exact Bel.al (Below.refl _ _) _
 have r2 : Row y2 x2.heap.size 35 [.slice a2 m2 c2,.slice d2 p2 e2] := by rw [hy2];exact Row.newOf _ rfl
 rw [← hy2]
 clear hy2
 replace bel := Bel.to bel hb
 replace h0 := Rd.below h0 hb
 replace r0 := Row.keep r0 hb
 replace h1 := Rd.below h1 hb
 replace r1 := Row.keep r1 hb
 replace h2 := Rd.below h2 hb
 replace g2 := Rd.below g2 hb
 clear hb
 obtain ⟨b2,hq2⟩ : ∃ b,b = x2.heap.size := ⟨_,rfl⟩
 rw [← hq2] at r2 ⊢
 clear hq2
 go_wp2_with fail
 refine (lotto35_any _).mono ?_
 rintro e l3 ⟨av,tv,ms,rfl,hG,hb⟩
 replace bel := Bel.to bel hb
 replace h0 := Rd.below h0 hb
 replace r0 := Row.keep r0 hb
 replace h1 := Rd.below h1 hb
 replace r1 := Row.keep r1 hb
 replace h2 := Rd.below h2 hb
 replace g2 := Rd.below g2 hb
 replace r2 := Row.keep r2 hb
 clear hb
 go_wp2_with fail
 refine (lo_any av tv ms l3 hG).mono ?_
 rintro e x3 ⟨u,v,rfl,h3,g3,hb⟩
 obtain ⟨a3,m3,c3,rfl⟩ := Rd.shape h3
 obtain ⟨d3,p3,e3,rfl⟩ := Rd.shape g3
 replace bel := Bel.to bel hb
 replace h0 := Rd.below h0 hb
 replace r0 := Row.keep r0 hb
 replace h1 := Rd.below h1 hb
 replace r1 := Row.keep r1 hb
 replace h2 := Rd.below h2 hb
 replace g2 := Rd.below g2 hb
 replace r2 := Row.keep r2 hb
 clear hb hG
 go_upto_region 5 with (fail)
 obtain ⟨y3,hy3⟩ : ∃ X,X = x3.alloc (.cells #[.slice a3 m3 c3,.slice d3 p3 e3] 35) := ⟨_,rfl⟩
 have hb : Below x3.heap.size x3 y3 := by rw [hy3];exact Bel.al (Below.refl _ _) _
 have r3 : Row y3 x3.heap.size 35 [.slice a3 m3 c3,.slice d3 p3 e3] := by rw [hy3];exact Row.newOf _ rfl
 rw [← hy3]
 clear hy3
 replace bel := Bel.to bel hb
 replace h0 := Rd.below h0 hb
 replace r0 := Row.keep r0 hb
 replace h1 := Rd.below h1 hb
 replace r1 := Row.keep r1 hb
 replace h2 := Rd.below h2 hb
 replace g2 := Rd.below g2 hb
 replace r2 := Row.keep r2 hb
 replace h3 := Rd.below h3 hb
 replace g3 := Rd.below g3 hb
 clear hb
 obtain ⟨b3,hq3⟩ : ∃ b,b = x3.heap.size := ⟨_,rfl⟩
 rw [← hq3] at r3 ⊢
 clear hq3
 go_wp2_with fail
 refine (lotto35_any _).mono ?_
 rintro e l4 ⟨av,tv,ms,rfl,hG,hb⟩
 replace bel := Bel.to bel hb
 replace h0 := Rd.below h0 hb
 replace r0 := Row.keep r0 hb
 replace h1 := Rd.below h1 hb
 replace r1 := Row.keep r1 hb
 replace h2 := Rd.below h2 hb
 replace g2 := Rd.below g2 hb
 replace r2 := Row.keep r2 hb
 replace h3 := Rd.below h3 hb
 replace g3 := Rd.below g3 hb
 replace r3 := Row.keep r3 hb
 clear hb
 go_wp2_with fail
 refine (lo_pay av tv ms l4 hG).mono ?_
 rintro e x4 ⟨u,v,rfl,h4,g4,hb⟩
 obtain ⟨a4,m4,c4,rfl⟩ := Rd.shape h4
 obtain ⟨d4,p4,e4,rfl⟩ := Rd.shape g4
 replace bel := Bel.to bel hb
 replace h0 := Rd.below h0 hb
 replace r0 := Row.keep r0 hb
 replace h1 := Rd.below h1 hb
 replace r1 := Row.keep r1 hb
 replace h2 := Rd.below h2 hb
 replace g2 := Rd.below g2 hb
 replace r2 := Row.keep r2 hb
 replace h3 := Rd.below h3 hb
 replace g3 := Rd.below g3 hb
 replace r3 := Row.keep r3 hb
 clear hb hG
 go_upto_region 6 with (fail)
 obtain ⟨y4,hy4⟩ : ∃ X,X = x4.alloc (.cells #[.slice a4 m4 c4,.slice d4 p4 e4] 35) := ⟨_,rfl⟩
 have hb : Below x4.heap.size x4 y4 := by rw [hy4];exact Bel.al (Below.refl _ _) _
 have r4 : Row y4 x4.heap.size 35 [.slice a4 m4 c4,.slice d4 p4 e4] := by rw [hy4];exact Row.newOf _ rfl
 rw [← hy4]
 clear hy4
 replace bel := Bel.to bel hb
 replace h0 := Rd.below h0 hb
 replace r0 := Row.keep r0 hb
 replace h1 := Rd.below h1 hb
 replace r1 := Row.keep r1 hb
 replace h2 := Rd.below h2 hb
 replace g2 := Rd.below g2 hb
 replace r2 := Row.keep r2 hb
 replace h3 := Rd.below h3 hb
 replace g3 := Rd.below g3 hb
 replace r3 := Row.keep r3 hb
 replace h4 := Rd.below h4 hb
 replace g4 := Rd.below g4 hb
 clear hb
 obtain ⟨b4,hq4⟩ : ∃ b,b = x4.heap.size := ⟨_,rfl⟩
 rw [← hq4] at r4 ⊢
 clear hq4
 go_wp2_with fail
 refine (lo_of1 _).mono ?_
 rintro e x5 ⟨u,v,rfl,h5,g5,hb⟩
 obtain ⟨a5,m5,c5,rfl⟩ := Rd.shape h5
 obtain ⟨d5,p5,e5,rfl⟩ := Rd.shape g5
 replace bel := Bel.to bel hb
 replace h0 := Rd.below h0 hb
 replace r0 := Row.keep r0 hb
 replace h1 := Rd.below h1 hb
 replace r1 := Row.keep r1 hb
 replace h2 := Rd.below h2 hb
 replace g2 := Rd.below g2 hb
 replace r2 := Row.keep r2 hb
 replace h3 := Rd.below h3 hb
 replace g3 := Rd.below g3 hb
 replace r3 := Row.keep r3 hb
 replace h4 := Rd.below h4 hb
 replace g4 := Rd.below g4 hb
 replace r4 := Row.keep r4 hb
 clear hb
 go_upto_region 7 with (fail)
 obtain ⟨y5,hy5⟩ : ∃ X,X = x5.alloc (.cells #[.slice a5 m5 c5,.slice d5 p5 e5] 35) := ⟨_,rfl⟩
 have hb : Below x5.heap.size x5 y5 := by rw [hy5];exact Bel.al (Below.refl _ _) _
 have r5 : Row y5 x5.heap.size 35 [.slice a5 m5 c5,.slice d5 p5 e5] := by rw [hy5];exact Row.newOf _ rfl
 rw [← hy5]
 clear hy5
 replace bel := Bel.to bel hb
 replace h0 := Rd.below h0 hb
 replace r0 := Row.keep r0 hb
 replace h1 := Rd.below h1 hb
 replace r1 := Row.keep r1 hb
 replace h2 := Rd.below h2 hb
 replace g2 := Rd.below g2 hb
 replace r2 := Row.keep r2 hb
 replace h3 := Rd.below h3 hb
 replace g3 := Rd.below g3 hb
 replace r3 := Row.keep r3 hb
 replace h4 := Rd.below h4 hb
 replace g4 := Rd.below g4 hb
 replace r4 := Row.keep r4 hb
 replace h5 := Rd.below h5 hb
 replace g5 := Rd.below g5 hb
 clear hb
 obtain ⟨b5,hq5⟩ : ∃ b,b = x5.heap.size := ⟨_,rfl⟩
 rw [← hq5] at r5 ⊢
 clear hq5
 go_wp2_with fail
 refine (lo_of2 _).mono ?_
 rintro e x6 ⟨u,v,rfl,h6,g6,hb⟩
 obtain ⟨a6,m6,c6,rfl⟩ := Rd.shape h6
 obtain ⟨d6,p6,e6,rfl⟩ := Rd.shape g6
 replace bel := Bel.to bel hb
 replace h0 := Rd.below h0 hb
 replace r0 := Row.keep r0 hb
 replace h1 := Rd.below h1 hb
 replace r1 := Row.keep r1 hb
 replace h2 := Rd.below h2 hb
 replace g2 := Rd.below g2 hb
 replace r2 := Row.keep r2 hb
 replace h3 := Rd.below h3 hb
 replace g3 := Rd.below g3 hb
 replace r3 := Row.keep r3 hb
 replace h4 := Rd.below h4 hb
 replace g4 := Rd.below g4 hb
 replace r4 := Row.keep r4 hb
 replace h5 := Rd.below h5 hb
 replace g5 := Rd.below g5 hb
 replace r5 := Row.keep r5 hb
 clear hb
 go_upto_region 8 with (fail)
 obtain ⟨y6,hy6⟩ : ∃ X,X = x6.alloc (.cells #[.slice a6 m6 c6,.slice d6 p6 e6] 35) := ⟨_,rfl⟩
 have hb : Below x6.heap.size x6 y6 := by rw [hy6];exact Bel.al (Below.refl _ _) _
 have r6 : Row y6 x6.heap.size 35 [.slice a6 m6 c6,.slice d6 p6 e6] := by rw [hy6];exact Row.newOf _ rfl
 rw [← hy6]
 clear hy6
 replace bel := Bel.to bel hb
 replace h0 := Rd.below h0 hb
 replace r0 := Row.keep r0 hb
 replace h1 := Rd.below h1 hb
 replace r1 := Row.keep r1 hb
 replace h2 := Rd.below h2 hb
 replace g2 := Rd.below g2 hb
 replace r2 := Row.keep r2 hb
 replace h3 := Rd.below h3 hb
 replace g3 := Rd.below g3 hb
 replace r3 := Row.keep r3 hb
 replace h4 := Rd.below h4 hb
 replace g4 := Rd.below g4 hb
 replace r4 := Row.keep r4 hb
 replace h5 := Rd.below h5 hb
 replace g5 := Rd.below g5 hb
 replace r5 := Row.keep r5 hb
 replace h6 := Rd.below h6 hb
 replace g6 := Rd.below g6 hb
 clear hb
 obtain ⟨b6,hq6⟩ : ∃ b,b = x6.heap.size := ⟨_,rfl⟩
 rw [← hq6] at r6 ⊢
 clear hq6
 go_wp2_with fail
 refine (lo_of3 _).mono ?_
 rintro e x7 ⟨u,v,rfl,h7,g7,hb⟩
 obtain ⟨a7,m7,c7,rfl⟩ := Rd.shape h7
 obtain ⟨d7,p7,e7,rfl⟩ := Rd.shape g7
 replace bel := Bel.to bel hb
 replace h0 := Rd.below h0 hb
 replace r0 := Row.keep r0 hb
 replace h1 := Rd.below h1 hb
 replace r1 := Row.keep r1 hb
 replace h2 := Rd.below h2 hb
 replace g2 := Rd.below g2 hb
 replace r2 := Row.keep r2 hb
 replace h3 := Rd.below h3 hb
 replace g3 := Rd.below g3 hb
 replace r3 := Row.keep r3 hb
 replace h4 := Rd.below h4 hb
 replace g4 := Rd.below g4 hb
 replace r4 := Row.keep r4 hb
 replace h5 := Rd.below h5 hb
 replace g5 := Rd.below g5 hb
 replace r5 := Row.keep r5 hb
 replace h6 := Rd.below h6 hb
 replace g6 := Rd.below g6 hb
 replace r6 := Row.keep r6 hb
 clear hb
 go_upto_region 9 with (fail)
 obtain ⟨y7,hy7⟩ : ∃ X,X = x7.alloc (.cells #[.slice a7 m7 c7,.slice d7 p7 e7] 35) := ⟨_,rfl⟩
 have hb : Below x7.heap.size x7 y7 := by rw [hy7];exact Bel.al (Below.refl _ _) _
 have r7 : Row y7 x7.heap.size 35 [.slice a7 m7 c7,.slice d7 p7 e7] := by rw [hy7];exact Row.newOf _ rfl
 rw [← hy7]
 clear hy7
 replace bel := Bel.to bel hb
 replace h0 := Rd.below h0 hb
 replace r0 := Row.keep r0 hb
 replace h1 := Rd.below h1 hb
 replace r1 := Row.keep r1 hb
 replace h2 := Rd.below h2 hb
 replace g2 := Rd.below g2 hb
 replace r2 := Row.keep r2 hb
 replace h3 := Rd.below h3 hb
 replace g3 := Rd.below g3 hb
 replace r3 := Row.keep r3 hb
 replace h4 := Rd.below h4 hb
 replace g4 := Rd.below g4 hb
 replace r4 := Row.keep r4 hb
 replace h5 := Rd.below h5 hb
 replace g5 := Rd.below g5 hb
 replace r5 := Row.keep r5 hb
 replace h6 := Rd.below h6 hb
 replace g6 := Rd.below g6 hb
 replace r6 := Row.keep r6 hb
 replace h7 := Rd.below h7 hb
 replace g7 := Rd.below g7 hb
 clear hb
 obtain ⟨b7,hq7⟩ : ∃ b,b = x7.heap.size := ⟨_,rfl⟩
 rw [← hq7] at r7 ⊢
 clear hq7
 go_upto_region 11 with (fail)
 refine wp_region_held_drew (S := fun X => Rng X [(b0,[.slice a0 m0 c0]),(b1,[.slice a1 m1 c1]),(b2,[.slice a2 m2 c2,.slice d2 p2 e2]),(b3,[.slice a3 m3 c3,.slice d3 p3 e3]),(b4,[.slice a4 m4 c4,.slice d4 p4 e4]),(b5,[.slice a5 m5 c5,.slice d5 p5 e5]),(b6,[.slice a6 m6 c6,.slice d6 p6 e6]),(b7,[.slice a7 m7 c7,.slice d7 p7 e7])]) (by kernel_rfl) (Rng.cons r0 (Rng.cons r1 (Rng.cons r2 (Rng.cons r3 (Rng.cons r4 (Rng.cons r5 (Rng.cons r6 (Rng.cons r7 (Rng.nil _))))))))) (fun hHeld => ?_)
 replace bel := Bel.to bel (Below.drewSelf _)
 replace h0 := Rd.below h0 (Below.drewSelf _)
 replace h1 := Rd.below h1 (Below.drewSelf _)
 replace h2 := Rd.below h2 (Below.drewSelf _)
 replace g2 := Rd.below g2 (Below.drewSelf _)
 replace h3 := Rd.below h3 (Below.drewSelf _)
 replace g3 := Rd.below g3 (Below.drewSelf _)
 replace h4 := Rd.below h4 (Below.drewSelf _)
 replace g4 := Rd.below g4 (Below.drewSelf _)
 replace h5 := Rd.below h5 (Below.drewSelf _)
 replace g5 := Rd.below g5 (Below.drewSelf _)
 replace h6 := Rd.below h6 (Below.drewSelf _)
 replace g6 := Rd.below g6 (Below.drewSelf _)
 replace h7 := Rd.below h7 (Below.drewSelf _)
 replace g7 := Rd.below g7 (Below.drewSelf _)
 refine' wpAnyH_take (i := 0) (oi := _) (v := _) rfl (by kernel_rfl) (by kernel_rfl) (by kernel_rfl) (fun _ _ _ h => h) (yieldsIf_load_mid (by first | (go_simp;done) | rfl) 30 _ rfl _ _ rfl [.slice a0 m0 c0] _ (fun X h => h (b0,[.slice a0 m0 c0]) (.head _)) Tryz.underlying30 rfl (by kernel_rfl)) hHeld ?_
 try simp only [Act.put,zsA,zsB,zsC]
 refine wpAnyH_ready (rs := [1]) (by kernel_rfl) (by simp) ?_
 refine AllReadyH.cons (o := _) rfl (fun K hK => ?_) AllReadyH.nil
 go_simp
 refine (ref_n1 _).mono ?_
 rintro e q1 ⟨u,rfl,hu,hb⟩
 obtain ⟨ua,ul,uc,rfl⟩ := Rd.shape hu
 replace bel := Bel.to bel hb
 replace h0 := Rd.below h0 hb
 replace h1 := Rd.below h1 hb
 replace h2 := Rd.below h2 hb
 replace g2 := Rd.below g2 hb
 replace h3 := Rd.below h3 hb
 replace g3 := Rd.below g3 hb
 replace h4 := Rd.below h4 hb
 replace g4 := Rd.below g4 hb
 replace h5 := Rd.below h5 hb
 replace g5 := Rd.below g5 hb
 replace h6 := Rd.below h6 hb
 replace g6 := Rd.below g6 hb
 replace h7 := Rd.below h7 hb
 replace g7 := Rd.below g7 hb
 go_wp2_with fail
 refine hK.out _ _ (hHeld.keep hb) (fun hHeld => ?_)
 clear hK K
 try simp only [Act.put,zsA,zsB,zsC]
 clear hb
 have cS := hide (same_nats _ _ 13983816 13983816 _ h0 hu)
 rw [decide_eq_true (show (13983816 : Nat) = 13983816 from rfl)] at cS
 refine wpAnyH_ready (rs := [2]) (by kernel_rfl) (by simp) ?_
 refine AllReadyH.cons (o := _) rfl (fun K hK => ?_) AllReadyH.nil
 go_simp
 refine (cS.out).mono ?_
 rintro e q2 ⟨rfl,hb⟩
 replace bel := Bel.to bel hb
 replace h0 := Rd.below h0 hb
 replace h1 := Rd.below h1 hb
 replace h2 := Rd.below h2 hb
 replace g2 := Rd.below g2 hb
 replace h3 := Rd.below h3 hb
 replace g3 := Rd.below g3 hb
 replace h4 := Rd.below h4 hb
 replace g4 := Rd.below g4 hb
 replace h5 := Rd.below h5 hb
 replace g5 := Rd.below g5 hb
 replace h6 := Rd.below h6 hb
 replace g6 := Rd.below g6 hb
 replace h7 := Rd.below h7 hb
 replace g7 := Rd.below g7 hb
 go_wp2_with fail
 refine hK.out _ _ (hHeld.keep hb) (fun hHeld => ?_)
 clear hK K
 try simp only [Act.put,zsA,zsB,zsC]
 clear hb cS hu
 refine' wpAnyH_take (i := 3) (oi := _) (v := .bool true) rfl (by kernel_rfl) (by kernel_rfl) (by kernel_rfl) (fun _ _ _ h => h) (Or.inl ⟨by first | (go_simp;done) | rfl,fun X _ => by go_simp⟩) hHeld ?_
 try simp only [Act.put,zsA,zsB,zsC]
 refine' wpAnyH_take (i := 4) (oi := _) (v := _) rfl (by kernel_rfl) (by kernel_rfl) (by kernel_rfl) (fun _ _ _ h => h) (yieldsIf_load_mid (by first | (go_simp;done) | rfl) 30 _ rfl _ _ rfl [.slice a1 m1 c1] _ (fun X h => h (b1,[.slice a1 m1 c1]) (.tail _ (.head _))) Tryz.underlying30 rfl (by kernel_rfl)) hHeld ?_
 try simp only [Act.put,zsA,zsB,zsC]
 refine wpAnyH_ready (rs := [5]) (by kernel_rfl) (by simp) ?_
 refine AllReadyH.cons (o := _) rfl (fun K hK => ?_) AllReadyH.nil
 go_simp
 refine (ref_n2 _).mono ?_
 rintro e q5 ⟨u,rfl,hu,hb⟩
 obtain ⟨ua,ul,uc,rfl⟩ := Rd.shape hu
 replace bel := Bel.to bel hb
 replace h0 := Rd.below h0 hb
 replace h1 := Rd.below h1 hb
 replace h2 := Rd.below h2 hb
 replace g2 := Rd.below g2 hb
 replace h3 := Rd.below h3 hb
 replace g3 := Rd.below g3 hb
 replace h4 := Rd.below h4 hb
 replace g4 := Rd.below g4 hb
 replace h5 := Rd.below h5 hb
 replace g5 := Rd.below g5 hb
 replace h6 := Rd.below h6 hb
 replace g6 := Rd.below g6 hb
 replace h7 := Rd.below h7 hb
 replace g7 := Rd.below g7 hb
 go_wp2_with fail
 refine hK.out _ _ (hHeld.keep hb) (fun hHeld => ?_)
 clear hK K
 try simp only [Act.put,zsA,zsB,zsC]
 clear hb
 have cS := hide (same_nats _ _ 246820 246820 _ h1 hu)
 rw [decide_eq_true (show (246820 : Nat) = 246820 from rfl)] at cS
 refine wpAnyH_ready (rs := [6]) (by kernel_rfl) (by simp) ?_
 refine AllReadyH.cons (o := _) rfl (fun K hK => ?_) AllReadyH.nil
 go_simp
 refine (cS.out).mono ?_
 rintro e q6 ⟨rfl,hb⟩
 replace bel := Bel.to bel hb
 replace h0 := Rd.below h0 hb
 replace h1 := Rd.below h1 hb
 replace h2 := Rd.below h2 hb
 replace g2 := Rd.below g2 hb
 replace h3 := Rd.below h3 hb
 replace g3 := Rd.below g3 hb
 replace h4 := Rd.below h4 hb
 replace g4 := Rd.below g4 hb
 replace h5 := Rd.below h5 hb
 replace g5 := Rd.below g5 hb
 replace h6 := Rd.below h6 hb
 replace g6 := Rd.below g6 hb
 replace h7 := Rd.below h7 hb
 replace g7 := Rd.below g7 hb
 go_wp2_with fail
 refine hK.out _ _ (hHeld.keep hb) (fun hHeld => ?_)
 clear hK K
 try simp only [Act.put,zsA,zsB,zsC]
 clear hb cS hu
 refine' wpAnyH_take (i := 7) (oi := _) (v := .bool true) rfl (by kernel_rfl) (by kernel_rfl) (by kernel_rfl) (fun _ _ _ h => h) (Or.inl ⟨by first | (go_simp;done) | rfl,fun X _ => by go_simp⟩) hHeld ?_
 try simp only [Act.put,zsA,zsB,zsC]
 refine' wpAnyH_take (i := 8) (oi := _) (v := .bool true) rfl (by kernel_rfl) (by kernel_rfl) (by kernel_rfl) (fun _ _ _ h => h) (Or.inl ⟨by first | (go_simp;done) | rfl,fun X _ => by go_simp⟩) hHeld ?_
 try simp only [Act.put,zsA,zsB,zsC]
 refine' wpAnyH_take (i := 9) (oi := _) (v := _) rfl (by kernel_rfl) (by kernel_rfl) (by kernel_rfl) (fun _ _ _ h => h) (yieldsIf_load_mid (by first | (go_simp;done) | rfl) 35 _ rfl _ _ rfl [.slice a2 m2 c2,.slice d2 p2 e2] _ (fun X h => h (b2,[.slice a2 m2 c2,.slice d2 p2 e2]) (.tail _ (.tail _ (.head _)))) Tryz.underlying35 rfl (by kernel_rfl)) hHeld ?_
 try simp only [Act.put,zsA,zsB,zsC]
 refine' wpAnyH_take (i := 10) (oi := _) (v := _) rfl (by kernel_rfl) (by kernel_rfl) (by kernel_rfl) (fun _ _ _ h => h) (yieldsIf_load_mid (by first | (go_simp;done) | rfl) 35 _ rfl _ _ rfl [.slice a5 m5 c5,.slice d5 p5 e5] _ (fun X h => h (b5,[.slice a5 m5 c5,.slice d5 p5 e5]) (.tail _ (.tail _ (.tail _ (.tail _ (.tail _ (.head _))))))) Tryz.underlying35 rfl (by kernel_rfl)) hHeld ?_
 try simp only [Act.put,zsA,zsB,zsC]
 have cS := hide (rfsame_any _ _ _ _ 1 13983816 1 13983816 _ h2 g2 h5 g5)
 rw [decide_eq_true (show (1 : Nat) = 1 ∧ (13983816 : Nat) = 13983816 from ⟨rfl,rfl⟩)] at cS
 refine wpAnyH_ready (rs := [11]) (by kernel_rfl) (by simp) ?_
 refine AllReadyH.cons (o := _) rfl (fun K hK => ?_) AllReadyH.nil
 go_simp
 refine (cS.out).mono ?_
 rintro e q11 ⟨rfl,hb⟩
 replace bel := Bel.to bel hb
 replace h0 := Rd.below h0 hb
 replace h1 := Rd.below h1 hb
 replace h2 := Rd.below h2 hb
 replace g2 := Rd.below g2 hb
 replace h3 := Rd.below h3 hb
 replace g3 := Rd.below g3 hb
 replace h4 := Rd.below h4 hb
 replace g4 := Rd.below g4 hb
 replace h5 := Rd.below h5 hb
 replace g5 := Rd.below g5 hb
 replace h6 := Rd.below h6 hb
 replace g6 := Rd.below g6 hb
 replace h7 := Rd.below h7 hb
 replace g7 := Rd.below g7 hb
 go_wp2_with fail
 refine hK.out _ _ (hHeld.keep hb) (fun hHeld => ?_)
 clear hK K
 try simp only [Act.put,zsA,zsB,zsC]
 clear hb cS
 refine' wpAnyH_take (i := 12) (oi := _) (v := .bool true) rfl (by kernel_rfl) (by kernel_rfl) (by kernel_rfl) (fun _ _ _ h => h) (Or.inl ⟨by first | (go_simp;done) | rfl,fun X _ => by go_simp⟩) hHeld ?_
 try simp only [Act.put,zsA,zsB,zsC]
 refine' wpAnyH_take (i := 13) (oi := _) (v := .bool true) rfl (by kernel_rfl) (by kernel_rfl) (by kernel_rfl) (fun _ _ _ h => h) (Or.inl ⟨by first | (go_simp;done) | rfl,fun X _ => by go_simp⟩) hHeld ?_
 try simp only [Act.put,zsA,zsB,zsC]
 refine' wpAnyH_take (i := 14) (oi := _) (v := _) rfl (by kernel_rfl) (by kernel_rfl) (by kernel_rfl) (fun _ _ _ h => h) (yieldsIf_load_mid (by first | (go_simp;done) | rfl) 35 _ rfl _ _ rfl [.slice a3 m3 c3,.slice d3 p3 e3] _ (fun X h => h (b3,[.slice a3 m3 c3,.slice d3 p3 e3]) (.tail _ (.tail _ (.tail _ (.head _))))) Tryz.underlying35 rfl (by kernel_rfl)) hHeld ?_
 try simp only [Act.put,zsA,zsB,zsC]
 refine' wpAnyH_take (i := 15) (oi := _) (v := _) rfl (by kernel_rfl) (by kernel_rfl) (by kernel_rfl) (fun _ _ _ h => h) (yieldsIf_load_mid (by first | (go_simp;done) | rfl) 35 _ rfl _ _ rfl [.slice a6 m6 c6,.slice d6 p6 e6] _ (fun X h => h (b6,[.slice a6 m6 c6,.slice d6 p6 e6]) (.tail _ (.tail _ (.tail _ (.tail _ (.tail _ (.tail _ (.head _)))))))) Tryz.underlying35 rfl (by kernel_rfl)) hHeld ?_
 try simp only [Act.put,zsA,zsB,zsC]
 have cS := hide (rfsame_any _ _ _ _ 4654 249711 4654 249711 _ h3 g3 h6 g6)
 rw [decide_eq_true (show (4654 : Nat) = 4654 ∧ (249711 : Nat) = 249711 from ⟨rfl,rfl⟩)] at cS
 refine wpAnyH_ready (rs := [16]) (by kernel_rfl) (by simp) ?_
 refine AllReadyH.cons (o := _) rfl (fun K hK => ?_) AllReadyH.nil
 go_simp
 refine (cS.out).mono ?_
 rintro e q16 ⟨rfl,hb⟩
 replace bel := Bel.to bel hb
 replace h0 := Rd.below h0 hb
 replace h1 := Rd.below h1 hb
 replace h2 := Rd.below h2 hb
 replace g2 := Rd.below g2 hb
 replace h3 := Rd.below h3 hb
 replace g3 := Rd.below g3 hb
 replace h4 := Rd.below h4 hb
 replace g4 := Rd.below g4 hb
 replace h5 := Rd.below h5 hb
 replace g5 := Rd.below g5 hb
 replace h6 := Rd.below h6 hb
 replace g6 := Rd.below g6 hb
 replace h7 := Rd.below h7 hb
 replace g7 := Rd.below g7 hb
 go_wp2_with fail
 refine hK.out _ _ (hHeld.keep hb) (fun hHeld => ?_)
 clear hK K
 try simp only [Act.put,zsA,zsB,zsC]
 clear hb cS
 refine' wpAnyH_take (i := 17) (oi := _) (v := .bool true) rfl (by kernel_rfl) (by kernel_rfl) (by kernel_rfl) (fun _ _ _ h => h) (Or.inl ⟨by first | (go_simp;done) | rfl,fun X _ => by go_simp⟩) hHeld ?_
 try simp only [Act.put,zsA,zsB,zsC]
 refine' wpAnyH_take (i := 18) (oi := _) (v := .bool true) rfl (by kernel_rfl) (by kernel_rfl) (by kernel_rfl) (fun _ _ _ h => h) (Or.inl ⟨by first | (go_simp;done) | rfl,fun X _ => by go_simp⟩) hHeld ?_
 try simp only [Act.put,zsA,zsB,zsC]
 refine' wpAnyH_take (i := 19) (oi := _) (v := _) rfl (by kernel_rfl) (by kernel_rfl) (by kernel_rfl) (fun _ _ _ h => h) (yieldsIf_load_mid (by first | (go_simp;done) | rfl) 35 _ rfl _ _ rfl [.slice a4 m4 c4,.slice d4 p4 e4] _ (fun X h => h (b4,[.slice a4 m4 c4,.slice d4 p4 e4]) (.tail _ (.tail _ (.tail _ (.tail _ (.head _)))))) Tryz.underlying35 rfl (by kernel_rfl)) hHeld ?_
 try simp only [Act.put,zsA,zsB,zsC]
 refine' wpAnyH_take (i := 20) (oi := _) (v := _) rfl (by kernel_rfl) (by kernel_rfl) (by kernel_rfl) (fun _ _ _ h => h) (yieldsIf_load_mid (by first | (go_simp;done) | rfl) 35 _ rfl _ _ rfl [.slice a7 m7 c7,.slice d7 p7 e7] _ (fun X h => h (b7,[.slice a7 m7 c7,.slice d7 p7 e7]) (.tail _ (.tail _ (.tail _ (.tail _ (.tail _ (.tail _ (.tail _ (.head _))))))))) Tryz.underlying35 rfl (by kernel_rfl)) hHeld ?_
 try simp only [Act.put,zsA,zsB,zsC]
 have cS := hide (rfsame_any _ _ _ _ 23270 249711 23270 249711 _ h4 g4 h7 g7)
 rw [decide_eq_true (show (23270 : Nat) = 23270 ∧ (249711 : Nat) = 249711 from ⟨rfl,rfl⟩)] at cS
 refine wpAnyH_ready (rs := [21]) (by kernel_rfl) (by simp) ?_
 refine AllReadyH.cons (o := _) rfl (fun K hK => ?_) AllReadyH.nil
 go_simp
 refine (cS.out).mono ?_
 rintro e q21 ⟨rfl,hb⟩
 replace bel := Bel.to bel hb
 replace h0 := Rd.below h0 hb
 replace h1 := Rd.below h1 hb
 replace h2 := Rd.below h2 hb
 replace g2 := Rd.below g2 hb
 replace h3 := Rd.below h3 hb
 replace g3 := Rd.below g3 hb
 replace h4 := Rd.below h4 hb
 replace g4 := Rd.below g4 hb
 replace h5 := Rd.below h5 hb
 replace g5 := Rd.below g5 hb
 replace h6 := Rd.below h6 hb
 replace g6 := Rd.below g6 hb
 replace h7 := Rd.below h7 hb
 replace g7 := Rd.below g7 hb
 go_wp2_with fail
 refine hK.out _ _ (hHeld.keep hb) (fun hHeld => ?_)
 clear hK K
 try simp only [Act.put,zsA,zsB,zsC]
 clear hb cS
 refine' wpAnyH_take (i := 22) (oi := _) (v := .bool true) rfl (by kernel_rfl) (by kernel_rfl) (by kernel_rfl) (fun _ _ _ h => h) (Or.inl ⟨by first | (go_simp;done) | rfl,fun X _ => by go_simp⟩) hHeld ?_
 try simp only [Act.put,zsA,zsB,zsC]
 refine' wpAnyH_take (i := 23) (oi := _) (v := .bool true) rfl (by kernel_rfl) (by kernel_rfl) (by kernel_rfl) (fun _ _ _ h => h) (Or.inl ⟨by first | (go_simp;done) | rfl,fun X _ => by go_simp⟩) hHeld ?_
 try simp only [Act.put,zsA,zsB,zsC]
 refine wpAnyH_done (by kernel_rfl) ?_ _
 go_simp
 go_wp2
 go_ret
 exact ⟨rfl,bel⟩
def Few35 (m n : Nat) (w : World) (e : Ending) (w' : World) : Prop := ∃ b,e = .returned (.bool b) ∧ (b = true → m ≤ 50 ∧ n ≤ 50) ∧ Below w.heap.size w w'
set_option maxHeartbeats 4000000 in
set_option maxRecDepth 100000 in
theorem few35_any (g : GameD) (av tv : Value) (ms : List AddonM) (w : World) (rg : GameR w av tv ms g) :
  Calls Tryz.prog 6 #[gameVal g av tv] w (Few35 ms.length g.tiers.length w) := by
 have hh := hide rg
 obtain ⟨aa,ac,rfl,hal,ham⟩ := rg.1.1.shape
 obtain ⟨ta,tc,rfl,htl,htm⟩ := rg.2.2.shape
 obtain ⟨an,han⟩ : ∃ an,an = ms.length := ⟨_,rfl⟩
 obtain ⟨tn,htn⟩ : ∃ tn,tn = g.tiers.length := ⟨_,rfl⟩
 have hn63 : (an : Int) ≤ 9223372036854775807 := by unfold maxLen at ham;omega
 rw [← han,← htn] at hh ⊢
 replace han := hide han
 clear rg hal ham htl htm htn
 unfold gameVal
 go_enter Tryz.func6,Tryz.ntmps6
 go_upto_region 1 with (fail)
 obtain ⟨W,hW⟩ : ∃ W,W = (w.alloc (Obj.cells #[.string g.name,.int .i64 g.kind,.int .i64 g.price,.int .i64 g.main,.int .i64 g.of,.int .i64 g.bonus,.int .i64 g.bonusOf,.int .i64 g.extra,.int .i64 g.draws,.int .i64 g.system,.int .i64 g.days,.int .i64 g.at_,.int .i64 g.close,.int .i64 g.cancel,.int .i64 g.expiry,.int .i64 g.pool,.int .i64 g.reserve,.int .i64 g.round,.int .i64 g.cap,.int .i64 g.rolls,(.slice aa an ac),(.slice ta tn tc)] 25)) := ⟨_,rfl⟩
 have bW : Below w.heap.size w W := by rw [hW];exact Bel.al (Below.refl _ _) _
 have r0 : GameAt W w.heap.size g (.slice aa an ac) (.slice ta tn tc) := by rw [hW];exact Row.new _ _ _
 rw [← hW]
 clear hW
 have hG := hide (hh.out.below bW)
 clear hh
 have ca := r0.addons
 have ct := r0.tiers
 by_cases h1 : (50 : Int) < (an : Int)
 ·clear hG
  go_wp2
  go_ret
  exact ⟨_,rfl,(fun h => by cases h),bW⟩
 ·by_cases h2 : (50 : Int) < (tn : Int)
  ·clear hG
   go_wp2
   go_ret
   exact ⟨_,rfl,(fun h => by cases h),bW⟩
  ·have h1h := hide h1
   have h2h := hide h2
   go_wp2
   clear h1 h2 ct
   go_loopg [17] an (fun gh t wr => ∃ (i : Nat),gh = an - i ∧ i ≤ an ∧ t = .int .i64 (i : Int) ∧ W = wr)
   case atStart => exact ⟨0,rfl,Nat.zero_le _,rfl,rfl⟩
   case round =>
    obtain ⟨i,hgh,hi,rfl,rfl⟩ := hrel
    replace hgh := hide hgh
    by_cases hlt : i < an
    ·have hlt2 := hide hlt
     have hil : i < ms.length := by rw [← han.out];exact hlt
     obtain ⟨b,off,rfl,hbb,hcell⟩ := hG.out.1.1.at_ hil
     obtain ⟨m,hm⟩ : ∃ m,m = ms[i] := ⟨_,rfl⟩
     have hmi : ms[i]? = some m := by rw [hm];exact List.getElem?_eq_getElem hil
     have hd := hG.out.1.2 i m hmi
     obtain ⟨⟨nm,k1,k2,fl,k3,pl⟩,mv,bv⟩ := m
     obtain ⟨a1,a2,a3,rfl⟩ := hd.1.shape
     obtain ⟨b1,b2,b3,rfl⟩ := hd.2.shape
     have c3 : W.cell? ⟨b,off + i * 6 + 3,none⟩ = some (.slice a1 a2 a3) := hcell i _ hmi 3 _ rfl
     have c5 : W.cell? ⟨b,off + i * 6 + 5,none⟩ = some (.slice b1 b2 b3) := hcell i _ hmi 5 _ rfl
     have i1 : (0 : Int) ≤ (i : Int) := by omega
     have i2 : (i : Int) < (an : Int) := by omega
     clear hcell hm hmi hd
     by_cases q1 : (50 : Int) < (a2 : Int)
     ·go_wp2
      go_ret
      exact ⟨_,rfl,(fun h => by cases h),bW⟩
     ·by_cases q2 : (50 : Int) < (b2 : Int)
      ·go_wp2
       go_ret
       exact ⟨_,rfl,(fun h => by cases h),bW⟩
      ·go_wp2
       go_roundg (an - (i + 1))
       case measure => have := hgh.out;have := hlt2.out;omega
       case rel => exact ⟨i + 1,rfl,by have := hlt2.out;omega,by (have := hlt2.out;go_num),rfl⟩
    ·obtain rfl : an = i := by omega
     go_wp2
     go_ret
     exact ⟨_,rfl,(fun _ => ⟨by have := h1h.out;omega,by have := h2h.out;omega⟩),bW⟩
def ListV (l : List Int) (w : World) (e : Ending) (w' : World) : Prop := ∃ u,e = .returned u ∧ Rd I64 w' u l ∧ Below w.heap.size w w'
def leastI (a b : Int) : Int := if a < b then a else b
def numsL (g : GameD) : List Int := [g.price,g.main,g.of,g.bonus,g.bonusOf,g.extra,g.draws,g.system,g.days,g.at_,g.close,g.cancel,g.expiry,g.pool,g.reserve,g.round,g.cap,g.rolls]
def lowL (g : GameD) : List Int := [1,1,if g.kind = 2 then 2 else g.main,0,g.bonus,0,1,g.main,1,0,0,0,1,0,0,1,0,0]
def highL (g : GameD) : List Int := [1000000,10,if g.kind = 2 then 10 else 80,if g.kind = 2 then 0 else 4,if g.bonus = 0 then 0 else 80,if g.kind = 2 then 0 else leastI 4 (wrap64 (g.of - g.main)),32,if g.kind = 2 then g.main else leastI 14 g.of,127,1439,1440,10080,3660,10000,10000,1000000,1000000000000,64]
theorem Rd.at2 {w : World} {o : Obj} {t : TypeId} {l : List Int} {n : Nat} (hn : n = l.length) (hm : n ≤ 9223372036854775807) : Rd I64 ((w.alloc o).alloc (.cells (l.map I64).toArray t)) (.slice (some ⟨w.heap.size + 1,0,none⟩) n n) l :=
 (Row.at2 w o t (l.map I64)).rdAll hn (Nat.le_refl _) hm
set_option maxHeartbeats 1000000 in
theorem numbers_any (g : GameD) (av tv : Value) (w : World) (hav : ∃ ao n cap,av = .slice ao n cap) (htv : ∃ ao n cap,tv = .slice ao n cap) :
  Calls Tryz.prog 44 #[gameVal g av tv] w (ListV (numsL g) w) := by
 obtain ⟨gname,gkind,gprice,gmain,gof,gbonus,gbonusOf,gextra,gdraws,gsystem,gdays,gat,gclose,gcancel,gexpiry,gpool,greserve,ground,gcap,grolls,ga,gt⟩ := g
 obtain ⟨a1,a2,a3,rfl⟩ := hav
 obtain ⟨b1,b2,b3,rfl⟩ := htv
 unfold gameVal
 (try simp only [])
 go_enter Tryz.func44,Tryz.ntmps44
 go_wp2
 go_ret
 exact ⟨_,rfl,Rd.at2 rfl (by decide),Bel.al (Bel.al (Below.refl _ _) _) _⟩
set_option maxHeartbeats 1000000 in
theorem lowest_any (g : GameD) (av tv : Value) (w : World) (hav : ∃ ao n cap,av = .slice ao n cap) (htv : ∃ ao n cap,tv = .slice ao n cap) :
  Calls Tryz.prog 46 #[gameVal g av tv] w (ListV (lowL g) w) := by
 obtain ⟨l,hl⟩ : ∃ l,l = lowL g := ⟨_,rfl⟩
 rw [← hl]
 unfold lowL at hl
 obtain ⟨gname,gkind,gprice,gmain,gof,gbonus,gbonusOf,gextra,gdraws,gsystem,gdays,gat,gclose,gcancel,gexpiry,gpool,greserve,ground,gcap,grolls,ga,gt⟩ := g
 obtain ⟨a1,a2,a3,rfl⟩ := hav
 obtain ⟨b1,b2,b3,rfl⟩ := htv
 unfold gameVal
 (try simp only [] at hl ⊢)
 by_cases hk : gkind = 2
 ·subst hk
  rw [if_pos rfl] at hl
  replace hl := hide hl
  go_enter Tryz.func46,Tryz.ntmps46
  go_wp2
  go_ret
  rw [hl.out]
  exact ⟨_,rfl,Rd.at2 rfl (by decide),Bel.al (Bel.al (Below.refl _ _) _) _⟩
 ·rw [if_neg hk] at hl
  have hkb : (gkind == 2) = false := by simpa using hk
  replace hk := hide hk
  replace hl := hide hl
  go_enter Tryz.func46,Tryz.ntmps46
  go_wp2
  go_ret
  rw [hl.out]
  exact ⟨_,rfl,Rd.at2 rfl (by decide),Bel.al (Bel.al (Below.refl _ _) _) _⟩
theorem least_any (a b : Int) (w : World) : Calls Tryz.prog 85 #[.int .i64 a,.int .i64 b] w (Pure (.int .i64 (leastI a b)) w) := by
 unfold leastI
 by_cases h : a < b
 ·rw [if_pos h]
  go_enter Tryz.func85,Tryz.ntmps85
  go_wp2
  go_ret
  exact ⟨rfl,rfl⟩
 ·rw [if_neg h]
  go_enter Tryz.func85,Tryz.ntmps85
  go_wp2
  go_ret
  exact ⟨rfl,rfl⟩
def TextV (n : Nat) (w : World) (e : Ending) (w' : World) : Prop := ∃ u ss,e = .returned u ∧ Rd Value.string w' u ss ∧ ss.length = n ∧ Below w.heap.size w w'
set_option maxHeartbeats 1000000 in
theorem fields_any (w : World) : Calls Tryz.prog 48 #[] w (TextV 18 w) := by
 go_enter Tryz.func48,Tryz.ntmps48
 go_wp2
 go_ret
 exact ⟨_,[⟨#[112,114,105,99,101]⟩,⟨#[109,97,105,110]⟩,⟨#[111,102]⟩,⟨#[98,111,110,117,115]⟩,⟨#[98,111,110,117,115,111,102]⟩,⟨#[101,120,116,114,97]⟩,⟨#[100,114,97,119,115]⟩,⟨#[115,121,115,116,101,109]⟩,⟨#[100,97,121,115]⟩,⟨#[97,116]⟩,⟨#[99,108,111,115,101]⟩,⟨#[99,97,110,99,101,108]⟩,⟨#[101,120,112,105,114,121]⟩,⟨#[112,111,111,108]⟩,⟨#[114,101,115,101,114,118,101]⟩,⟨#[114,111,117,110,100]⟩,⟨#[99,97,112]⟩,⟨#[114,111,108,108,115]⟩],rfl,Row.rdAll (V := Value.string) (Row.newOf (cs := List.map Value.string [⟨#[112,114,105,99,101]⟩,⟨#[109,97,105,110]⟩,⟨#[111,102]⟩,⟨#[98,111,110,117,115]⟩,⟨#[98,111,110,117,115,111,102]⟩,⟨#[101,120,116,114,97]⟩,⟨#[100,114,97,119,115]⟩,⟨#[115,121,115,116,101,109]⟩,⟨#[100,97,121,115]⟩,⟨#[97,116]⟩,⟨#[99,108,111,115,101]⟩,⟨#[99,97,110,99,101,108]⟩,⟨#[101,120,112,105,114,121]⟩,⟨#[112,111,111,108]⟩,⟨#[114,101,115,101,114,118,101]⟩,⟨#[114,111,117,110,100]⟩,⟨#[99,97,112]⟩,⟨#[114,111,108,108,115]⟩]) _ rfl) rfl (by decide) (by decide),rfl,Bel.al (Below.refl _ _) _⟩
set_option maxHeartbeats 2000000 in
set_option maxRecDepth 100000 in
theorem highest_any (g : GameD) (av tv : Value) (w : World) (hav : ∃ ao n cap,av = .slice ao n cap) (htv : ∃ ao n cap,tv = .slice ao n cap) :
  Calls Tryz.prog 47 #[gameVal g av tv] w (ListV (highL g) w) := by
 obtain ⟨l,hl⟩ : ∃ l,l = highL g := ⟨_,rfl⟩
 rw [← hl]
 unfold highL at hl
 obtain ⟨gname,gkind,gprice,gmain,gof,gbonus,gbonusOf,gextra,gdraws,gsystem,gdays,gat,gclose,gcancel,gexpiry,gpool,greserve,ground,gcap,grolls,ga,gt⟩ := g
 obtain ⟨a1,a2,a3,rfl⟩ := hav
 obtain ⟨b1,b2,b3,rfl⟩ := htv
 unfold gameVal
 (try simp only [] at hl ⊢)
 by_cases hk : gkind = 2
 ·rw [if_pos hk,if_pos hk,if_pos hk,if_pos hk] at hl
  subst hk
  by_cases hb : gbonus = 0
  ·rw [if_pos hb] at hl
   replace hl := hide hl
   subst hb
   go_enter Tryz.func47,Tryz.ntmps47
   go_upto_region 1 with (fail)
   obtain ⟨W,hW⟩ : ∃ W,W = (w.alloc (Obj.cells #[.string gname,.int .i64 2,.int .i64 gprice,.int .i64 gmain,.int .i64 gof,.int .i64 0,.int .i64 gbonusOf,.int .i64 gextra,.int .i64 gdraws,.int .i64 gsystem,.int .i64 gdays,.int .i64 gat,.int .i64 gclose,.int .i64 gcancel,.int .i64 gexpiry,.int .i64 gpool,.int .i64 greserve,.int .i64 ground,.int .i64 gcap,.int .i64 grolls,(.slice a1 a2 a3),(.slice b1 b2 b3)] 25)) := ⟨_,rfl⟩
   have bW : Below w.heap.size w W := by rw [hW];exact Bel.al (Below.refl _ _) _
   have r0 : Row W (w.heap.size) 25 [.string gname,.int .i64 2,.int .i64 gprice,.int .i64 gmain,.int .i64 gof,.int .i64 0,.int .i64 gbonusOf,.int .i64 gextra,.int .i64 gdraws,.int .i64 gsystem,.int .i64 gdays,.int .i64 gat,.int .i64 gclose,.int .i64 gcancel,.int .i64 gexpiry,.int .i64 gpool,.int .i64 greserve,.int .i64 ground,.int .i64 gcap,.int .i64 grolls,(.slice a1 a2 a3),(.slice b1 b2 b3)] := by rw [hW];exact Row.new _ _ _
   have c0_1 : W.cell? ⟨w.heap.size,1,none⟩ = some (.int .i64 2) := Row.cell r0 (i := 1) (by simp)
   have c0_3 : W.cell? ⟨w.heap.size,3,none⟩ = some (.int .i64 gmain) := Row.cell r0 (i := 3) (by simp)
   have c0_4 : W.cell? ⟨w.heap.size,4,none⟩ = some (.int .i64 gof) := Row.cell r0 (i := 4) (by simp)
   have c0_5 : W.cell? ⟨w.heap.size,5,none⟩ = some (.int .i64 0) := Row.cell r0 (i := 5) (by simp)
   have sW : w.heap.size < W.heap.size := by rw [hW];simp
   rw [← hW]
   clear hW
   go_region_held3 (fun X => X.cell? ⟨w.heap.size,4,none⟩ = some (.int .i64 gof) ∧ X.cell? ⟨w.heap.size,3,none⟩ = some (.int .i64 gmain)) (go_keep) (first
    | (go_at_call 85;refine (least_any _ _ _).mono ?_;rintro e w' ⟨rfl,rfl⟩))
   go_wp2
   go_ret
   rw [hl.out]
   exact ⟨_,rfl,Rd.drew (Row.rdAll (V := I64) (Row.newOf _ rfl) rfl (by decide) (by decide)),Below.drew (Bel.al bW _)⟩
  ·rw [if_neg hb] at hl
   replace hl := hide hl
   have hbb : (gbonus == 0) = false := by simpa using hb
   replace hb := hide hb
   go_enter Tryz.func47,Tryz.ntmps47
   go_upto_region 1 with (fail)
   obtain ⟨W,hW⟩ : ∃ W,W = (w.alloc (Obj.cells #[.string gname,.int .i64 2,.int .i64 gprice,.int .i64 gmain,.int .i64 gof,.int .i64 gbonus,.int .i64 gbonusOf,.int .i64 gextra,.int .i64 gdraws,.int .i64 gsystem,.int .i64 gdays,.int .i64 gat,.int .i64 gclose,.int .i64 gcancel,.int .i64 gexpiry,.int .i64 gpool,.int .i64 greserve,.int .i64 ground,.int .i64 gcap,.int .i64 grolls,(.slice a1 a2 a3),(.slice b1 b2 b3)] 25)) := ⟨_,rfl⟩
   have bW : Below w.heap.size w W := by rw [hW];exact Bel.al (Below.refl _ _) _
   have r0 : Row W (w.heap.size) 25 [.string gname,.int .i64 2,.int .i64 gprice,.int .i64 gmain,.int .i64 gof,.int .i64 gbonus,.int .i64 gbonusOf,.int .i64 gextra,.int .i64 gdraws,.int .i64 gsystem,.int .i64 gdays,.int .i64 gat,.int .i64 gclose,.int .i64 gcancel,.int .i64 gexpiry,.int .i64 gpool,.int .i64 greserve,.int .i64 ground,.int .i64 gcap,.int .i64 grolls,(.slice a1 a2 a3),(.slice b1 b2 b3)] := by rw [hW];exact Row.new _ _ _
   have c0_1 : W.cell? ⟨w.heap.size,1,none⟩ = some (.int .i64 2) := Row.cell r0 (i := 1) (by simp)
   have c0_3 : W.cell? ⟨w.heap.size,3,none⟩ = some (.int .i64 gmain) := Row.cell r0 (i := 3) (by simp)
   have c0_4 : W.cell? ⟨w.heap.size,4,none⟩ = some (.int .i64 gof) := Row.cell r0 (i := 4) (by simp)
   have c0_5 : W.cell? ⟨w.heap.size,5,none⟩ = some (.int .i64 gbonus) := Row.cell r0 (i := 5) (by simp)
   have sW : w.heap.size < W.heap.size := by rw [hW];simp
   rw [← hW]
   clear hW
   go_region_held3 (fun X => X.cell? ⟨w.heap.size,4,none⟩ = some (.int .i64 gof) ∧ X.cell? ⟨w.heap.size,3,none⟩ = some (.int .i64 gmain)) (go_keep) (first
    | (go_at_call 85;refine (least_any _ _ _).mono ?_;rintro e w' ⟨rfl,rfl⟩))
   go_wp2
   go_ret
   rw [hl.out]
   exact ⟨_,rfl,Rd.drew (Row.rdAll (V := I64) (Row.newOf _ rfl) rfl (by decide) (by decide)),Below.drew (Bel.al bW _)⟩
 ·rw [if_neg hk,if_neg hk,if_neg hk,if_neg hk] at hl
  have hkb : (gkind == 2) = false := by simpa using hk
  replace hk := hide hk
  by_cases hb : gbonus = 0
  ·rw [if_pos hb] at hl
   replace hl := hide hl
   subst hb
   go_enter Tryz.func47,Tryz.ntmps47
   go_upto_region 1 with (fail)
   obtain ⟨W,hW⟩ : ∃ W,W = (w.alloc (Obj.cells #[.string gname,.int .i64 gkind,.int .i64 gprice,.int .i64 gmain,.int .i64 gof,.int .i64 0,.int .i64 gbonusOf,.int .i64 gextra,.int .i64 gdraws,.int .i64 gsystem,.int .i64 gdays,.int .i64 gat,.int .i64 gclose,.int .i64 gcancel,.int .i64 gexpiry,.int .i64 gpool,.int .i64 greserve,.int .i64 ground,.int .i64 gcap,.int .i64 grolls,(.slice a1 a2 a3),(.slice b1 b2 b3)] 25)) := ⟨_,rfl⟩
   have bW : Below w.heap.size w W := by rw [hW];exact Bel.al (Below.refl _ _) _
   have r0 : Row W (w.heap.size) 25 [.string gname,.int .i64 gkind,.int .i64 gprice,.int .i64 gmain,.int .i64 gof,.int .i64 0,.int .i64 gbonusOf,.int .i64 gextra,.int .i64 gdraws,.int .i64 gsystem,.int .i64 gdays,.int .i64 gat,.int .i64 gclose,.int .i64 gcancel,.int .i64 gexpiry,.int .i64 gpool,.int .i64 greserve,.int .i64 ground,.int .i64 gcap,.int .i64 grolls,(.slice a1 a2 a3),(.slice b1 b2 b3)] := by rw [hW];exact Row.new _ _ _
   have c0_1 : W.cell? ⟨w.heap.size,1,none⟩ = some (.int .i64 gkind) := Row.cell r0 (i := 1) (by simp)
   have c0_3 : W.cell? ⟨w.heap.size,3,none⟩ = some (.int .i64 gmain) := Row.cell r0 (i := 3) (by simp)
   have c0_4 : W.cell? ⟨w.heap.size,4,none⟩ = some (.int .i64 gof) := Row.cell r0 (i := 4) (by simp)
   have c0_5 : W.cell? ⟨w.heap.size,5,none⟩ = some (.int .i64 0) := Row.cell r0 (i := 5) (by simp)
   have sW : w.heap.size < W.heap.size := by rw [hW];simp
   rw [← hW]
   clear hW
   go_region_held3 (fun X => X.cell? ⟨w.heap.size,4,none⟩ = some (.int .i64 gof) ∧ X.cell? ⟨w.heap.size,3,none⟩ = some (.int .i64 gmain)) (go_keep) (first
    | (go_at_call 85;refine (least_any _ _ _).mono ?_;rintro e w' ⟨rfl,rfl⟩))
   go_wp2
   go_ret
   rw [hl.out]
   exact ⟨_,rfl,Rd.drew (Row.rdAll (V := I64) (Row.newOf _ rfl) rfl (by decide) (by decide)),Below.drew (Bel.al bW _)⟩
  ·rw [if_neg hb] at hl
   replace hl := hide hl
   have hbb : (gbonus == 0) = false := by simpa using hb
   replace hb := hide hb
   go_enter Tryz.func47,Tryz.ntmps47
   go_upto_region 1 with (fail)
   obtain ⟨W,hW⟩ : ∃ W,W = (w.alloc (Obj.cells #[.string gname,.int .i64 gkind,.int .i64 gprice,.int .i64 gmain,.int .i64 gof,.int .i64 gbonus,.int .i64 gbonusOf,.int .i64 gextra,.int .i64 gdraws,.int .i64 gsystem,.int .i64 gdays,.int .i64 gat,.int .i64 gclose,.int .i64 gcancel,.int .i64 gexpiry,.int .i64 gpool,.int .i64 greserve,.int .i64 ground,.int .i64 gcap,.int .i64 grolls,(.slice a1 a2 a3),(.slice b1 b2 b3)] 25)) := ⟨_,rfl⟩
   have bW : Below w.heap.size w W := by rw [hW];exact Bel.al (Below.refl _ _) _
   have r0 : Row W (w.heap.size) 25 [.string gname,.int .i64 gkind,.int .i64 gprice,.int .i64 gmain,.int .i64 gof,.int .i64 gbonus,.int .i64 gbonusOf,.int .i64 gextra,.int .i64 gdraws,.int .i64 gsystem,.int .i64 gdays,.int .i64 gat,.int .i64 gclose,.int .i64 gcancel,.int .i64 gexpiry,.int .i64 gpool,.int .i64 greserve,.int .i64 ground,.int .i64 gcap,.int .i64 grolls,(.slice a1 a2 a3),(.slice b1 b2 b3)] := by rw [hW];exact Row.new _ _ _
   have c0_1 : W.cell? ⟨w.heap.size,1,none⟩ = some (.int .i64 gkind) := Row.cell r0 (i := 1) (by simp)
   have c0_3 : W.cell? ⟨w.heap.size,3,none⟩ = some (.int .i64 gmain) := Row.cell r0 (i := 3) (by simp)
   have c0_4 : W.cell? ⟨w.heap.size,4,none⟩ = some (.int .i64 gof) := Row.cell r0 (i := 4) (by simp)
   have c0_5 : W.cell? ⟨w.heap.size,5,none⟩ = some (.int .i64 gbonus) := Row.cell r0 (i := 5) (by simp)
   have sW : w.heap.size < W.heap.size := by rw [hW];simp
   rw [← hW]
   clear hW
   go_region_held3 (fun X => X.cell? ⟨w.heap.size,4,none⟩ = some (.int .i64 gof) ∧ X.cell? ⟨w.heap.size,3,none⟩ = some (.int .i64 gmain)) (go_keep) (first
    | (go_at_call 85;refine (least_any _ _ _).mono ?_;rintro e w' ⟨rfl,rfl⟩))
   go_wp2
   go_ret
   rw [hl.out]
   exact ⟨_,rfl,Rd.drew (Row.rdAll (V := I64) (Row.newOf _ rfl) rfl (by decide) (by decide)),Below.drew (Bel.al bW _)⟩
end Go.Proofs.YtldikghldcefcaaGreat
end
section
set_option linter.unusedVariables false
set_option linter.unusedSimpArgs false
namespace Go.Proofs.YtldikghldcefcaaGreat
open Go.RowKit
def okAt (g : GameD) (i : Nat) : Bool := inB ((numsL g).getD i 0) ((lowL g).getD i 0) ((highL g).getD i 0)
theorem ok_all (g : GameD) : (∀ i,i < 18 → okAt g i = true) ↔ (okAt g 0 = true ∧ okAt g 1 = true ∧ okAt g 2 = true ∧ okAt g 3 = true ∧ okAt g 4 = true ∧ okAt g 5 = true ∧ okAt g 6 = true ∧ okAt g 7 = true ∧ okAt g 8 = true ∧ okAt g 9 = true ∧ okAt g 10 = true ∧ okAt g 11 = true ∧ okAt g 12 = true ∧ okAt g 13 = true ∧ okAt g 14 = true ∧ okAt g 15 = true ∧ okAt g 16 = true ∧ okAt g 17 = true) := by
 constructor
 ·intro h
  exact ⟨h 0 (by omega),h 1 (by omega),h 2 (by omega),h 3 (by omega),h 4 (by omega),h 5 (by omega),h 6 (by omega),h 7 (by omega),h 8 (by omega),h 9 (by omega),h 10 (by omega),h 11 (by omega),h 12 (by omega),h 13 (by omega),h 14 (by omega),h 15 (by omega),h 16 (by omega),h 17 (by omega)⟩
 ·rintro ⟨h0,h1,h2,h3,h4,h5,h6,h7,h8,h9,h10,h11,h12,h13,h14,h15,h16,h17⟩ i hi
  have : i = 0 ∨ i = 1 ∨ i = 2 ∨ i = 3 ∨ i = 4 ∨ i = 5 ∨ i = 6 ∨ i = 7 ∨ i = 8 ∨ i = 9 ∨ i = 10 ∨ i = 11 ∨ i = 12 ∨ i = 13 ∨ i = 14 ∨ i = 15 ∨ i = 16 ∨ i = 17 := by omega
  rcases this with rfl | rfl | rfl | rfl | rfl | rfl | rfl | rfl | rfl | rfl | rfl | rfl | rfl | rfl | rfl | rfl | rfl | rfl <;> assumption
theorem least_le (a b x : Int) : x ≤ leastI a b ↔ x ≤ a ∧ x ≤ b := by
 unfold leastI
 split <;> omega
theorem nums_ok {g : GameD} (hk : g.kind = 1 ∨ g.kind = 2) : (∀ i,i < 18 → okAt g i = true) ↔ (matB g = true ∧ termB g = true) := by
 rw [ok_all]
 obtain ⟨gname,gkind,gprice,gmain,gof,gbonus,gbonusOf,gextra,gdraws,gsystem,gdays,gat,gclose,gcancel,gexpiry,gpool,greserve,ground,gcap,grolls,ga,gt⟩ := g
 unfold okAt matB termB numsL lowL highL
 simp only [List.getD_cons_zero,List.getD_cons_succ,Bool.and_eq_true,inB_iff,decide_eq_true_iff] at hk ⊢
 have hw : gmain ≤ 10 → 1 ≤ gmain → gof ≤ 80 → gmain ≤ gof → wrap64 (gof - gmain) = gof - gmain := fun h1 h2 h3 h4 => IntWalk.wrap64_in _ (by omega)
 have hk2 : gkind = 2 ∨ ¬ gkind = 2 := by omega
 by_cases hb : gbonus = 0
 ·rcases hk2 with h2 | h2
  ·simp only [h2,hb,if_true,inB_iff]
   omega
  ·simp only [h2,hb,if_true,if_false,inB_iff,least_le,Bool.and_eq_true,decide_eq_true_iff]
   constructor
   ·rintro ⟨h0,h1,h2,h3,h4,h5,h6,h7,h⟩
    rw [hw (by omega) (by omega) (by omega) (by omega)] at h5
    omega
   ·rintro ⟨⟨⟨⟨⟨⟨⟨⟨h0,h1⟩,h2⟩,h3⟩,h4⟩,h5⟩,h6⟩,h7⟩,h⟩
    rw [hw (by omega) (by omega) (by omega) (by omega)]
    omega
 ·rcases hk2 with h2 | h2
  ·simp only [h2,hb,if_true,if_false,inB_iff]
   omega
  ·simp only [h2,hb,if_true,if_false,inB_iff,least_le,Bool.and_eq_true,decide_eq_true_iff]
   constructor
   ·rintro ⟨h0,h1,h2,h3,h4,h5,h6,h7,h⟩
    rw [hw (by omega) (by omega) (by omega) (by omega)] at h5
    omega
   ·rintro ⟨⟨⟨⟨⟨⟨⟨⟨h0,h1⟩,h2⟩,h3⟩,h4⟩,h5⟩,h6⟩,h7⟩,h⟩
    rw [hw (by omega) (by omega) (by omega) (by omega)]
    omega
end Go.Proofs.YtldikghldcefcaaGreat
end
section
open Go.RowKit
set_option linter.unusedVariables false
set_option linter.unusedSimpArgs false
namespace Go.Proofs.YtldikghldcefcaaGreat
set_option maxHeartbeats 4000000 in
set_option maxRecDepth 100000 in
theorem rtier_choose (g : GameD) (t : TierD) (av tv : Value) (w : World) (hk : g.kind = 1) (b1 : g.main ≤ 10) (b2 : g.bonus ≤ 4) (b3 : g.extra ≤ 4) :
  Calls Tryz.prog 87 #[gameVal g av tv,tierVal t] w (IntB (tierE g t) w) := by
 rw [tierE_choose (by omega)]
 obtain ⟨r,hr⟩ : ∃ r,r = (if chooseTE g t ≠ 0 then chooseTE g t else if inB t.kind 1 3 = false then 7 else if inB t.value 0 1000000000 = false then 2 else 0) := ⟨_,rfl⟩
 rw [← hr]
 unfold chooseTE at hr
 obtain ⟨gname,gkind,gprice,gmain,gof,gbonus,gbonusOf,gextra,gdraws,gsystem,gdays,gat,gclose,gcancel,gexpiry,gpool,greserve,ground,gcap,grolls,ga,gt⟩ := g
 obtain ⟨tmain,tbonus,textra,tmode,tkind,tvalue⟩ := t
 (try simp only [] at hk hr b1 b2 b3)
 unfold gameVal tierVal
 (try simp only [])
 subst hk
 by_cases hm : inB tmain 0 gmain = true
 ·by_cases hb : inB tbonus 0 gbonus = true
  ·by_cases he : inB textra 0 gextra = true
   ·have m1 := (inB_iff.1 hm).1
    have m2 := (inB_iff.1 hm).2
    have n1 := (inB_iff.1 hb).1
    have n2 := (inB_iff.1 hb).2
    have x1 := (inB_iff.1 he).1
    have x2 := (inB_iff.1 he).2
    replace hr := hide hr
    go_enter Tryz.func87,Tryz.ntmps87
    go_wp2_with (first | (go_at_call 45;refine (rin_any _ _ _ _).mono ?_;rintro e w' ⟨rfl,rfl⟩) | fail)
    all_goals
     go_ret
     refine ⟨ret_int ?_,Bel.al (Bel.al (Below.refl _ _) _) _⟩
     rw [hr.out]
     (simp_all <;> omega)
   ·replace he : inB textra 0 gextra = false := by simpa using he
    replace hr := hide hr
    go_enter Tryz.func87,Tryz.ntmps87
    go_wp2_with (first | (go_at_call 45;refine (rin_any _ _ _ _).mono ?_;rintro e w' ⟨rfl,rfl⟩) | fail)
    all_goals
     go_ret
     refine ⟨ret_int ?_,Bel.al (Bel.al (Below.refl _ _) _) _⟩
     rw [hr.out]
     (simp_all <;> omega)
  ·replace hb : inB tbonus 0 gbonus = false := by simpa using hb
   replace hr := hide hr
   go_enter Tryz.func87,Tryz.ntmps87
   go_wp2_with (first | (go_at_call 45;refine (rin_any _ _ _ _).mono ?_;rintro e w' ⟨rfl,rfl⟩) | fail)
   all_goals
    go_ret
    refine ⟨ret_int ?_,Bel.al (Bel.al (Below.refl _ _) _) _⟩
    rw [hr.out]
    (simp_all <;> omega)
 ·replace hm : inB tmain 0 gmain = false := by simpa using hm
  replace hr := hide hr
  go_enter Tryz.func87,Tryz.ntmps87
  go_wp2_with (first | (go_at_call 45;refine (rin_any _ _ _ _).mono ?_;rintro e w' ⟨rfl,rfl⟩) | fail)
  all_goals
   go_ret
   refine ⟨ret_int ?_,Bel.al (Bel.al (Below.refl _ _) _) _⟩
   rw [hr.out]
   (simp_all <;> omega)
theorem inB_zero (x : Int) : inB x 0 0 = decide (x = 0) := by
 unfold inB
 rw [decide_eq_decide]
 omega
theorem mode_in {m : Int} (h : inB m 1 4 = true) : m = 1 ∨ m = 2 ∨ m = 3 ∨ m = 4 := by
 have := inB_iff.1 h
 omega
set_option maxHeartbeats 4000000 in
set_option maxRecDepth 100000 in
theorem rtier_digits (g : GameD) (t : TierD) (av tv : Value) (w : World) (hk : g.kind = 2) :
  Calls Tryz.prog 87 #[gameVal g av tv,tierVal t] w (IntB (tierE g t) w) := by
 rw [tierE_digits hk]
 obtain ⟨r,hr⟩ : ∃ r,r = (if digitsTE g t ≠ 0 then digitsTE g t else if inB t.kind 1 3 = false then 7 else if inB t.value 0 1000000000 = false then 2 else 0) := ⟨_,rfl⟩
 rw [← hr]
 unfold digitsTE at hr
 obtain ⟨gname,gkind,gprice,gmain,gof,gbonus,gbonusOf,gextra,gdraws,gsystem,gdays,gat,gclose,gcancel,gexpiry,gpool,greserve,ground,gcap,grolls,ga,gt⟩ := g
 obtain ⟨tmain,tbonus,textra,tmode,tkind,tvalue⟩ := t
 (try simp only [] at hk hr)
 unfold gameVal tierVal
 (try simp only [])
 subst hk
 by_cases hm : inB tmode 1 4 = true
 ·rcases mode_in hm with rfl | rfl | rfl | rfl
  ·simp only [show inB 1 1 4 = true from rfl,show ((1 : Int) ≤ 2) = True by simp,if_true,inB_zero] at hr
   replace hr := hide hr
   go_enter Tryz.func87,Tryz.ntmps87
   go_wp2_with (first | (go_at_call 45;refine (rin_any _ _ _ _).mono ?_;rintro e w' ⟨rfl,rfl⟩) | fail)
   all_goals
    go_ret
    refine ⟨ret_int ?_,Bel.al (Bel.al (Below.refl _ _) _) _⟩
    rw [hr.out]
    (simp_all <;> omega)
  ·simp only [show inB 2 1 4 = true from rfl,show ((2 : Int) ≤ 2) = True by simp,if_true,inB_zero] at hr
   replace hr := hide hr
   go_enter Tryz.func87,Tryz.ntmps87
   go_wp2_with (first | (go_at_call 45;refine (rin_any _ _ _ _).mono ?_;rintro e w' ⟨rfl,rfl⟩) | fail)
   all_goals
    go_ret
    refine ⟨ret_int ?_,Bel.al (Bel.al (Below.refl _ _) _) _⟩
    rw [hr.out]
    (simp_all <;> omega)
  ·simp only [show inB 3 1 4 = true from rfl,show ((3 : Int) ≤ 2) = False by simp,if_false] at hr
   replace hr := hide hr
   go_enter Tryz.func87,Tryz.ntmps87
   go_wp2_with (first | (go_at_call 45;refine (rin_any _ _ _ _).mono ?_;rintro e w' ⟨rfl,rfl⟩) | fail)
   all_goals
    go_ret
    refine ⟨ret_int ?_,Bel.al (Bel.al (Below.refl _ _) _) _⟩
    rw [hr.out]
    (simp_all <;> omega)
  ·simp only [show inB 4 1 4 = true from rfl,show ((4 : Int) ≤ 2) = False by simp,if_false] at hr
   replace hr := hide hr
   go_enter Tryz.func87,Tryz.ntmps87
   go_wp2_with (first | (go_at_call 45;refine (rin_any _ _ _ _).mono ?_;rintro e w' ⟨rfl,rfl⟩) | fail)
   all_goals
    go_ret
    refine ⟨ret_int ?_,Bel.al (Bel.al (Below.refl _ _) _) _⟩
    rw [hr.out]
    (simp_all <;> omega)
 ·replace hm : inB tmode 1 4 = false := by simpa using hm
  replace hr := hide hr
  go_enter Tryz.func87,Tryz.ntmps87
  go_wp2_with (first | (go_at_call 45;refine (rin_any _ _ _ _).mono ?_;rintro e w' ⟨rfl,rfl⟩) | fail)
  all_goals
   go_ret
   refine ⟨ret_int ?_,Bel.al (Bel.al (Below.refl _ _) _) _⟩
   rw [hr.out]
   (simp_all <;> omega)
def modeR (g : GameD) (t : TierD) : Int := if 2 < t.mode ∧ t.main = g.main then 1 else t.mode
set_option maxHeartbeats 1000000 in
theorem rmode_any (g : GameD) (t : TierD) (av tv : Value) (w : World) :
  Calls Tryz.prog 117 #[gameVal g av tv,tierVal t] w (IntB (modeR g t) w) := by
 obtain ⟨r,hr⟩ : ∃ r,r = modeR g t := ⟨_,rfl⟩
 rw [← hr]
 unfold modeR at hr
 obtain ⟨gname,gkind,gprice,gmain,gof,gbonus,gbonusOf,gextra,gdraws,gsystem,gdays,gat,gclose,gcancel,gexpiry,gpool,greserve,ground,gcap,grolls,ga,gt⟩ := g
 obtain ⟨tmain,tbonus,textra,tmode,tkind,tvalue⟩ := t
 (try simp only [] at hr)
 unfold gameVal tierVal
 (try simp only [])
 replace hr := hide hr
 go_enter Tryz.func117,Tryz.ntmps117
 go_wp2
 all_goals
  go_ret
  refine ⟨ret_int ?_,Bel.al (Bel.al (Below.refl _ _) _) _⟩
  rw [hr.out]
  first | (simp_all;done) | (simp_all;omega) | (rw [if_neg (by omega)];done) | (rw [if_pos (by omega)];done)
def coversR (g : GameD) (a b : TierD) : Bool :=
 if g.kind = 1 then decide (a.main ≤ b.main ∧ a.bonus ≤ b.bonus ∧ a.extra ≤ b.extra)
 else if modeR g b = 1 then true
 else decide (modeR g a = modeR g b ∧ (modeR g a = 2 ∨ a.main ≤ b.main))
theorem tier_valid {g : GameD} {t : TierD} (hk : g.kind = 2) (h : tierE g t = 0) : (t.mode = 1 ∧ t.main = 0) ∨ (t.mode = 2 ∧ t.main = 0) ∨ ((t.mode = 3 ∨ t.mode = 4) ∧ 1 ≤ t.main ∧ t.main ≤ g.main) := by
 rw [tierE_digits hk] at h
 have hd : digitsTE g t = 0 := by
  by_cases hd : digitsTE g t = 0
  ·exact hd
  ·rw [if_pos hd] at h;exact h
 unfold digitsTE at hd
 by_cases hm : inB t.mode 1 4 = true
 ·rw [if_neg (by rw [hm];simp)] at hd
  by_cases hc : t.bonus ≠ 0 ∨ t.extra ≠ 0 ∨ (if t.mode ≤ 2 then inB t.main 0 0 else inB t.main 1 g.main) = false
  ·rw [if_pos hc] at hd;omega
  ·simp only [not_or] at hc
   obtain ⟨-,-,hc⟩ := hc
   rcases mode_in hm with h | h | h | h
   ·rw [if_pos (by omega),inB_zero] at hc;left;exact ⟨h,by simpa using hc⟩
   ·rw [if_pos (by omega),inB_zero] at hc;right;left;exact ⟨h,by simpa using hc⟩
   ·rw [if_neg (by omega)] at hc
    have := inB_iff.1 (show inB t.main 1 g.main = true by simpa using hc)
    right;right;exact ⟨.inl h,this⟩
   ·rw [if_neg (by omega)] at hc
    have := inB_iff.1 (show inB t.main 1 g.main = true by simpa using hc)
    right;right;exact ⟨.inr h,this⟩
 ·rw [if_pos (by simpa using hm)] at hd;omega
theorem modeR_eq {g : GameD} {t : TierD} (hk : g.kind = 2) (h : tierE g t = 0) : modeR g t = modeV g t := by
 unfold modeR modeV
 rcases tier_valid hk h with ⟨h1,h2⟩ | ⟨h1,h2⟩ | ⟨h1,h2,h3⟩
 ·rw [if_neg (by omega),if_neg (by omega)]
 ·rw [if_neg (by omega),if_neg (by omega)]
 ·by_cases hm : t.main = g.main
  ·rw [if_pos (by omega),if_pos (by omega)]
  ·rw [if_neg (by omega),if_neg (by omega)]
theorem coversR_eq {g : GameD} {a b : TierD} (hk : g.kind = 1 ∨ g.kind = 2) (ha : tierE g a = 0) (hb : tierE g b = 0) : coversR g a b = coversB g a b := by
 unfold coversR coversB
 rcases hk with hk | hk
 ·rw [if_pos hk,if_pos hk]
 ·have hk1 : ¬ g.kind = 1 := by omega
  rw [if_neg hk1,if_neg hk1,modeR_eq hk ha,modeR_eq hk hb]
  by_cases h1 : modeV g b = 1
  ·rw [if_pos h1,if_pos h1]
  ·rw [if_neg h1,if_neg h1,decide_eq_decide]
   constructor
   ·rintro ⟨h2,h3 | h3⟩
    ·refine ⟨h2,?_⟩
     have za : a.main = 0 := by
      unfold modeV at h3
      rcases tier_valid hk ha with ⟨h4,h5⟩ | ⟨h4,h5⟩ | ⟨h4,h5,h6⟩
      ·exact h5
      ·exact h5
      ·split at h3 <;> omega
     have zb : b.main = 0 := by
      rw [h2] at h3
      unfold modeV at h3
      rcases tier_valid hk hb with ⟨h4,h5⟩ | ⟨h4,h5⟩ | ⟨h4,h5,h6⟩
      ·exact h5
      ·exact h5
      ·split at h3 <;> omega
     omega
    ·exact ⟨h2,h3⟩
   ·rintro ⟨h2,h3⟩
    exact ⟨h2,.inr h3⟩
theorem rcovers_choose (g : GameD) (a t : TierD) (av tv : Value) (w : World) (hk : g.kind = 1) :
  Calls Tryz.prog 88 #[gameVal g av tv,tierVal a,tierVal t] w (BoolB (coversR g a t) w) := by
 obtain ⟨r,hr⟩ : ∃ r,r = coversR g a t := ⟨_,rfl⟩
 rw [← hr]
 unfold coversR at hr
 rw [if_pos hk] at hr
 obtain ⟨gname,gkind,gprice,gmain,gof,gbonus,gbonusOf,gextra,gdraws,gsystem,gdays,gat,gclose,gcancel,gexpiry,gpool,greserve,ground,gcap,grolls,ga,gt⟩ := g
 obtain ⟨amain,abonus,aextra,amode,akind,avalue⟩ := a
 obtain ⟨tmain,tbonus,textra,tmode,tkind,tvalue⟩ := t
 (try simp only [] at hk hr)
 unfold gameVal tierVal
 (try simp only [])
 replace hr := hide hr
 subst hk
 go_enter Tryz.func88,Tryz.ntmps88
 go_wp2
 all_goals
  go_ret
  refine ⟨?_,Bel.al (Bel.al (Bel.al (Below.refl _ _) _) _) _⟩
  rw [hr.out]
  first | (simp_all;done) | (congr 2;simp_all;omega) | (rw [decide_eq_false (by omega)];done) | (rw [decide_eq_true (by omega)];done)
set_option maxHeartbeats 2000000 in
set_option maxRecDepth 100000 in
theorem rcovers_digits (g : GameD) (a t : TierD) (av tv : Value) (w : World) (hk : g.kind ≠ 1) :
  Calls Tryz.prog 88 #[gameVal g av tv,tierVal a,tierVal t] w (BoolB (coversR g a t) w) := by
 obtain ⟨r,hr⟩ : ∃ r,r = coversR g a t := ⟨_,rfl⟩
 rw [← hr]
 unfold coversR at hr
 rw [if_neg hk] at hr
 have ca := hide (fun X => rmode_any g a av tv X)
 have ct := hide (fun X => rmode_any g t av tv X)
 obtain ⟨ma,hma⟩ : ∃ m,m = modeR g a := ⟨_,rfl⟩
 obtain ⟨mt,hmt⟩ : ∃ m,m = modeR g t := ⟨_,rfl⟩
 rw [← hma] at hr ca
 rw [← hmt] at hr ct
 clear hma hmt
 obtain ⟨gname,gkind,gprice,gmain,gof,gbonus,gbonusOf,gextra,gdraws,gsystem,gdays,gat,gclose,gcancel,gexpiry,gpool,greserve,ground,gcap,grolls,ga,gt⟩ := g
 obtain ⟨amain,abonus,aextra,amode,akind,avalue⟩ := a
 obtain ⟨tmain,tbonus,textra,tmode,tkind,tvalue⟩ := t
 (try simp only [] at hk hr)
 unfold gameVal tierVal at ca ct ⊢
 (try simp only [] at ca ct ⊢)
 replace hr := hide hr
 have hkb : (gkind == 1) = false := by simpa using hk
 replace hk := hide hk
 go_enter Tryz.func88,Tryz.ntmps88
 go_upto_region 1 with (fail)
 obtain ⟨W,hW⟩ : ∃ W,W = (((w.alloc (Obj.cells #[.string gname,.int .i64 gkind,.int .i64 gprice,.int .i64 gmain,.int .i64 gof,.int .i64 gbonus,.int .i64 gbonusOf,.int .i64 gextra,.int .i64 gdraws,.int .i64 gsystem,.int .i64 gdays,.int .i64 gat,.int .i64 gclose,.int .i64 gcancel,.int .i64 gexpiry,.int .i64 gpool,.int .i64 greserve,.int .i64 ground,.int .i64 gcap,.int .i64 grolls,av,tv] 25)).alloc (Obj.cells #[.int .i64 amain,.int .i64 abonus,.int .i64 aextra,.int .i64 amode,.int .i64 akind,.int .i64 avalue] 73)).alloc (Obj.cells #[.int .i64 tmain,.int .i64 tbonus,.int .i64 textra,.int .i64 tmode,.int .i64 tkind,.int .i64 tvalue] 73)) := ⟨_,rfl⟩
 have bW : Below w.heap.size w W := by rw [hW];exact Bel.al (Bel.al (Bel.al (Below.refl _ _) _) _) _
 have r0 : Row W (w.heap.size) 25 [.string gname,.int .i64 gkind,.int .i64 gprice,.int .i64 gmain,.int .i64 gof,.int .i64 gbonus,.int .i64 gbonusOf,.int .i64 gextra,.int .i64 gdraws,.int .i64 gsystem,.int .i64 gdays,.int .i64 gat,.int .i64 gclose,.int .i64 gcancel,.int .i64 gexpiry,.int .i64 gpool,.int .i64 greserve,.int .i64 ground,.int .i64 gcap,.int .i64 grolls,av,tv] := by rw [hW];exact Row.alloc (Row.alloc (Row.new _ _ _) _) _
 have c0_1 : W.cell? ⟨w.heap.size,1,none⟩ = some (.int .i64 gkind) := Row.cell r0 (i := 1) (by simp)
 have r1 : Row W (w.heap.size + 1) 73 [.int .i64 amain,.int .i64 abonus,.int .i64 aextra,.int .i64 amode,.int .i64 akind,.int .i64 avalue] := by rw [hW];exact Row.alloc (Row.at2 _ _ _ _) _
 have c1_0 : W.cell? ⟨w.heap.size + 1,0,none⟩ = some (.int .i64 amain) := Row.cell r1 (i := 0) (by simp)
 have r2 : Row W (w.heap.size + 1 + 1) 73 [.int .i64 tmain,.int .i64 tbonus,.int .i64 textra,.int .i64 tmode,.int .i64 tkind,.int .i64 tvalue] := by rw [hW];exact Row.at3 _ _ _ _ _
 have c2_0 : W.cell? ⟨w.heap.size + 1 + 1,0,none⟩ = some (.int .i64 tmain) := Row.cell r2 (i := 0) (by simp)
 have sW : w.heap.size + 1 + 1 < W.heap.size := by rw [hW];simp
 rw [← hW]
 clear hW
 go_wp2_with (first | (refine wpList_load_row rfl 25 _ rfl _ rfl _ _ _ _ r0 Tryz.underlying25 rfl (by kernel_rfl) ?_) | (refine wpList_load_row rfl 73 _ rfl _ rfl _ _ _ _ r1 Tryz.underlying73 rfl (by kernel_rfl) ?_) | fail)
 refine (ca.out _).mono ?_
 rintro e w1 ⟨rfl,hb1⟩
 have q0 := Row.keep r0 hb1
 have q2 := Row.keep r2 hb1
 have d1 := Bel.cellOf hb1 c1_0
 have d2 := Bel.cellOf hb1 c2_0
 have B1 := Bel.to bW hb1
 clear r0 r1 r2 c0_1 c1_0 c2_0 hb1 ca
 go_wp2_with (first | (refine wpList_load_row rfl 25 _ rfl _ rfl _ _ _ _ q0 Tryz.underlying25 rfl (by kernel_rfl) ?_) | (refine wpList_load_row rfl 73 _ rfl _ rfl _ _ _ _ q2 Tryz.underlying73 rfl (by kernel_rfl) ?_) | fail)
 refine (ct.out _).mono ?_
 rintro e w2 ⟨rfl,hb2⟩
 have e1 := Bel.cellOf hb2 d1
 have e2 := Bel.cellOf hb2 d2
 have B2 := Bel.to B1 hb2
 clear q0 q2 d1 d2 hb2 ct
 go_wp2
 all_goals
  go_ret
  refine ⟨?_,B2⟩
  rw [hr.out]
  first | (simp_all;done) | (congr 2;simp_all;omega) | (rw [decide_eq_false (by omega)];done) | (rw [decide_eq_true (by omega)];done)
theorem rcovers_any (g : GameD) (a t : TierD) (av tv : Value) (w : World) :
  Calls Tryz.prog 88 #[gameVal g av tv,tierVal a,tierVal t] w (BoolB (coversR g a t) w) := by
 by_cases h : g.kind = 1
 ·exact rcovers_choose g a t av tv w h
 ·exact rcovers_digits g a t av tv w h
theorem Below.drewL {w w' : World} (h : Below w.drew.heap.size w.drew w') : Below w.heap.size w w' := Bel.to (Below.drew (Below.refl _ _)) h
theorem rtier_any (g : GameD) (t : TierD) (av tv : Value) (w : World) (hk : g.kind = 1 ∨ g.kind = 2) (b1 : g.main ≤ 10) (b2 : g.bonus ≤ 4) (b3 : g.extra ≤ 4) :
  Calls Tryz.prog 87 #[gameVal g av tv,tierVal t] w (IntB (tierE g t) w) := by
 rcases hk with h | h
 ·exact rtier_choose g t av tv w h b1 b2 b3
 ·exact rtier_digits g t av tv w h
set_option maxHeartbeats 4000000 in
set_option maxRecDepth 100000 in
theorem rtiers_any (g : GameD) (av tv : Value) (w : World) (h : RdS 6 tierCells w tv g.tiers) (hav : ∃ ao n cap,av = .slice ao n cap) (hk : g.kind = 1 ∨ g.kind = 2) (b1 : g.main ≤ 10) (b2 : g.bonus ≤ 4) (b3 : g.extra ≤ 4) :
  Calls Tryz.prog 50 #[gameVal g av tv] w (IntB (tiersE g) w) := by
 obtain ⟨ta,tc,rfl,hle,hmax⟩ := h.shape
 obtain ⟨aa,an,ac,rfl⟩ := hav
 obtain ⟨G,hG⟩ : ∃ G,G = g := ⟨_,rfl⟩
 have hkG : G.kind = 1 ∨ G.kind = 2 := by rw [hG];exact hk
 have hrt := hide (fun t tv X => rtier_any g t (.slice aa an ac) tv X hk b1 b2 b3)
 clear hk b1 b2 b3
 replace hkG := hide hkG
 unfold tiersE
 by_cases hn : inB g.tiers.length 1 12 = true
 ·rw [if_neg (by rw [hn];simp)]
  have hlen : g.tiers.length ≤ 12 := by have := (inB_iff.1 hn).2;omega
  have hn' := hn
  clear hn
  obtain ⟨r,hr0⟩ : ∃ r,r = tiersGo g [] g.tiers := ⟨_,rfl⟩
  rw [← hr0]
  rw [← hG] at hr0
  rw [← hG] at hrt
  obtain ⟨gname,gkind,gprice,gmain,gof,gbonus,gbonusOf,gextra,gdraws,gsystem,gdays,gat,gclose,gcancel,gexpiry,gpool,greserve,ground,gcap,grolls,ga,gt⟩ := g
  simp only [] at h hle hn' hlen
  unfold gameVal
  (try simp only [])
  replace hG := hide hG
  replace hr0 := hide hr0
  have hh := hide h
  clear h
  go_enter Tryz.func50,Tryz.ntmps50
  go_upto_region 1 with (fail)
  obtain ⟨W,hW⟩ : ∃ W,W = (w.alloc (Obj.cells #[.string gname,.int .i64 gkind,.int .i64 gprice,.int .i64 gmain,.int .i64 gof,.int .i64 gbonus,.int .i64 gbonusOf,.int .i64 gextra,.int .i64 gdraws,.int .i64 gsystem,.int .i64 gdays,.int .i64 gat,.int .i64 gclose,.int .i64 gcancel,.int .i64 gexpiry,.int .i64 gpool,.int .i64 greserve,.int .i64 ground,.int .i64 gcap,.int .i64 grolls,(.slice aa an ac),(.slice ta gt.length tc)] 25)) := ⟨_,rfl⟩
  have bW : Below w.heap.size w W := by rw [hW];exact Bel.al (Below.refl _ _) _
  have r0 : Row W (w.heap.size) 25 [.string gname,.int .i64 gkind,.int .i64 gprice,.int .i64 gmain,.int .i64 gof,.int .i64 gbonus,.int .i64 gbonusOf,.int .i64 gextra,.int .i64 gdraws,.int .i64 gsystem,.int .i64 gdays,.int .i64 gat,.int .i64 gclose,.int .i64 gcancel,.int .i64 gexpiry,.int .i64 gpool,.int .i64 greserve,.int .i64 ground,.int .i64 gcap,.int .i64 grolls,(.slice aa an ac),(.slice ta gt.length tc)] := by rw [hW];exact Row.new _ _ _
  have c0_21 : W.cell? ⟨w.heap.size,21,none⟩ = some ((.slice ta gt.length tc)) := Row.cell r0 (i := 21) (by simp)
  have sW : w.heap.size < W.heap.size := by rw [hW];simp
  rw [← hW]
  clear hW
  go_wp2_with fail
  refine (rin_any _ _ _ _).mono ?_
  rintro e w' ⟨rfl,rfl⟩
  rw [hn']
  go_wp2
  have hstart : tiersGo G (gt.take 0) (gt.drop 0) = r := by rw [hr0.out,hG.out];rfl
  clear hn'
  have hlen2 : gt.length ≤ 9223372036854775807 := by omega
  go_loopg [3] gt.length (fun g t wr => ∃ i : Nat,g = gt.length - i ∧ i ≤ gt.length ∧ t = .int .i64 i ∧ Below W.heap.size W wr ∧ tiersGo G (gt.take i) (gt.drop i) = r ∧ ∀ j x,j < i → gt[j]? = some x → tierE G x = 0)
  case atStart => exact ⟨0,rfl,Nat.zero_le _,rfl,Below.refl _ _,hstart,fun j x hj => absurd hj (Nat.not_lt_zero _)⟩
  case round =>
   clear hstart
   obtain ⟨i,hg,hi,rfl,hbel,hgo,hval⟩ := hrel
   replace hg := hide hg
   replace hgo := hide hgo
   replace hval := hide hval
   by_cases hlt : i < gt.length
   ·have hlt2 := hide hlt
    have i1 : (0 : Int) ≤ (i : Int) := by omega
    have i2 : (i : Int) < (gt.length : Int) := by omega
    obtain ⟨t,ht⟩ : ∃ t,gt[i]? = some t := ⟨_,List.getElem?_eq_getElem hlt⟩
    have hT := hh.out.below (Bel.to bW hbel)
    obtain ⟨b,off,rfl,hbb,hcell⟩ := hT.at_ hlt
    have hrange : wr.rangeAt b (off + i * 6) (tierCells t) := fun j u hu => hcell i t ht j u hu
    clear hcell hT
    have hstep := tiersGo_step (g := G) ht
    rw [hgo.out] at hstep
    replace hstep := hide hstep
    have ht' := hide ht
    clear ht
    have q0 := Row.keep r0 hbel
    have g0 : wr.rangeAt w.heap.size 0 [.string gname,.int .i64 gkind,.int .i64 gprice,.int .i64 gmain,.int .i64 gof,.int .i64 gbonus,.int .i64 gbonusOf,.int .i64 gextra,.int .i64 gdraws,.int .i64 gsystem,.int .i64 gdays,.int .i64 gat,.int .i64 gclose,.int .i64 gcancel,.int .i64 gexpiry,.int .i64 gpool,.int .i64 greserve,.int .i64 ground,.int .i64 gcap,.int .i64 grolls,(.slice aa an ac),(.slice (some ⟨b,off,none⟩) gt.length tc)] := fun j v hv => by rw [Nat.zero_add];exact (q0.cell? j).trans hv
    have d21 := Bel.cellOf hbel c0_21
    have c1 := hide (fun X => hrt.out t (.slice (some ⟨b,off,none⟩) gt.length tc) X)
    have hcov := hide (fun e X => rcovers_any G e t (.slice aa an ac) (.slice (some ⟨b,off,none⟩) gt.length tc) X)
    obtain ⟨c,hc⟩ : ∃ c,c = tierE G t := ⟨_,rfl⟩
    obtain ⟨Cv,hCv⟩ : ∃ Cv : TierD → Bool,Cv = fun e => coversB G e t := ⟨_,rfl⟩
    have hstep2 : r = if c ≠ 0 then c else if (gt.take i).any Cv then 6 else tiersGo G (gt.take (i + 1)) (gt.drop (i + 1)) := by rw [hstep.out,hc,hCv]
    have hcv : c = 0 → ∀ e,tierE G e = 0 → ∀ X,Calls Tryz.prog 88 #[gameVal G (.slice aa an ac) (.slice (some ⟨b,off,none⟩) gt.length tc),tierVal e,tierVal t] X (BoolB (Cv e) X) := by
     intro h0 e he X
     rw [hCv]
     (try simp only [])
     rw [← coversR_eq hkG.out he (by rw [← hc];exact h0)]
     exact hcov.out e X
    have hct : ∀ X,Calls Tryz.prog 87 #[gameVal G (.slice aa an ac) (.slice (some ⟨b,off,none⟩) gt.length tc),tierVal t] X (IntB c X) := by rw [hc];exact c1.out
    have hvn : c = 0 → ∀ j x,j < i + 1 → gt[j]? = some x → tierE G x = 0 := by
     intro h0 j x hj hx
     rcases Nat.lt_succ_iff_lt_or_eq.1 hj with h' | rfl
     ·exact hval.out j x h' hx
     ·rw [ht'.out] at hx;injection hx with hx;rw [← hx,← hc];exact h0
    clear hstep hcov c1 hc hCv q0
    replace hvn := hide hvn
    rw [hG.out] at hct
    have hcv2 := hcv
    rw [hG.out] at hcv2
    clear hcv
    replace hstep2 := hide hstep2
    replace hcv2 := hide hcv2
    replace hct := hide hct
    obtain ⟨tmain,tbonus,textra,tmode,tkind,tvalue⟩ := t
    unfold tierCells at hrange
    (try simp only [] at hrange)
    go_wp2_with fail
    refine wp_region_held_drew (S := fun X => World.rangeAt X w.heap.size 0 [.string gname,.int .i64 gkind,.int .i64 gprice,.int .i64 gmain,.int .i64 gof,.int .i64 gbonus,.int .i64 gbonusOf,.int .i64 gextra,.int .i64 gdraws,.int .i64 gsystem,.int .i64 gdays,.int .i64 gat,.int .i64 gclose,.int .i64 gcancel,.int .i64 gexpiry,.int .i64 gpool,.int .i64 greserve,.int .i64 ground,.int .i64 gcap,.int .i64 grolls,(.slice aa an ac),(.slice (some ⟨b,off,none⟩) gt.length tc)] ∧ World.rangeAt X b (off + i * 6) [.int .i64 tmain,.int .i64 tbonus,.int .i64 textra,.int .i64 tmode,.int .i64 tkind,.int .i64 tvalue] ∧ X.cell? ⟨w.heap.size,21,none⟩ = some (.slice (some ⟨b,off,none⟩) gt.length tc)) (by kernel_rfl) ⟨g0,hrange,d21⟩ (fun hHeld => ?_)
    refine' wpAnyH_take (i := 0) (oi := _) (v := _) rfl (by kernel_rfl) (by kernel_rfl) (by kernel_rfl) (fun _ _ _ h => h) (yieldsIf_load_mid (by rfl) 25 _ rfl (w.heap.size) (0) rfl [.string gname,.int .i64 gkind,.int .i64 gprice,.int .i64 gmain,.int .i64 gof,.int .i64 gbonus,.int .i64 gbonusOf,.int .i64 gextra,.int .i64 gdraws,.int .i64 gsystem,.int .i64 gdays,.int .i64 gat,.int .i64 gclose,.int .i64 gcancel,.int .i64 gexpiry,.int .i64 gpool,.int .i64 greserve,.int .i64 ground,.int .i64 gcap,.int .i64 grolls,(.slice aa an ac),(.slice (some ⟨b,off,none⟩) gt.length tc)] _ (fun X h => h.1) Tryz.underlying25 rfl (by kernel_rfl)) hHeld ?_
    try simp only [Act.put,zsA,zsB,zsC,List.getElem_toArray,List.getElem_cons_zero,List.getElem_cons_succ]
    refine' wpAnyH_take (i := 1) (oi := _) (v := .pointer (some ⟨w.heap.size,21,none⟩)) rfl (by kernel_rfl) (by kernel_rfl) (by kernel_rfl) (fun _ _ _ h => h) (Or.inl ⟨by rfl,fun X hX => by go_simp⟩) hHeld ?_
    try simp only [Act.put,zsA,zsB,zsC,List.getElem_toArray,List.getElem_cons_zero,List.getElem_cons_succ]
    refine' wpAnyH_take (i := 2) (oi := _) (v := (.slice (some ⟨b,off,none⟩) gt.length tc)) rfl (by kernel_rfl) (by kernel_rfl) (by kernel_rfl) (fun _ _ _ h => h) (Or.inl ⟨by rfl,fun X hX => by (have hX3 := hX.2.2;go_simp)⟩) hHeld ?_
    try simp only [Act.put,zsA,zsB,zsC,List.getElem_toArray,List.getElem_cons_zero,List.getElem_cons_succ]
    refine' wpAnyH_take (i := 3) (oi := _) (v := .int .i64 i) rfl (by kernel_rfl) (by kernel_rfl) (by kernel_rfl) (fun _ _ _ h => h) (Or.inl ⟨by rfl,fun X hX => by go_simp⟩) hHeld ?_
    try simp only [Act.put,zsA,zsB,zsC,List.getElem_toArray,List.getElem_cons_zero,List.getElem_cons_succ]
    refine' wpAnyH_take (i := 4) (oi := _) (v := .pointer (some ⟨b,off + i * 6,none⟩)) rfl (by kernel_rfl) (by kernel_rfl) (by kernel_rfl) (fun _ _ _ h => h) (Or.inl ⟨by rfl,fun X hX => by go_simp⟩) hHeld ?_
    try simp only [Act.put,zsA,zsB,zsC,List.getElem_toArray,List.getElem_cons_zero,List.getElem_cons_succ]
    refine' wpAnyH_take (i := 5) (oi := _) (v := _) rfl (by kernel_rfl) (by kernel_rfl) (by kernel_rfl) (fun _ _ _ h => h) (yieldsIf_load_mid (by rfl) 73 _ rfl (b) (off + i * 6) rfl [.int .i64 tmain,.int .i64 tbonus,.int .i64 textra,.int .i64 tmode,.int .i64 tkind,.int .i64 tvalue] _ (fun X h => h.2.1) Tryz.underlying73 rfl (by kernel_rfl)) hHeld ?_
    try simp only [Act.put,zsA,zsB,zsC,List.getElem_toArray,List.getElem_cons_zero,List.getElem_cons_succ]
    refine wpAnyH_ready (rs := [6]) (by kernel_rfl) (by simp) ?_
    refine AllReadyH.cons (o := _) rfl (fun K hK => ?_) AllReadyH.nil
    go_simp
    refine (hct.out _).mono ?_
    rintro e w2 ⟨rfl,hb2⟩
    go_wp2_with fail
    refine hK.out _ _ ⟨rangeAt_below (Below.drewL hb2) g0,rangeAt_below (Below.drewL hb2) hrange,Bel.cellOf (Below.drewL hb2) d21⟩ (fun hHeld => ?_)
    clear hK K
    try simp only [Act.put,zsA,zsB,zsC,List.getElem_toArray,List.getElem_cons_zero,List.getElem_cons_succ]
    refine' wpAnyH_take (i := 7) (oi := _) (v := .int .i64 c) rfl (by kernel_rfl) (by kernel_rfl) (by kernel_rfl) (fun _ _ _ h => h) (Or.inl ⟨by rfl,fun X _ => by go_simp⟩) hHeld ?_
    try simp only [Act.put,zsA,zsB,zsC,List.getElem_toArray,List.getElem_cons_zero,List.getElem_cons_succ]
    refine wpAnyH_done (by kernel_rfl) ?_ _
    go_simp
    have hb12 : Below wr.heap.size wr w2 := Below.drewL hb2
    have g2 := rangeAt_below hb12 g0
    have t2 := rangeAt_below hb12 hrange
    have d2 := Bel.cellOf hb12 d21
    have B2 : Below W.heap.size W w2 := Bel.to hbel hb12
    clear g0 d21 hrange hct hb2 hb12 hbel hHeld
    by_cases hc0 : c = 0
    ·have hs3 := hstep2.out
     rw [hc0,if_neg (by simp)] at hs3
     have hcv := hide (hcv2.out hc0)
     have hvn2 := hide (hvn.out hc0)
     clear hcv2 hvn
     subst hc0
     replace hs3 := hide hs3
     clear hstep2
     go_wp2
     go_loopg [5] i (fun g t wr' => ∃ k : Nat,g = i - k ∧ k ≤ i ∧ t = .int .i64 k ∧ Below w2.heap.size w2 wr' ∧ ∀ j x,j < k → gt[j]? = some x → Cv x = false)
     case atStart => exact ⟨0,rfl,Nat.zero_le _,rfl,Below.refl _ _,fun j x hj => absurd hj (Nat.not_lt_zero _)⟩
     case round =>
      obtain ⟨k,hgk,hk,rfl,hbel3,hno⟩ := hrel
      replace hgk := hide hgk
      replace hno := hide hno
      by_cases hki : k < i
      ·have hki2 := hide hki
       have k1 : (0 : Int) ≤ (k : Int) := by omega
       have k2 : (k : Int) < (i : Int) := by omega
       have k3 : (k : Int) < (gt.length : Int) := by omega
       have hkl : k < gt.length := by omega
       obtain ⟨e,he⟩ : ∃ e,gt[k]? = some e := ⟨_,List.getElem?_eq_getElem hkl⟩
       have hT := hh.out.below (Bel.to bW (Bel.to B2 hbel3))
       obtain ⟨b',off',hbo,hbb',hcell⟩ := hT.at_ hkl
       obtain ⟨rfl,rfl⟩ : b = b' ∧ off = off' := by simpa using hbo
       have hrange : wr.rangeAt b (off + k * 6) (tierCells e) := fun j u hu => hcell k e he j u hu
       clear hcell hT hbo
       have hcve := hide (hcv.out e (by rw [← hG.out];exact hval.out k e hki he))
       have he' := hide he
       clear he
       have q0 := rangeAt_below hbel3 g2
       have t0 := rangeAt_below hbel3 t2
       have f21 := Bel.cellOf hbel3 d2
       obtain ⟨q,hq⟩ : ∃ q,q = Cv e := ⟨_,rfl⟩
       rw [← hq] at hcve
       replace hq := hide hq
       have hlast := hide (fun (h : Cv e = true) => any_take_yes (p := Cv) hki he'.out h)
       have hnext := hide (fun (h : Cv e = false) => show ∀ j x,j < k + 1 → gt[j]? = some x → Cv x = false from by
        intro j x hj hx
        rcases Nat.lt_succ_iff_lt_or_eq.1 hj with h' | rfl
        ·exact hno.out j x h' hx
        ·rw [he'.out] at hx;injection hx with hx;rw [← hx];exact h)
       clear hcv he'
       obtain ⟨emain,ebonus,eextra,emode,ekind,evalue⟩ := e
       unfold tierCells at hrange
       (try simp only [] at hrange)
       go_wp2_with fail
       refine wp_region_held_drew (S := fun X => World.rangeAt X w.heap.size 0 [.string gname,.int .i64 gkind,.int .i64 gprice,.int .i64 gmain,.int .i64 gof,.int .i64 gbonus,.int .i64 gbonusOf,.int .i64 gextra,.int .i64 gdraws,.int .i64 gsystem,.int .i64 gdays,.int .i64 gat,.int .i64 gclose,.int .i64 gcancel,.int .i64 gexpiry,.int .i64 gpool,.int .i64 greserve,.int .i64 ground,.int .i64 gcap,.int .i64 grolls,(.slice aa an ac),(.slice (some ⟨b,off,none⟩) gt.length tc)] ∧ World.rangeAt X b (off + k * 6) [.int .i64 emain,.int .i64 ebonus,.int .i64 eextra,.int .i64 emode,.int .i64 ekind,.int .i64 evalue] ∧ World.rangeAt X b (off + i * 6) [.int .i64 tmain,.int .i64 tbonus,.int .i64 textra,.int .i64 tmode,.int .i64 tkind,.int .i64 tvalue] ∧ X.cell? ⟨w.heap.size,21,none⟩ = some (.slice (some ⟨b,off,none⟩) gt.length tc)) (by kernel_rfl) ⟨q0,hrange,t0,f21⟩ (fun hHeld => ?_)
       refine' wpAnyH_take (i := 0) (oi := _) (v := _) rfl (by kernel_rfl) (by kernel_rfl) (by kernel_rfl) (fun _ _ _ h => h) (yieldsIf_load_mid (by rfl) 25 _ rfl (w.heap.size) (0) rfl [.string gname,.int .i64 gkind,.int .i64 gprice,.int .i64 gmain,.int .i64 gof,.int .i64 gbonus,.int .i64 gbonusOf,.int .i64 gextra,.int .i64 gdraws,.int .i64 gsystem,.int .i64 gdays,.int .i64 gat,.int .i64 gclose,.int .i64 gcancel,.int .i64 gexpiry,.int .i64 gpool,.int .i64 greserve,.int .i64 ground,.int .i64 gcap,.int .i64 grolls,(.slice aa an ac),(.slice (some ⟨b,off,none⟩) gt.length tc)] _ (fun X h => h.1) Tryz.underlying25 rfl (by kernel_rfl)) hHeld ?_
       try simp only [Act.put,zsA,zsB,zsC,List.getElem_toArray,List.getElem_cons_zero,List.getElem_cons_succ]
       refine' wpAnyH_take (i := 1) (oi := _) (v := .pointer (some ⟨w.heap.size,21,none⟩)) rfl (by kernel_rfl) (by kernel_rfl) (by kernel_rfl) (fun _ _ _ h => h) (Or.inl ⟨by rfl,fun X hX => by go_simp⟩) hHeld ?_
       try simp only [Act.put,zsA,zsB,zsC,List.getElem_toArray,List.getElem_cons_zero,List.getElem_cons_succ]
       refine' wpAnyH_take (i := 2) (oi := _) (v := (.slice (some ⟨b,off,none⟩) gt.length tc)) rfl (by kernel_rfl) (by kernel_rfl) (by kernel_rfl) (fun _ _ _ h => h) (Or.inl ⟨by rfl,fun X hX => by (have hX3 := hX.2.2.2;go_simp)⟩) hHeld ?_
       try simp only [Act.put,zsA,zsB,zsC,List.getElem_toArray,List.getElem_cons_zero,List.getElem_cons_succ]
       refine' wpAnyH_take (i := 3) (oi := _) (v := .int .i64 k) rfl (by kernel_rfl) (by kernel_rfl) (by kernel_rfl) (fun _ _ _ h => h) (Or.inl ⟨by rfl,fun X hX => by go_simp⟩) hHeld ?_
       try simp only [Act.put,zsA,zsB,zsC,List.getElem_toArray,List.getElem_cons_zero,List.getElem_cons_succ]
       refine' wpAnyH_take (i := 4) (oi := _) (v := .pointer (some ⟨b,off + k * 6,none⟩)) rfl (by kernel_rfl) (by kernel_rfl) (by kernel_rfl) (fun _ _ _ h => h) (Or.inl ⟨by rfl,fun X hX => by go_simp⟩) hHeld ?_
       try simp only [Act.put,zsA,zsB,zsC,List.getElem_toArray,List.getElem_cons_zero,List.getElem_cons_succ]
       refine' wpAnyH_take (i := 5) (oi := _) (v := _) rfl (by kernel_rfl) (by kernel_rfl) (by kernel_rfl) (fun _ _ _ h => h) (yieldsIf_load_mid (by rfl) 73 _ rfl (b) (off + k * 6) rfl [.int .i64 emain,.int .i64 ebonus,.int .i64 eextra,.int .i64 emode,.int .i64 ekind,.int .i64 evalue] _ (fun X h => h.2.1) Tryz.underlying73 rfl (by kernel_rfl)) hHeld ?_
       try simp only [Act.put,zsA,zsB,zsC,List.getElem_toArray,List.getElem_cons_zero,List.getElem_cons_succ]
       refine' wpAnyH_take (i := 6) (oi := _) (v := .pointer (some ⟨w.heap.size,21,none⟩)) rfl (by kernel_rfl) (by kernel_rfl) (by kernel_rfl) (fun _ _ _ h => h) (Or.inl ⟨by rfl,fun X hX => by go_simp⟩) hHeld ?_
       try simp only [Act.put,zsA,zsB,zsC,List.getElem_toArray,List.getElem_cons_zero,List.getElem_cons_succ]
       refine' wpAnyH_take (i := 7) (oi := _) (v := (.slice (some ⟨b,off,none⟩) gt.length tc)) rfl (by kernel_rfl) (by kernel_rfl) (by kernel_rfl) (fun _ _ _ h => h) (Or.inl ⟨by rfl,fun X hX => by (have hX3 := hX.2.2.2;go_simp)⟩) hHeld ?_
       try simp only [Act.put,zsA,zsB,zsC,List.getElem_toArray,List.getElem_cons_zero,List.getElem_cons_succ]
       refine' wpAnyH_take (i := 8) (oi := _) (v := .int .i64 i) rfl (by kernel_rfl) (by kernel_rfl) (by kernel_rfl) (fun _ _ _ h => h) (Or.inl ⟨by rfl,fun X hX => by go_simp⟩) hHeld ?_
       try simp only [Act.put,zsA,zsB,zsC,List.getElem_toArray,List.getElem_cons_zero,List.getElem_cons_succ]
       refine' wpAnyH_take (i := 9) (oi := _) (v := .pointer (some ⟨b,off + i * 6,none⟩)) rfl (by kernel_rfl) (by kernel_rfl) (by kernel_rfl) (fun _ _ _ h => h) (Or.inl ⟨by rfl,fun X hX => by go_simp⟩) hHeld ?_
       try simp only [Act.put,zsA,zsB,zsC,List.getElem_toArray,List.getElem_cons_zero,List.getElem_cons_succ]
       refine' wpAnyH_take (i := 10) (oi := _) (v := _) rfl (by kernel_rfl) (by kernel_rfl) (by kernel_rfl) (fun _ _ _ h => h) (yieldsIf_load_mid (by rfl) 73 _ rfl (b) (off + i * 6) rfl [.int .i64 tmain,.int .i64 tbonus,.int .i64 textra,.int .i64 tmode,.int .i64 tkind,.int .i64 tvalue] _ (fun X h => h.2.2.1) Tryz.underlying73 rfl (by kernel_rfl)) hHeld ?_
       try simp only [Act.put,zsA,zsB,zsC,List.getElem_toArray,List.getElem_cons_zero,List.getElem_cons_succ]
       refine wpAnyH_ready (rs := [11]) (by kernel_rfl) (by simp) ?_
       refine AllReadyH.cons (o := _) rfl (fun K hK => ?_) AllReadyH.nil
       go_simp
       refine (hcve.out _).mono ?_
       rintro e w4 ⟨rfl,hb4⟩
       go_wp2_with fail
       refine hK.out _ _ ⟨rangeAt_below (Below.drewL hb4) q0,rangeAt_below (Below.drewL hb4) hrange,rangeAt_below (Below.drewL hb4) t0,Bel.cellOf (Below.drewL hb4) f21⟩ (fun hHeld => ?_)
       clear hK K
       try simp only [Act.put,zsA,zsB,zsC,List.getElem_toArray,List.getElem_cons_zero,List.getElem_cons_succ]
       refine wpAnyH_done (by kernel_rfl) ?_ _
       go_simp
       have B4 : Below w2.heap.size w2 w4 := Bel.to hbel3 (Below.drewL hb4)
       clear q0 t0 f21 hrange hb4 hbel3 hHeld
       cases q
       ·have hn1 := hide (hnext.out hq.out.symm)
        go_wp2
        go_roundg (i - (k + 1))
        case measure => have := hgk.out;have := hki2.out;omega
        case rel => exact ⟨k + 1,rfl,by have := hki2.out;omega,by go_num,B4,hn1.out⟩
       ·have hr6 := hs3.out
        rw [hlast.out hq.out.symm,if_pos rfl] at hr6
        replace hr6 := hide hr6
        go_wp2
        go_ret
        rw [hr6.out]
        exact ⟨rfl,Bel.to bW (Bel.to B2 B4)⟩
      ·have hki2 : k = i := by omega
       have hs4 := hs3.out
       rw [any_take_no (fun j x hj hx => hno.out j x (by omega) hx),if_neg (by simp)] at hs4
       replace hs4 := hide hs4
       replace hki2 := hide hki2
       have B5 := Bel.to B2 hbel3
       go_wp2
       go_roundg (gt.length - (i + 1))
       case measure => have := hg.out;have := hlt2.out;omega
       case rel => exact ⟨i + 1,rfl,by have := hlt2.out;omega,by go_num,B5,hs4.out.symm,hvn2.out⟩
    ·have hcb : (c != 0) = true := by simpa using hc0
     have hs3 := hstep2.out
     rw [if_pos hc0] at hs3
     replace hs3 := hide hs3
     clear hstep2
     replace hc0 := hide hc0
     go_wp2
     go_ret
     rw [hs3.out]
     exact ⟨rfl,Bel.to bW B2⟩
   ·have hend := tiersGo_end (g := G) (l := gt) (i := i) hlt
    rw [hgo.out] at hend
    replace hend := hide hend
    have d21 := Bel.cellOf hbel c0_21
    go_wp2
    go_ret
    rw [hend.out]
    exact ⟨rfl,Bel.to bW hbel⟩
 ·rw [if_pos (by simpa using hn)]
  have hn' : inB g.tiers.length 1 12 = false := by simpa using hn
  clear hn hrt
  obtain ⟨gname,gkind,gprice,gmain,gof,gbonus,gbonusOf,gextra,gdraws,gsystem,gdays,gat,gclose,gcancel,gexpiry,gpool,greserve,ground,gcap,grolls,ga,gt⟩ := g
  simp only [] at hn'
  unfold gameVal
  (try simp only [])
  go_enter Tryz.func50,Tryz.ntmps50
  go_wp2_with fail
  refine (rin_any _ _ _ _).mono ?_
  rintro e w' ⟨rfl,rfl⟩
  rw [hn']
  go_wp2
  go_ret
  exact ⟨rfl,Bel.al (Below.refl _ _) _⟩
set_option maxHeartbeats 2000000 in
set_option maxRecDepth 100000 in
theorem raddon_any (m : AddonM) (w : World) (h : AddonR w m) :
  Calls Tryz.prog 86 #[addonVal m] w (IntB (addonE m.d) w) := by
 obtain ⟨⟨aname,akind,aprice,afactors,adigits,aprizes⟩,fv,pv⟩ := m
 obtain ⟨hf,hp⟩ := h
 simp only [] at hf hp
 obtain ⟨fa,fc,rfl,hfl,hfm,hfr⟩ := Rd.form hf
 obtain ⟨pa,pc,rfl,hpl,hpm,hpr⟩ := Rd.form hp
 have hfm2 : fc ≤ 9223372036854775807 := by unfold maxLen at hfm;omega
 have hpm2 : pc ≤ 9223372036854775807 := by unfold maxLen at hpm;omega
 obtain ⟨r,hr⟩ : ∃ r,r = addonE ⟨aname,akind,aprice,afactors,adigits,aprizes⟩ := ⟨_,rfl⟩
 simp only []
 rw [← hr]
 unfold addonE at hr
 unfold addonVal
 simp only [] at hr ⊢
 obtain ⟨nm,hnm⟩ : ∃ b,b = nameB aname := ⟨_,rfl⟩
 rw [← hnm] at hr
 replace hnm := hide hnm
 clear hf hp
 by_cases hA : nm = true ∧ akind = 1 ∧ inB aprice 0 1000000 = true ∧ adigits = 0 ∧ aprizes.length = 0 ∧ inB (afactors.length : Int) 1 8 = true
 ·obtain ⟨rfl,rfl,h3,rfl,h5,h6⟩ := hA
  have hr2 : r = allE afactors 1 100 := by rw [hr];simp [h3,h5,h6]
  replace hr2 := hide hr2
  have h5' : (aprizes.length : Int) ≤ 0 := by omega
  clear hr h5
  go_enter Tryz.func86,Tryz.ntmps86
  go_upto_region 1 with (fail)
  obtain ⟨W,hW⟩ : ∃ W,W = (w.alloc (Obj.cells #[.string aname,.int .i64 1,.int .i64 aprice,(.slice fa afactors.length fc),.int .i64 0,(.slice pa aprizes.length pc)] 62)) := ⟨_,rfl⟩
  have bW : Below w.heap.size w W := by rw [hW];exact Bel.al (Below.refl _ _) _
  have r0 : Row W (w.heap.size) 62 [.string aname,.int .i64 1,.int .i64 aprice,(.slice fa afactors.length fc),.int .i64 0,(.slice pa aprizes.length pc)] := by rw [hW];exact Row.new _ _ _
  have c0_0 : W.cell? ⟨w.heap.size,0,none⟩ = some (.string aname) := Row.cell r0 (i := 0) (by simp)
  have c0_1 : W.cell? ⟨w.heap.size,1,none⟩ = some (.int .i64 1) := Row.cell r0 (i := 1) (by simp)
  have c0_2 : W.cell? ⟨w.heap.size,2,none⟩ = some (.int .i64 aprice) := Row.cell r0 (i := 2) (by simp)
  have c0_3 : W.cell? ⟨w.heap.size,3,none⟩ = some ((.slice fa afactors.length fc)) := Row.cell r0 (i := 3) (by simp)
  have c0_4 : W.cell? ⟨w.heap.size,4,none⟩ = some (.int .i64 0) := Row.cell r0 (i := 4) (by simp)
  have c0_5 : W.cell? ⟨w.heap.size,5,none⟩ = some ((.slice pa aprizes.length pc)) := Row.cell r0 (i := 5) (by simp)
  have sW : w.heap.size < W.heap.size := by rw [hW];simp
  rw [← hW]
  clear hW
  replace hfr := hfr.below bW
  clear hpr r0
  go_wp2_with (first | (go_at_call 45;refine (rin_any _ _ _ _).mono ?_;rintro e w' ⟨rfl,rfl⟩) | (go_at_call 43;refine (rname_any _ _).mono ?_;rintro e w' ⟨rfl,rfl⟩;rw [← hnm.out]) | fail)
  go_loopg [3] afactors.length (fun g t wr => ∃ (i : Nat),g = afactors.length - i ∧ i ≤ afactors.length ∧ t = .int .i64 i ∧ W = wr ∧ ∀ k (hk : k < afactors.length),k < i → inB afactors[k] 1 100 = true)
  case atStart => exact ⟨0,rfl,Nat.zero_le _,rfl,rfl,fun k hk hki => absurd hki (Nat.not_lt_zero _)⟩
  case round =>
   obtain ⟨i,hg,hi',rfl,rfl,hall⟩ := hrel
   replace hg := hide hg
   replace hall := hide hall
   by_cases hlt : i < afactors.length
   ·have hlt2 := hide hlt
    obtain ⟨b,off,rfl,hbb,hcell⟩ := hfr.at_ hlt
    obtain ⟨x,hx,c1⟩ : ∃ x,x = afactors[i] ∧ W.cell? ⟨b,off + i,none⟩ = some (.int .i64 x) := ⟨_,rfl,hcell _ hlt⟩
    clear hcell
    have i1 : (0 : Int) ≤ (i : Int) := by omega
    have i2 : (i : Int) < (afactors.length : Int) := by omega
    by_cases hin : inB afactors[i] 1 100 = true
    ·have hnext : ∀ k (hk : k < afactors.length),k < i + 1 → inB afactors[k] 1 100 = true := by
      intro k hk hki
      rcases Nat.lt_succ_iff_lt_or_eq.1 hki with h | rfl
      ·exact hall.out k hk h
      ·exact hin
     replace hnext := hide hnext
     rw [← hx] at hin
     replace hx := hide hx
     go_wp2_with fail
     refine (rin_any _ _ _ _).mono ?_
     rintro e w' ⟨rfl,rfl⟩
     rw [hin]
     go_wp2
     go_roundg (afactors.length - (i + 1))
     case measure => have := hg.out;omega
     case rel => exact ⟨i + 1,rfl,by have := hlt2.out;omega,by go_num,rfl,hnext.out⟩
    ·have hin' : inB afactors[i] 1 100 = false := by simpa using hin
     have hq := hide (allE_at hlt hin')
     rw [← hx] at hin'
     clear hin
     replace hx := hide hx
     go_wp2_with fail
     refine (rin_any _ _ _ _).mono ?_
     rintro e w' ⟨rfl,rfl⟩
     rw [hin']
     go_wp2
     go_ret
     rw [hr2.out,hq.out]
     exact ⟨rfl,bW⟩
   ·have hq := hide (allE_yes (lo := 1) (hi := 100) (fun k hk => hall.out k hk (by omega)))
    go_wp2
    go_ret
    rw [hr2.out,hq.out]
    exact ⟨rfl,bW⟩
 ·by_cases hB : nm = true ∧ akind = 2 ∧ inB aprice 0 1000000 = true ∧ afactors.length = 0 ∧ inB adigits 1 8 = true ∧ (aprizes.length : Int) = adigits
  ·obtain ⟨rfl,rfl,h3,h4,h5,h6⟩ := hB
   have hr2 : r = allE aprizes 0 1000000000 := by rw [hr];simp [h3,h4,h5,h6]
   replace hr2 := hide hr2
   have h4' : (afactors.length : Int) ≤ 0 := by omega
   clear hr hA h4
   have h7 : ((aprizes.length : Int) != adigits) = false := by simp [h6]
   replace h6 := hide h6
   go_enter Tryz.func86,Tryz.ntmps86
   go_upto_region 1 with (fail)
   obtain ⟨W,hW⟩ : ∃ W,W = (w.alloc (Obj.cells #[.string aname,.int .i64 2,.int .i64 aprice,(.slice fa afactors.length fc),.int .i64 adigits,(.slice pa aprizes.length pc)] 62)) := ⟨_,rfl⟩
   have bW : Below w.heap.size w W := by rw [hW];exact Bel.al (Below.refl _ _) _
   have r0 : Row W (w.heap.size) 62 [.string aname,.int .i64 2,.int .i64 aprice,(.slice fa afactors.length fc),.int .i64 adigits,(.slice pa aprizes.length pc)] := by rw [hW];exact Row.new _ _ _
   have c0_0 : W.cell? ⟨w.heap.size,0,none⟩ = some (.string aname) := Row.cell r0 (i := 0) (by simp)
   have c0_1 : W.cell? ⟨w.heap.size,1,none⟩ = some (.int .i64 2) := Row.cell r0 (i := 1) (by simp)
   have c0_2 : W.cell? ⟨w.heap.size,2,none⟩ = some (.int .i64 aprice) := Row.cell r0 (i := 2) (by simp)
   have c0_3 : W.cell? ⟨w.heap.size,3,none⟩ = some ((.slice fa afactors.length fc)) := Row.cell r0 (i := 3) (by simp)
   have c0_4 : W.cell? ⟨w.heap.size,4,none⟩ = some (.int .i64 adigits) := Row.cell r0 (i := 4) (by simp)
   have c0_5 : W.cell? ⟨w.heap.size,5,none⟩ = some ((.slice pa aprizes.length pc)) := Row.cell r0 (i := 5) (by simp)
   have sW : w.heap.size < W.heap.size := by rw [hW];simp
   rw [← hW]
   clear hW
   replace hpr := hpr.below bW
   clear hfr r0
   go_wp2_with (first | (go_at_call 45;refine (rin_any _ _ _ _).mono ?_;rintro e w' ⟨rfl,rfl⟩) | (go_at_call 43;refine (rname_any _ _).mono ?_;rintro e w' ⟨rfl,rfl⟩;rw [← hnm.out]) | fail)
   go_loopg [4] aprizes.length (fun g t wr => ∃ (i : Nat),g = aprizes.length - i ∧ i ≤ aprizes.length ∧ t = .int .i64 i ∧ W = wr ∧ ∀ k (hk : k < aprizes.length),k < i → inB aprizes[k] 0 1000000000 = true)
   case atStart => exact ⟨0,rfl,Nat.zero_le _,rfl,rfl,fun k hk hki => absurd hki (Nat.not_lt_zero _)⟩
   case round =>
    obtain ⟨i,hg,hi',rfl,rfl,hall⟩ := hrel
    replace hg := hide hg
    replace hall := hide hall
    by_cases hlt : i < aprizes.length
    ·have hlt2 := hide hlt
     obtain ⟨b,off,rfl,hbb,hcell⟩ := hpr.at_ hlt
     obtain ⟨x,hx,c1⟩ : ∃ x,x = aprizes[i] ∧ W.cell? ⟨b,off + i,none⟩ = some (.int .i64 x) := ⟨_,rfl,hcell _ hlt⟩
     clear hcell
     have i1 : (0 : Int) ≤ (i : Int) := by omega
     have i2 : (i : Int) < (aprizes.length : Int) := by omega
     by_cases hin : inB aprizes[i] 0 1000000000 = true
     ·have hnext : ∀ k (hk : k < aprizes.length),k < i + 1 → inB aprizes[k] 0 1000000000 = true := by
       intro k hk hki
       rcases Nat.lt_succ_iff_lt_or_eq.1 hki with h | rfl
       ·exact hall.out k hk h
       ·exact hin
      replace hnext := hide hnext
      rw [← hx] at hin
      replace hx := hide hx
      go_wp2_with fail
      refine (rin_any _ _ _ _).mono ?_
      rintro e w' ⟨rfl,rfl⟩
      rw [hin]
      go_wp2
      go_roundg (aprizes.length - (i + 1))
      case measure => have := hg.out;omega
      case rel => exact ⟨i + 1,rfl,by have := hlt2.out;omega,by go_num,rfl,hnext.out⟩
     ·have hin' : inB aprizes[i] 0 1000000000 = false := by simpa using hin
      have hq := hide (allE_at hlt hin')
      rw [← hx] at hin'
      clear hin
      replace hx := hide hx
      go_wp2_with fail
      refine (rin_any _ _ _ _).mono ?_
      rintro e w' ⟨rfl,rfl⟩
      rw [hin']
      go_wp2
      go_ret
      rw [hr2.out,hq.out]
      exact ⟨rfl,bW⟩
    ·have hq := hide (allE_yes (lo := 0) (hi := 1000000000) (fun k hk => hall.out k hk (by omega)))
     go_wp2
     go_ret
     rw [hr2.out,hq.out]
     exact ⟨rfl,bW⟩
  ·have hC := hide (And.intro hA hB)
   replace hr := hide hr
   clear hA hB hfr hpr
   go_enter Tryz.func86,Tryz.ntmps86
   go_wp2_with (first | (go_at_call 45;refine (rin_any _ _ _ _).mono ?_;rintro e w' ⟨rfl,rfl⟩) | (go_at_call 43;refine (rname_any _ _).mono ?_;rintro e w' ⟨rfl,rfl⟩;rw [← hnm.out]) | fail)
   all_goals
    first
    | (go_ret;refine ⟨ret_int ?_,Bel.al (Below.refl _ _) _⟩;rw [hr.out];(simp_all <;> omega))
    | (exfalso;have hc := hC.out;simp_all;done)
    | (exfalso;have hc := hC.out;simp_all;omega)
    | trace_state
set_option maxHeartbeats 2000000 in
set_option maxRecDepth 100000 in
theorem raddons_any (v : Value) (ms : List AddonM) (w : World) (h : AddonsR w v ms) :
  Calls Tryz.prog 49 #[v] w (IntB (addonsE (ms.map (·.d))) w) := by
 obtain ⟨l,hl⟩ : ∃ l,l = ms.map (·.d) := ⟨_,rfl⟩
 have hlen : l.length = ms.length := by rw [hl];simp
 rw [← hl]
 obtain ⟨ao,cap,rfl,hle,hmax⟩ := h.1.shape
 unfold addonsE
 by_cases h4 : 4 < l.length
 ·rw [if_pos h4]
  have h4' : 4 < ms.length := by omega
  clear h4 hl hlen h
  go_enter Tryz.func49,Tryz.ntmps49
  go_wp2
  go_ret
  exact ⟨rfl,Below.refl _ _⟩
 ·rw [if_neg h4]
  have h4' : ms.length ≤ 4 := by omega
  have hl' := hide hl
  clear hl
  replace hlen := hide hlen
  have hh := hide h
  clear h h4
  obtain ⟨r,hr⟩ : ∃ r,r = addonsGo [] l := ⟨_,rfl⟩
  rw [← hr]
  replace hr := hide hr
  go_enter Tryz.func49,Tryz.ntmps49
  go_wp2
  go_loopg [3] ms.length (fun g t wr => ∃ i : Nat,g = ms.length - i ∧ i ≤ ms.length ∧ t = .int .i64 i ∧ Below w.heap.size w wr ∧ addonsGo (l.take i) (l.drop i) = r)
  case atStart => exact ⟨0,rfl,Nat.zero_le _,rfl,Below.refl _ _,hr.out.symm⟩
  case round =>
   obtain ⟨i,hg,hi,rfl,hbel,hgo⟩ := hrel
   replace hg := hide hg
   replace hgo := hide hgo
   by_cases hlt : i < ms.length
   ·have hlt2 := hide hlt
    have i1 : (0 : Int) ≤ (i : Int) := by omega
    have i2 : (i : Int) < (ms.length : Int) := by omega
    have hA := hh.out.below hbel
    obtain ⟨b,off,rfl,hbb,hcell⟩ := hA.1.at_ hlt
    obtain ⟨m,hm⟩ : ∃ m,ms[i]? = some m := ⟨_,List.getElem?_eq_getElem hlt⟩
    have hrange : wr.rangeAt b (off + i * 6) (AddonM.cells m) := fun j u hu => hcell i m hm j u hu
    have hAd := hA.2 i m hm
    clear hcell
    have hlm : l[i]? = some m.d := by rw [hl'.out,List.getElem?_map,hm];rfl
    have hstep := addonsGo_step hlm
    rw [hgo.out] at hstep
    clear hm hlm hA
    obtain ⟨⟨aname,akind,aprice,afactors,adigits,aprizes⟩,fv,pv⟩ := m
    unfold AddonM.cells at hrange
    obtain ⟨hf,hp⟩ := hAd
    (try simp only [] at hrange hf hp hstep)
    obtain ⟨afa,afn,afc,rfl⟩ := Rd.shape hf
    obtain ⟨apa,apn,apc,rfl⟩ := Rd.shape hp
    have hAd : AddonR wr ⟨⟨aname,akind,aprice,afactors,adigits,aprizes⟩,.slice afa afn afc,.slice apa apn apc⟩ := ⟨hf,hp⟩
    clear hf hp
    obtain ⟨c,hc⟩ : ∃ c,c = addonE ⟨aname,akind,aprice,afactors,adigits,aprizes⟩ := ⟨_,rfl⟩
    have hca := hide (raddon_any ⟨⟨aname,akind,aprice,afactors,adigits,aprizes⟩,.slice afa afn afc,.slice apa apn apc⟩ wr hAd)
    (try simp only [] at hca)
    rw [← hc] at hca hstep
    clear hc
    replace hstep := hide hstep
    have a0 : wr.cell? ⟨b,off + i * 6,none⟩ = some (.string aname) := hrange 0 _ rfl
    have a1 : wr.cell? ⟨b,off + i * 6 + 1,none⟩ = some (.int .i64 akind) := hrange 1 _ rfl
    go_wp2_with (first | (refine wpList_load_mid rfl 62 _ rfl b (off + i * 6) rfl [.string aname,.int .i64 akind,.int .i64 aprice,.slice afa afn afc,.int .i64 adigits,.slice apa apn apc] _ hrange Tryz.underlying62 rfl (by kernel_rfl) ?_) | fail)
    refine hca.out.mono ?_
    rintro e w2 ⟨rfl,hb2⟩
    replace a0 := Bel.cellOf hb2 a0
    replace a1 := Bel.cellOf hb2 a1
    have B2 := Bel.to hbel hb2
    clear hrange hAd hca hb2 hbel
    by_cases hc0 : c = 0
    ·subst hc0
     have hs3 : r = if (l.take i).any (fun s => decide (s.name = aname) || decide (s.kind = akind)) = true then 6 else addonsGo (l.take (i + 1)) (l.drop (i + 1)) := by rw [hstep.out,if_neg (by simp)]
     replace hs3 := hide hs3
     clear hstep
     go_wp2
     go_loopg [5] i (fun g t wr' => ∃ k : Nat,g = i - k ∧ k ≤ i ∧ t = .int .i64 k ∧ Below w2.heap.size w2 wr' ∧ ∀ j x,j < k → l[j]? = some x → (decide (x.name = aname) || decide (x.kind = akind)) = false)
     case atStart => exact ⟨0,rfl,Nat.zero_le _,rfl,Below.refl _ _,fun j x hj => absurd hj (Nat.not_lt_zero _)⟩
     case round =>
      obtain ⟨k,hgk,hk,rfl,hbel3,hno⟩ := hrel
      replace hgk := hide hgk
      replace hno := hide hno
      by_cases hki : k < i
      ·have hki2 := hide hki
       have k1 : (0 : Int) ≤ (k : Int) := by omega
       have k2 : (k : Int) < (ms.length : Int) := by omega
       have k3 : (k : Int) < (i : Int) := by omega
       have hkl : k < ms.length := by omega
       have hA := hh.out.below (Bel.to B2 hbel3)
       obtain ⟨b',off',hbo,hbb',hcell⟩ := hA.1.at_ hkl
       obtain ⟨rfl,rfl⟩ : b = b' ∧ off = off' := by simpa using hbo
       obtain ⟨n,hn⟩ : ∃ n,ms[k]? = some n := ⟨_,List.getElem?_eq_getElem hkl⟩
       have e0 : wr.cell? ⟨b,off + k * 6,none⟩ = some (.string n.d.name) := hcell k n hn 0 _ rfl
       have e1 : wr.cell? ⟨b,off + k * 6 + 1,none⟩ = some (.int .i64 n.d.kind) := hcell k n hn 1 _ rfl
       have hln : l[k]? = some n.d := by rw [hl'.out,List.getElem?_map,hn];rfl
       clear hcell hA hbo hn
       replace hln := hide hln
       obtain ⟨⟨ename,ekind,eprice,efactors,edigits,eprizes⟩,efv,epv⟩ := n
       (try simp only [] at e0 e1 hln)
       have f0 := Bel.cellOf hbel3 a0
       have f1 := Bel.cellOf hbel3 a1
       by_cases hne : ename = aname
       ·have hyes : (decide (ename = aname) || decide (ekind = akind)) = true := by simp [hne]
        have hany := any_take_yes (p := fun s : AddonD => decide (s.name = aname) || decide (s.kind = akind)) hki hln.out hyes
        have hs4 := hs3.out
        rw [hany,if_pos rfl] at hs4
        replace hs4 := hide hs4
        clear hany hyes
        subst hne
        go_wp2
        go_quiet (fail)
        go_wp2
        go_ret
        rw [hs4.out]
        exact ⟨rfl,Bel.drN (Bel.to B2 hbel3) _⟩
       ·have hnb := bytes_ne hne
        by_cases hkk : ekind = akind
        ·have hyes : (decide (ename = aname) || decide (ekind = akind)) = true := by simp [hkk]
         have hany := any_take_yes (p := fun s : AddonD => decide (s.name = aname) || decide (s.kind = akind)) hki hln.out hyes
         have hs4 := hs3.out
         rw [hany,if_pos rfl] at hs4
         replace hs4 := hide hs4
         replace hne := hide hne
         clear hany hyes
         subst hkk
         go_wp2
         go_quiet (fail)
         go_wp2
         go_ret
         rw [hs4.out]
         exact ⟨rfl,Bel.drN (Bel.to B2 hbel3) _⟩
        ·have hkb : (ekind == akind) = false := by simpa using hkk
         have hno2 : (decide (ename = aname) || decide (ekind = akind)) = false := by simp [hne,hkk]
         have hnext : ∀ j x,j < k + 1 → l[j]? = some x → (decide (x.name = aname) || decide (x.kind = akind)) = false := by
          intro j x hj hx
          rcases Nat.lt_succ_iff_lt_or_eq.1 hj with h' | rfl
          ·exact hno.out j x h' hx
          ·rw [hln.out] at hx;injection hx with hx;rw [← hx];exact hno2
         replace hnext := hide hnext
         replace hne := hide hne
         replace hkk := hide hkk
         clear hno2
         go_wp2
         go_quiet (fail)
         go_wp2
         go_roundg (i - (k + 1))
         case measure => have := hgk.out;have := hki2.out;omega
         case rel => exact ⟨k + 1,rfl,by have := hki2.out;omega,by go_num,Bel.drN hbel3 _,hnext.out⟩
      ·have hki2 : k = i := by omega
       have hs4 := hs3.out
       rw [any_take_no (fun j x hj hx => hno.out j x (by omega) hx),if_neg (by simp)] at hs4
       replace hs4 := hide hs4
       replace hki2 := hide hki2
       have B5 := Bel.to B2 hbel3
       go_wp2
       go_roundg (ms.length - (i + 1))
       case measure => have := hg.out;have := hlt2.out;omega
       case rel => exact ⟨i + 1,rfl,by have := hlt2.out;omega,by go_num,B5,hs4.out.symm⟩
    ·have hcb : (c != 0) = true := by simpa using hc0
     have hs3 : r = c := by rw [hstep.out,if_pos hc0]
     replace hs3 := hide hs3
     replace hc0 := hide hc0
     clear hstep
     go_wp2
     go_ret
     rw [hs3.out]
     exact ⟨rfl,B2⟩
   ·have hend := addonsGo_end (l := l) (i := i) (by have := hlen.out;omega)
    rw [hgo.out] at hend
    replace hend := hide hend
    go_wp2
    go_ret
    rw [hend.out]
    exact ⟨rfl,hbel⟩
theorem Rd.form_n {w : World} {v : Value} {l : List Int} {n : Nat} (h : Rd I64 w v l) (hn : l.length = n) (hp : 0 < n) : ∃ b off cap,v = .slice (some ⟨b,off,none⟩) n cap ∧ ∀ i x,l[i]? = some x → w.cell? ⟨b,off + i,none⟩ = some (.int .i64 x) := by
 obtain ⟨ao,cap,rfl,h2,h3,h4⟩ := h
 obtain ⟨b,off,rfl,h5,h6⟩ := h4 (by omega)
 exact ⟨b,off,cap,by rw [hn],h6⟩
theorem Rd.form_s {w : World} {v : Value} {l : List ByteArray} {n : Nat} (h : Rd Value.string w v l) (hn : l.length = n) (hp : 0 < n) : ∃ b off cap,v = .slice (some ⟨b,off,none⟩) n cap ∧ ∀ i x,l[i]? = some x → w.cell? ⟨b,off + i,none⟩ = some (.string x) := by
 obtain ⟨ao,cap,rfl,h2,h3,h4⟩ := h
 obtain ⟨b,off,rfl,h5,h6⟩ := h4 (by omega)
 exact ⟨b,off,cap,by rw [hn],h6⟩
theorem mat_bounds {g : GameD} (hk : g.kind = 1 ∨ g.kind = 2) (h : matB g = true) : g.main ≤ 10 ∧ g.bonus ≤ 4 ∧ g.extra ≤ 4 := by
 unfold matB at h
 simp only [Bool.and_eq_true] at h
 obtain ⟨⟨⟨⟨⟨⟨⟨h1,h2⟩,h3⟩,h4⟩,h5⟩,h6⟩,h7⟩,h8⟩ := h
 have a2 := inB_iff.1 h2
 refine ⟨a2.2,?_,?_⟩
 ·split at h4
  ·have := inB_iff.1 h4;omega
  ·have := inB_iff.1 h4;omega
 ·split at h6
  ·have := inB_iff.1 h6;omega
  ·rw [Bool.and_eq_true] at h6;have := inB_iff.1 h6.1;omega
theorem game_range {g : GameD} {r : Int} {OK : Nat → Bool} {i : Nat} (hr : r = gameE g) (hn : nameB g.name = true) (hk : g.kind = 1 ∨ g.kind = 2) (hOK : OK = okAt g) (hi : i < 18) (hq : OK i = false) : r = 2 := by
 rw [hr]
 unfold gameE
 rw [if_neg (by rw [hn];simp),if_neg (by omega)]
 by_cases hm : matB g = true
 ·by_cases ht : termB g = true
  ·have := (nums_ok hk).2 ⟨hm,ht⟩ i hi
   rw [hOK,this] at hq
   cases hq
  ·rw [if_neg (by rw [hm];simp),if_pos (by simpa using ht)]
 ·rw [if_pos (by simpa using hm)]
theorem game_rest {g : GameD} {r : Int} {OK : Nat → Bool} (hr : r = gameE g) (hn : nameB g.name = true) (hk : g.kind = 1 ∨ g.kind = 2) (hOK : OK = okAt g) (hq : ∀ i,i < 18 → OK i = true) : r = (if addonsE g.addons ≠ 0 then addonsE g.addons else tiersE g) ∧ matB g = true := by
 have h := (nums_ok hk).1 (fun i hi => by rw [← hOK];exact hq i hi)
 refine ⟨?_,h.1⟩
 rw [hr]
 unfold gameE
 rw [if_neg (by rw [hn];simp),if_neg (by omega),if_neg (by rw [h.1];simp),if_neg (by rw [h.2];simp)]
set_option maxHeartbeats 4000000 in
set_option maxRecDepth 100000 in
theorem rcheck_any (g : GameD) (av tv : Value) (ms : List AddonM) (w : World) (h : GameR w av tv ms g) :
  Calls Tryz.prog 18 #[gameVal g av tv] w (ErrS (gameE g) w) := by
 obtain ⟨h1,h2,h3⟩ := h
 obtain ⟨aa,ac,rfl,hal,ham⟩ := h1.1.shape
 obtain ⟨ta,tc,rfl,htl,htm⟩ := h3.shape
 have hnum := hide (fun X => numbers_any g (.slice aa ms.length ac) (.slice ta g.tiers.length tc) X ⟨_,_,_,rfl⟩ ⟨_,_,_,rfl⟩)
 have hlow := hide (fun X => lowest_any g (.slice aa ms.length ac) (.slice ta g.tiers.length tc) X ⟨_,_,_,rfl⟩ ⟨_,_,_,rfl⟩)
 have hhigh := hide (fun X => highest_any g (.slice aa ms.length ac) (.slice ta g.tiers.length tc) X ⟨_,_,_,rfl⟩ ⟨_,_,_,rfl⟩)
 obtain ⟨NL,hNL⟩ : ∃ l,l = numsL g := ⟨_,rfl⟩
 obtain ⟨LL,hLL⟩ : ∃ l,l = lowL g := ⟨_,rfl⟩
 obtain ⟨HL,hHL⟩ : ∃ l,l = highL g := ⟨_,rfl⟩
 have hlen1 : NL.length = 18 := by rw [hNL];rfl
 have hlen2 : LL.length = 18 := by rw [hLL];rfl
 have hlen3 : HL.length = 18 := by rw [hHL];rfl
 rw [← hNL] at hnum
 rw [← hLL] at hlow
 rw [← hHL] at hhigh
 have hok : ∀ i xn xl xh,NL[i]? = some xn → LL[i]? = some xl → HL[i]? = some xh → okAt g i = inB xn xl xh := by
  intro i xn xl xh e1 e2 e3
  unfold okAt
  rw [← hNL,← hLL,← hHL]
  simp [List.getD_eq_getElem?_getD,e1,e2,e3]
 clear hNL hLL hHL
 obtain ⟨OK,hOK⟩ : ∃ p : Nat → Bool,p = okAt g := ⟨_,rfl⟩
 rw [← hOK] at hok
 replace hok := hide hok
 obtain ⟨r,hr⟩ : ∃ r,r = gameE g := ⟨_,rfl⟩
 rw [← hr]
 replace hr := hide hr
 replace hOK := hide hOK
 replace h1 := hide h1
 replace h3 := hide h3
 replace hlen1 := hide hlen1
 obtain ⟨gname,gkind,gprice,gmain,gof,gbonus,gbonusOf,gextra,gdraws,gsystem,gdays,gat,gclose,gcancel,gexpiry,gpool,greserve,ground,gcap,grolls,ga,gt⟩ := g
 (try simp only [] at hnum hlow hhigh h3 htl)
 unfold gameVal at hnum hlow hhigh ⊢
 (try simp only [] at hnum hlow hhigh ⊢)
 by_cases hfirst : nameB gname = true ∧ (gkind = 1 ∨ gkind = 2)
 ·obtain ⟨hn,hk⟩ := hfirst
  have hkb : (gkind != 1) = false ∨ ((gkind != 1) = true ∧ (gkind != 2) = false) := by
   rcases hk with rfl | rfl
   ·exact .inl (by decide)
   ·exact .inr ⟨by decide,by decide⟩
  go_enter Tryz.func18,Tryz.ntmps18
  go_upto_region 1 with (fail)
  obtain ⟨W,hW⟩ : ∃ W,W = (w.alloc (Obj.cells #[.string gname,.int .i64 gkind,.int .i64 gprice,.int .i64 gmain,.int .i64 gof,.int .i64 gbonus,.int .i64 gbonusOf,.int .i64 gextra,.int .i64 gdraws,.int .i64 gsystem,.int .i64 gdays,.int .i64 gat,.int .i64 gclose,.int .i64 gcancel,.int .i64 gexpiry,.int .i64 gpool,.int .i64 greserve,.int .i64 ground,.int .i64 gcap,.int .i64 grolls,(.slice aa ms.length ac),(.slice ta gt.length tc)] 25)) := ⟨_,rfl⟩
  have bW : Below w.heap.size w W := by rw [hW];exact Bel.al (Below.refl _ _) _
  have r0 : Row W (w.heap.size) 25 [.string gname,.int .i64 gkind,.int .i64 gprice,.int .i64 gmain,.int .i64 gof,.int .i64 gbonus,.int .i64 gbonusOf,.int .i64 gextra,.int .i64 gdraws,.int .i64 gsystem,.int .i64 gdays,.int .i64 gat,.int .i64 gclose,.int .i64 gcancel,.int .i64 gexpiry,.int .i64 gpool,.int .i64 greserve,.int .i64 ground,.int .i64 gcap,.int .i64 grolls,(.slice aa ms.length ac),(.slice ta gt.length tc)] := by rw [hW];exact Row.new _ _ _
  have c0_0 : W.cell? ⟨w.heap.size,0,none⟩ = some (.string gname) := Row.cell r0 (i := 0) (by simp)
  have c0_1 : W.cell? ⟨w.heap.size,1,none⟩ = some (.int .i64 gkind) := Row.cell r0 (i := 1) (by simp)
  have c0_20 : W.cell? ⟨w.heap.size,20,none⟩ = some ((.slice aa ms.length ac)) := Row.cell r0 (i := 20) (by simp)
  have sW : w.heap.size < W.heap.size := by rw [hW];simp
  rw [← hW]
  clear hW
  replace hk := hide hk
  rcases hkb with hkb | ⟨hkb,hkb2⟩
  all_goals
   go_wp2_with fail
   refine (rname_any _ _).mono ?_
   rintro e w' ⟨rfl,rfl⟩
   rw [hn]
   go_wp2_with (first | (refine wpList_load_row rfl 25 _ rfl _ rfl _ _ _ _ r0 Tryz.underlying25 rfl (by kernel_rfl) ?_) | fail)
   refine (hnum.out _).mono ?_
   rintro e w1 ⟨u1,rfl,hu1,hb1⟩
   obtain ⟨nb,no,nc,rfl,hnc⟩ := Rd.form_n hu1 hlen1.out (by decide)
   have BN := Bel.to bW hb1
   have q1 := Row.keep r0 hb1
   have d20 := Bel.cellOf hb1 c0_20
   clear r0 c0_0 c0_1 c0_20 hu1 hb1
   replace hnc := hide hnc
   go_wp2
   go_loopg [5] 18 (fun g t wr => ∃ i : Nat,g = 18 - i ∧ i ≤ 18 ∧ t = .int .i64 i ∧ Below w1.heap.size w1 wr ∧ ∀ j,j < i → OK j = true)
   case atStart => exact ⟨0,rfl,Nat.zero_le _,rfl,Below.refl _ _,fun j hj => absurd hj (Nat.not_lt_zero _)⟩
   case round =>
    obtain ⟨i,hg,hi,rfl,hbel,hall⟩ := hrel
    replace hg := hide hg
    replace hall := hide hall
    by_cases hlt : i < 18
    ·have hlt2 := hide hlt
     have i1 : (0 : Int) ≤ (i : Int) := by omega
     have i2 : (i : Int) < 18 := by omega
     obtain ⟨xn,hxn⟩ : ∃ x,NL[i]? = some x := ⟨_,List.getElem?_eq_getElem (by have := hlen1.out;omega)⟩
     obtain ⟨xl,hxl⟩ : ∃ x,LL[i]? = some x := ⟨_,List.getElem?_eq_getElem (by omega)⟩
     obtain ⟨xh,hxh⟩ : ∃ x,HL[i]? = some x := ⟨_,List.getElem?_eq_getElem (by omega)⟩
     have hoki := hide (hok.out i xn xl xh hxn hxl hxh)
     have cn := Bel.cellOf hbel (hnc.out i xn hxn)
     replace hxn := hide hxn
     replace hxl := hide hxl
     replace hxh := hide hxh
     have q2 := Row.keep q1 hbel
     have g0 : wr.rangeAt w.heap.size 0 [.string gname,.int .i64 gkind,.int .i64 gprice,.int .i64 gmain,.int .i64 gof,.int .i64 gbonus,.int .i64 gbonusOf,.int .i64 gextra,.int .i64 gdraws,.int .i64 gsystem,.int .i64 gdays,.int .i64 gat,.int .i64 gclose,.int .i64 gcancel,.int .i64 gexpiry,.int .i64 gpool,.int .i64 greserve,.int .i64 ground,.int .i64 gcap,.int .i64 grolls,(.slice aa ms.length ac),(.slice ta gt.length tc)] := fun j v hv => by rw [Nat.zero_add];exact (q2.cell? j).trans hv
     clear q2
     go_wp2_with fail
     go_cut [42] (fun b X => b = .bool (!inB xn xl xh) ∧ X.rangeAt w.heap.size 0 [.string gname,.int .i64 gkind,.int .i64 gprice,.int .i64 gmain,.int .i64 gof,.int .i64 gbonus,.int .i64 gbonusOf,.int .i64 gextra,.int .i64 gdraws,.int .i64 gsystem,.int .i64 gdays,.int .i64 gat,.int .i64 gclose,.int .i64 gcancel,.int .i64 gexpiry,.int .i64 gpool,.int .i64 greserve,.int .i64 ground,.int .i64 gcap,.int .i64 grolls,(.slice aa ms.length ac),(.slice ta gt.length tc)] ∧ Below wr.heap.size wr X)
     case first =>
      refine wp_region_held_drew (S := fun X => World.rangeAt X w.heap.size 0 [.string gname,.int .i64 gkind,.int .i64 gprice,.int .i64 gmain,.int .i64 gof,.int .i64 gbonus,.int .i64 gbonusOf,.int .i64 gextra,.int .i64 gdraws,.int .i64 gsystem,.int .i64 gdays,.int .i64 gat,.int .i64 gclose,.int .i64 gcancel,.int .i64 gexpiry,.int .i64 gpool,.int .i64 greserve,.int .i64 ground,.int .i64 gcap,.int .i64 grolls,(.slice aa ms.length ac),(.slice ta gt.length tc)] ∧ X.cell? ⟨nb,no + i,none⟩ = some (.int .i64 xn)) (by kernel_rfl) ⟨g0,cn⟩ (fun hHeld => ?_)
      refine' wpAnyH_take (i := 0) (oi := _) (v := .slice (some ⟨nb,no,none⟩) 18 nc) rfl (by kernel_rfl) (by kernel_rfl) (by kernel_rfl) (fun _ _ _ h => h) (Or.inl ⟨by rfl,fun X hX => by go_simp⟩) hHeld ?_
      try simp only [Act.put,zsA,zsB,zsC,List.getElem_toArray,List.getElem_cons_zero,List.getElem_cons_succ]
      refine' wpAnyH_take (i := 1) (oi := _) (v := .int .i64 i) rfl (by kernel_rfl) (by kernel_rfl) (by kernel_rfl) (fun _ _ _ h => h) (Or.inl ⟨by rfl,fun X hX => by go_simp⟩) hHeld ?_
      try simp only [Act.put,zsA,zsB,zsC,List.getElem_toArray,List.getElem_cons_zero,List.getElem_cons_succ]
      refine' wpAnyH_take (i := 2) (oi := _) (v := .pointer (some ⟨nb,no + i,none⟩)) rfl (by kernel_rfl) (by kernel_rfl) (by kernel_rfl) (fun _ _ _ h => h) (Or.inl ⟨by rfl,fun X hX => by go_simp⟩) hHeld ?_
      try simp only [Act.put,zsA,zsB,zsC,List.getElem_toArray,List.getElem_cons_zero,List.getElem_cons_succ]
      refine' wpAnyH_take (i := 3) (oi := _) (v := .int .i64 xn) rfl (by kernel_rfl) (by kernel_rfl) (by kernel_rfl) (fun _ _ _ h => h) (Or.inl ⟨by rfl,fun X hX => by (have hX2 := hX.2;go_simp)⟩) hHeld ?_
      try simp only [Act.put,zsA,zsB,zsC,List.getElem_toArray,List.getElem_cons_zero,List.getElem_cons_succ]
      refine' wpAnyH_take (i := 4) (oi := _) (v := _) rfl (by kernel_rfl) (by kernel_rfl) (by kernel_rfl) (fun _ _ _ h => h) (yieldsIf_load_mid (by rfl) 25 _ rfl (w.heap.size) (0) rfl [.string gname,.int .i64 gkind,.int .i64 gprice,.int .i64 gmain,.int .i64 gof,.int .i64 gbonus,.int .i64 gbonusOf,.int .i64 gextra,.int .i64 gdraws,.int .i64 gsystem,.int .i64 gdays,.int .i64 gat,.int .i64 gclose,.int .i64 gcancel,.int .i64 gexpiry,.int .i64 gpool,.int .i64 greserve,.int .i64 ground,.int .i64 gcap,.int .i64 grolls,(.slice aa ms.length ac),(.slice ta gt.length tc)] _ (fun X h => h.1) Tryz.underlying25 rfl (by kernel_rfl)) hHeld ?_
      try simp only [Act.put,zsA,zsB,zsC,List.getElem_toArray,List.getElem_cons_zero,List.getElem_cons_succ]
      refine' wpAnyH_take (i := 9) (oi := _) (v := _) rfl (by kernel_rfl) (by kernel_rfl) (by kernel_rfl) (fun _ _ _ h => h) (yieldsIf_load_mid (by rfl) 25 _ rfl (w.heap.size) (0) rfl [.string gname,.int .i64 gkind,.int .i64 gprice,.int .i64 gmain,.int .i64 gof,.int .i64 gbonus,.int .i64 gbonusOf,.int .i64 gextra,.int .i64 gdraws,.int .i64 gsystem,.int .i64 gdays,.int .i64 gat,.int .i64 gclose,.int .i64 gcancel,.int .i64 gexpiry,.int .i64 gpool,.int .i64 greserve,.int .i64 ground,.int .i64 gcap,.int .i64 grolls,(.slice aa ms.length ac),(.slice ta gt.length tc)] _ (fun X h => h.1) Tryz.underlying25 rfl (by kernel_rfl)) hHeld ?_
      try simp only [Act.put,zsA,zsB,zsC,List.getElem_toArray,List.getElem_cons_zero,List.getElem_cons_succ]
      refine' wpAnyH_take (i := 6) (oi := _) (v := .int .i64 i) rfl (by kernel_rfl) (by kernel_rfl) (by kernel_rfl) (fun _ _ _ h => h) (Or.inl ⟨by rfl,fun X hX => by go_simp⟩) hHeld ?_
      try simp only [Act.put,zsA,zsB,zsC,List.getElem_toArray,List.getElem_cons_zero,List.getElem_cons_succ]
      refine' wpAnyH_take (i := 11) (oi := _) (v := .int .i64 i) rfl (by kernel_rfl) (by kernel_rfl) (by kernel_rfl) (fun _ _ _ h => h) (Or.inl ⟨by rfl,fun X hX => by go_simp⟩) hHeld ?_
      try simp only [Act.put,zsA,zsB,zsC,List.getElem_toArray,List.getElem_cons_zero,List.getElem_cons_succ]
      refine wpAnyH_ready (rs := [5]) (by kernel_rfl) (by simp) ?_
      refine AllReadyH.cons (o := _) rfl (fun K hK => ?_) AllReadyH.nil
      go_simp
      refine (hlow.out _).mono ?_
      rintro e w2 ⟨u2,rfl,hu2,hb2⟩
      obtain ⟨lb,lo,lc,rfl,hlc⟩ := Rd.form_n hu2 hlen2 (by decide)
      have hb2' := Below.drewL hb2
      have cl2 := hlc i xl hxl.out
      clear hlc
      have S2 := And.intro (rangeAt_below hb2' g0) (Bel.cellOf hb2' cn)
      go_wp2_with fail
      refine hK.out _ _ S2 (fun hHeld => ?_)
      clear hK K
      try simp only [Act.put,zsA,zsB,zsC,List.getElem_toArray,List.getElem_cons_zero,List.getElem_cons_succ]
      refine' wpAnyH_take (i := 7) (oi := _) (v := .pointer (some ⟨lb,lo + i,none⟩)) rfl (by kernel_rfl) (by kernel_rfl) (by kernel_rfl) (fun _ _ _ h => h) (Or.inl ⟨by rfl,fun X hX => by go_simp⟩) hHeld ?_
      try simp only [Act.put,zsA,zsB,zsC,List.getElem_toArray,List.getElem_cons_zero,List.getElem_cons_succ]
      refine wpAnyH_ready (rs := [8,10]) (by kernel_rfl) (by simp) ?_
      refine AllReadyH.cons (o := _) rfl (fun K hK => ?_) (AllReadyH.cons (o := _) rfl (fun K hK => ?_) AllReadyH.nil)
      ·skip
       go_simp
       refine hK.out _ _ S2 (fun hHeld => ?_)
       clear hK K
       try simp only [Act.put,zsA,zsB,zsC,List.getElem_toArray,List.getElem_cons_zero,List.getElem_cons_succ]
       refine wpAnyH_ready (rs := [10]) (by kernel_rfl) (by simp) ?_
       refine AllReadyH.cons (o := _) rfl (fun K hK => ?_) AllReadyH.nil
       go_simp
       refine (hhigh.out _).mono ?_
       rintro e w3 ⟨u3,rfl,hu3,hb3⟩
       obtain ⟨qb,qo,qc,rfl,hqc⟩ := Rd.form_n hu3 hlen3 (by decide)
       have ch3 := hqc i xh hxh.out
       clear hqc
       have cl3 := Bel.cellOf hb3 cl2
       have S3 := And.intro (rangeAt_below hb3 S2.1) (Bel.cellOf hb3 S2.2)
       go_wp2_with fail
       refine hK.out _ _ S3 (fun hHeld => ?_)
       clear hK K
       try simp only [Act.put,zsA,zsB,zsC,List.getElem_toArray,List.getElem_cons_zero,List.getElem_cons_succ]
       refine' wpAnyH_take (i := 12) (oi := _) (v := .pointer (some ⟨qb,qo + i,none⟩)) rfl (by kernel_rfl) (by kernel_rfl) (by kernel_rfl) (fun _ _ _ h => h) (Or.inl ⟨by rfl,fun X hX => by go_simp⟩) hHeld ?_
       try simp only [Act.put,zsA,zsB,zsC,List.getElem_toArray,List.getElem_cons_zero,List.getElem_cons_succ]
       refine wpAnyH_ready (rs := [13]) (by kernel_rfl) (by simp) ?_
       refine AllReadyH.cons (o := _) rfl (fun K hK => ?_) AllReadyH.nil
       go_simp
       refine hK.out _ _ S3 (fun hHeld => ?_)
       clear hK K
       try simp only [Act.put,zsA,zsB,zsC,List.getElem_toArray,List.getElem_cons_zero,List.getElem_cons_succ]
       refine wpAnyH_ready (rs := [14]) (by kernel_rfl) (by simp) ?_
       refine AllReadyH.cons (o := _) rfl (fun K hK => ?_) AllReadyH.nil
       go_simp
       refine (rin_any _ _ _ _).mono ?_
       rintro e w4 ⟨rfl,rfl⟩
       go_wp2_with fail
       refine hK.out _ _ S3 (fun hHeld => ?_)
       clear hK K
       try simp only [Act.put,zsA,zsB,zsC,List.getElem_toArray,List.getElem_cons_zero,List.getElem_cons_succ]
       refine' wpAnyH_take (i := 15) (oi := _) (v := .bool (!inB xn xl xh)) rfl (by kernel_rfl) (by kernel_rfl) (by kernel_rfl) (fun _ _ _ h => h) (Or.inl ⟨by rfl,fun X hX => by go_simp⟩) hHeld ?_
       try simp only [Act.put,zsA,zsB,zsC,List.getElem_toArray,List.getElem_cons_zero,List.getElem_cons_succ]
       refine wpAnyH_done (by kernel_rfl) ?_ _
       go_simp
       go_wp2_with fail
       go_meet
       exact ⟨rfl,S3.1,Bel.to hb2' hb3⟩
      ·skip
       go_simp
       refine (hhigh.out _).mono ?_
       rintro e w3 ⟨u3,rfl,hu3,hb3⟩
       obtain ⟨qb,qo,qc,rfl,hqc⟩ := Rd.form_n hu3 hlen3 (by decide)
       have ch3 := hqc i xh hxh.out
       clear hqc
       have cl3 := Bel.cellOf hb3 cl2
       have S3 := And.intro (rangeAt_below hb3 S2.1) (Bel.cellOf hb3 S2.2)
       go_wp2_with fail
       refine hK.out _ _ S3 (fun hHeld => ?_)
       clear hK K
       try simp only [Act.put,zsA,zsB,zsC,List.getElem_toArray,List.getElem_cons_zero,List.getElem_cons_succ]
       refine' wpAnyH_take (i := 12) (oi := _) (v := .pointer (some ⟨qb,qo + i,none⟩)) rfl (by kernel_rfl) (by kernel_rfl) (by kernel_rfl) (fun _ _ _ h => h) (Or.inl ⟨by rfl,fun X hX => by go_simp⟩) hHeld ?_
       try simp only [Act.put,zsA,zsB,zsC,List.getElem_toArray,List.getElem_cons_zero,List.getElem_cons_succ]
       refine wpAnyH_ready (rs := [8,13]) (by kernel_rfl) (by simp) ?_
       refine AllReadyH.cons (o := _) rfl (fun K hK => ?_) (AllReadyH.cons (o := _) rfl (fun K hK => ?_) AllReadyH.nil)
       ·skip
        go_simp
        refine hK.out _ _ S3 (fun hHeld => ?_)
        clear hK K
        try simp only [Act.put,zsA,zsB,zsC,List.getElem_toArray,List.getElem_cons_zero,List.getElem_cons_succ]
        refine wpAnyH_ready (rs := [13]) (by kernel_rfl) (by simp) ?_
        refine AllReadyH.cons (o := _) rfl (fun K hK => ?_) AllReadyH.nil
        go_simp
        refine hK.out _ _ S3 (fun hHeld => ?_)
        clear hK K
        try simp only [Act.put,zsA,zsB,zsC,List.getElem_toArray,List.getElem_cons_zero,List.getElem_cons_succ]
        refine wpAnyH_ready (rs := [14]) (by kernel_rfl) (by simp) ?_
        refine AllReadyH.cons (o := _) rfl (fun K hK => ?_) AllReadyH.nil
        go_simp
        refine (rin_any _ _ _ _).mono ?_
        rintro e w4 ⟨rfl,rfl⟩
        go_wp2_with fail
        refine hK.out _ _ S3 (fun hHeld => ?_)
        clear hK K
        try simp only [Act.put,zsA,zsB,zsC,List.getElem_toArray,List.getElem_cons_zero,List.getElem_cons_succ]
        refine' wpAnyH_take (i := 15) (oi := _) (v := .bool (!inB xn xl xh)) rfl (by kernel_rfl) (by kernel_rfl) (by kernel_rfl) (fun _ _ _ h => h) (Or.inl ⟨by rfl,fun X hX => by go_simp⟩) hHeld ?_
        try simp only [Act.put,zsA,zsB,zsC,List.getElem_toArray,List.getElem_cons_zero,List.getElem_cons_succ]
        refine wpAnyH_done (by kernel_rfl) ?_ _
        go_simp
        go_wp2_with fail
        go_meet
        exact ⟨rfl,S3.1,Bel.to hb2' hb3⟩
       ·skip
        go_simp
        refine hK.out _ _ S3 (fun hHeld => ?_)
        clear hK K
        try simp only [Act.put,zsA,zsB,zsC,List.getElem_toArray,List.getElem_cons_zero,List.getElem_cons_succ]
        refine wpAnyH_ready (rs := [8]) (by kernel_rfl) (by simp) ?_
        refine AllReadyH.cons (o := _) rfl (fun K hK => ?_) AllReadyH.nil
        go_simp
        refine hK.out _ _ S3 (fun hHeld => ?_)
        clear hK K
        try simp only [Act.put,zsA,zsB,zsC,List.getElem_toArray,List.getElem_cons_zero,List.getElem_cons_succ]
        refine wpAnyH_ready (rs := [14]) (by kernel_rfl) (by simp) ?_
        refine AllReadyH.cons (o := _) rfl (fun K hK => ?_) AllReadyH.nil
        go_simp
        refine (rin_any _ _ _ _).mono ?_
        rintro e w4 ⟨rfl,rfl⟩
        go_wp2_with fail
        refine hK.out _ _ S3 (fun hHeld => ?_)
        clear hK K
        try simp only [Act.put,zsA,zsB,zsC,List.getElem_toArray,List.getElem_cons_zero,List.getElem_cons_succ]
        refine' wpAnyH_take (i := 15) (oi := _) (v := .bool (!inB xn xl xh)) rfl (by kernel_rfl) (by kernel_rfl) (by kernel_rfl) (fun _ _ _ h => h) (Or.inl ⟨by rfl,fun X hX => by go_simp⟩) hHeld ?_
        try simp only [Act.put,zsA,zsB,zsC,List.getElem_toArray,List.getElem_cons_zero,List.getElem_cons_succ]
        refine wpAnyH_done (by kernel_rfl) ?_ _
        go_simp
        go_wp2_with fail
        go_meet
        exact ⟨rfl,S3.1,Bel.to hb2' hb3⟩
     case rest =>
      obtain ⟨rfl,g2,hb5⟩ := hcut
      have B5 := Bel.to hbel hb5
      clear g0 cn hbel hb5
      rw [← hoki.out]
      cases hq : OK i with
      | true =>
       have hnext : ∀ j,j < i + 1 → OK j = true := by
        intro j hj
        rcases Nat.lt_succ_iff_lt_or_eq.1 hj with h | rfl
        ·exact hall.out j h
        ·exact hq
       replace hnext := hide hnext
       replace hq := hide hq
       go_wp2
       go_roundg (18 - (i + 1))
       case measure => have := hg.out;omega
       case rel => exact ⟨i + 1,rfl,by have := hlt2.out;omega,by go_num,B5,hnext.out⟩
      | false =>
       have hr2 : r = 2 := game_range hr.out hn hk.out hOK.out hlt2.out hq
       replace hr2 := hide hr2
       replace hq := hide hq
       go_wp2
       go_region_with (first
        | (go_at_call 48;refine (fields_any _).mono ?_;rintro e w9 ⟨u9,ss,rfl,hu9,hl9,hb9⟩;obtain ⟨fb,fo,fc,rfl,hfc⟩ := Rd.form_s hu9 hl9 (by decide);obtain ⟨sx,hsx⟩ : ∃ s,ss[i]? = some s := ⟨_,List.getElem?_eq_getElem (by have := hlt2.out;omega)⟩;have cf := hfc i sx hsx;clear hfc hsx hu9))
       all_goals
        go_wp2
        go_ret2
        rw [hr2.out]
        exact ⟨_,rfl,Bel.to (Bel.to BN B5) (Below.drewL hb9)⟩
    ·have hrest := game_rest hr.out hn hk.out hOK.out (fun j hj => hall.out j (by omega))
     have hbd := mat_bounds hk.out hrest.2
     have hr2 := hide hrest.1
     clear hrest
     have e20 := Bel.cellOf hbel d20
     have q2 := Row.keep q1 hbel
     have B6 := Bel.to BN hbel
     clear d20 q1 hbel
     go_wp2_with fail
     refine (raddons_any _ ms _ (h1.out.below B6)).mono ?_
     rintro e w5 ⟨rfl,hb5⟩
     rw [h2]
     have q3 := Row.keep q2 hb5
     have B7 := Bel.to B6 hb5
     clear q2 e20 hb5 B6
     have hcg := hide (fun X (hX : RdS 6 tierCells X (.slice ta gt.length tc) gt) => rtiers_any ⟨gname,gkind,gprice,gmain,gof,gbonus,gbonusOf,gextra,gdraws,gsystem,gdays,gat,gclose,gcancel,gexpiry,gpool,greserve,ground,gcap,grolls,ga,gt⟩ (.slice aa ms.length ac) _ X hX ⟨_,_,_,rfl⟩ hk.out hbd.1 hbd.2.1 hbd.2.2)
     obtain ⟨cav,hca⟩ : ∃ c,c = addonsE ga := ⟨_,rfl⟩
     obtain ⟨cgv,hcg2⟩ : ∃ c,c = tiersE ⟨gname,gkind,gprice,gmain,gof,gbonus,gbonusOf,gextra,gdraws,gsystem,gdays,gat,gclose,gcancel,gexpiry,gpool,greserve,ground,gcap,grolls,ga,gt⟩ := ⟨_,rfl⟩
     rw [← hcg2] at hcg
     have hr3 : r = if cav ≠ 0 then cav else cgv := by rw [hr2.out,hca,hcg2]
     rw [← hca]
     unfold gameVal at hcg
     (try simp only [] at hcg)
     replace hca := hide hca
     replace hcg2 := hide hcg2
     clear hr2 hbd
     by_cases hc0 : cav = 0
     ·have hr4 : r = cgv := by rw [hr3,if_neg (by simpa using hc0)]
      replace hr4 := hide hr4
      subst hc0
      clear hr3
      go_wp2_with (first | (refine wpList_load_row rfl 25 _ rfl _ rfl _ _ _ _ q3 Tryz.underlying25 rfl (by kernel_rfl) ?_) | fail)
      refine (hcg.out _ (h3.out.below B7)).mono ?_
      rintro e w6 ⟨rfl,hb6⟩
      by_cases hc1 : cgv = 0
      ·replace hr4 : Hid (r = 0) := hide (by rw [hr4.out,hc1])
       subst hc1
       go_wp2
       go_ret2
       rw [hr4.out]
       exact ⟨_,rfl,Bel.to B7 hb6⟩
      ·have hcb : (cgv != 0) = true := by simpa using hc1
       replace hc1 := hide hc1
       go_wp2
       go_ret2
       rw [hr4.out]
       exact ⟨_,rfl,Bel.to B7 hb6⟩
     ·have hr4 : r = cav := by rw [hr3,if_pos hc0]
      replace hr4 := hide hr4
      have hcb : (cav != 0) = true := by simpa using hc0
      replace hc0 := hide hc0
      clear hr3
      go_wp2
      go_ret2
      rw [hr4.out]
      exact ⟨_,rfl,B7⟩
 ·have hr2 : (nameB gname = false ∧ r = 4) ∨ (nameB gname = true ∧ gkind ≠ 1 ∧ gkind ≠ 2 ∧ r = 7) := by
   cases hn : nameB gname with
   | false => left;refine ⟨rfl,?_⟩;rw [hr.out];unfold gameE;simp [hn]
   | true =>
    right
    have hk : gkind ≠ 1 ∧ gkind ≠ 2 := by
     constructor
     ·intro h;exact hfirst ⟨hn,.inl h⟩
     ·intro h;exact hfirst ⟨hn,.inr h⟩
    refine ⟨rfl,hk.1,hk.2,?_⟩
    rw [hr.out];unfold gameE;simp [hn,hk.1,hk.2]
  clear hfirst hr
  rcases hr2 with ⟨hn,hr2⟩ | ⟨hn,k1,k2,hr2⟩
  ·replace hr2 := hide hr2
   go_enter Tryz.func18,Tryz.ntmps18
   go_wp2_with fail
   refine (rname_any _ _).mono ?_
   rintro e w' ⟨rfl,rfl⟩
   rw [hn]
   go_wp2
   go_ret2
   rw [hr2.out]
   exact ⟨_,rfl,Bel.al (Below.refl _ _) _⟩
  ·replace hr2 := hide hr2
   have j1 : (gkind != 1) = true := by simpa using k1
   have j2 : (gkind != 2) = true := by simpa using k2
   replace k1 := hide k1
   replace k2 := hide k2
   go_enter Tryz.func18,Tryz.ntmps18
   go_wp2_with fail
   refine (rname_any _ _).mono ?_
   rintro e w' ⟨rfl,rfl⟩
   rw [hn]
   go_wp2
   go_ret2
   rw [hr2.out]
   exact ⟨_,rfl,Bel.al (Below.refl _ _) _⟩
end Go.Proofs.YtldikghldcefcaaGreat
end
section
set_option linter.unusedVariables false
set_option linter.unusedSimpArgs false
namespace Go.Proofs.YtldikghldcefcaaGreat
open Go.RowKit
theorem rpow_int (x y : Int) (w : World) (hx : 0 ≤ x) (hx2 : x ≤ 10) (hy : 0 ≤ y) (hy2 : y ≤ 10) : Calls Tryz.prog 69 #[.int .i64 x,.int .i64 (2 * y)] w (SomeNat (x.toNat ^ (2 * y.toNat)) w) := by
 have h := rpow_any x.toNat (2 * y.toNat) w (by omega) (by omega)
 rw [show ((x.toNat : Nat) : Int) = x by omega,show (((2 * y.toNat : Nat)) : Int) = 2 * y by omega] at h
 exact h
set_option maxHeartbeats 8000000 in
set_option maxRecDepth 100000 in
theorem rOut_any (g : GameD) (av tv : Value) (ms : List AddonM) (w : World) (rg : GameR w av tv ms g) :
  Calls Tryz.prog 35 #[gameVal g av tv] w (NatC (outV g).1 (outV g).2 w) := by
 have cK := hide (fun X (hX : Below w.heap.size w X) => rcheck_any g av tv ms X (rg.below hX))
 have hf := hide (fun (he : gameE g = 0) => mat_facts (game_mat he))
 have hol := hide (fun (he : gameE g = 0) => outN_limbs he)
 obtain ⟨aa,ac,rfl,hal,ham⟩ := rg.1.1.shape
 obtain ⟨ta,tc,rfl,htl,htm⟩ := rg.2.2.shape
 obtain ⟨an,han⟩ : ∃ an,an = ms.length := ⟨_,rfl⟩
 obtain ⟨tn,htn⟩ : ∃ tn,tn = g.tiers.length := ⟨_,rfl⟩
 rw [← han,← htn] at cK ⊢
 clear rg hal htl ham htm han htn
 obtain ⟨c,hc⟩ : ∃ c,c = gameE g := ⟨_,rfl⟩
 obtain ⟨P,hP⟩ : ∃ P,P = (outV g).1 := ⟨_,rfl⟩
 obtain ⟨C,hC⟩ : ∃ C,C = (outV g).2 := ⟨_,rfl⟩
 have ev1 : Hid (c = 0 → outN g = P ∧ C = 0) := fun h => by rw [hP,hC];unfold outV;rw [← hc,if_pos h];exact ⟨rfl,rfl⟩
 have ev2 : Hid (c ≠ 0 → P = 0 ∧ C = c) := fun h => by rw [hP,hC];unfold outV;rw [← hc,if_neg h];exact ⟨rfl,rfl⟩
 rw [← hc] at cK hf hol
 rw [← hP,← hC]
 clear hP hC hc
 unfold gameVal at cK ⊢
 go_enter Tryz.func35,Tryz.ntmps35
 go_upto_region 1 with (fail)
 obtain ⟨W,hW⟩ : ∃ W,W = (w.alloc (Obj.cells #[.string g.name,.int .i64 g.kind,.int .i64 g.price,.int .i64 g.main,.int .i64 g.of,.int .i64 g.bonus,.int .i64 g.bonusOf,.int .i64 g.extra,.int .i64 g.draws,.int .i64 g.system,.int .i64 g.days,.int .i64 g.at_,.int .i64 g.close,.int .i64 g.cancel,.int .i64 g.expiry,.int .i64 g.pool,.int .i64 g.reserve,.int .i64 g.round,.int .i64 g.cap,.int .i64 g.rolls,(.slice aa an ac),(.slice ta tn tc)] 25)).alloc (Obj.cells #[.slice none 0 0] 30) := ⟨_,rfl⟩
 have bW : Below w.heap.size w W := by rw [hW];exact Bel.al (Bel.al (Below.refl _ _) _) _
 have r0 : GameAt W w.heap.size g (.slice aa an ac) (.slice ta tn tc) := by rw [hW];exact Row.alloc (Row.new _ _ _) _
 have rR : Row W (w.heap.size + 1) 30 [.slice none 0 0] := by rw [hW];exact Row.at2 _ _ _ _
 rw [← hW]
 clear hW
 go_wp2_with (first | (refine wpList_load_row rfl 25 _ rfl _ rfl _ _ _ _ r0 Tryz.underlying25 rfl (by kernel_rfl) ?_) | fail)
 refine (cK.out _ bW).mono ?_
 rintro e w1 ⟨s,rfl,hb1⟩
 have bel := Bel.to bW hb1
 have r1 := r0.keep hb1
 replace rR := Row.keep rR hb1
 clear r0 hb1 cK
 by_cases h0 : c = 0
 ·have hf2 := hf.out h0
  have hol2 := hol.out h0
  obtain ⟨eP,hC0⟩ := ev1.out h0
  subst h0 hC0
  replace eP := hide eP
  clear hf hol ev1 ev2
  have ck := r1.kind
  by_cases hk : g.kind = 2
  ·have eo : g.of.toNat ^ (2 * g.main.toNat) = P := by rw [← eP.out];unfold outN;rw [if_pos hk]
   have cP := hide (fun X => rpow_int g.of g.main X (by omega) (by have := hf2.2.2.2.2.2.2.1 hk;omega) (by omega) (by omega))
   rw [eo] at cP
   have cm := r1.main
   have co := r1.of
   have wm : IntKind.i64.wrap (2 * g.main) = 2 * g.main := by rw [IntKind.wrap_i64];omega
   rw [hk] at ck
   replace hk := hide hk
   clear eo hf2 hol2
   go_wp2_with fail
   refine (cP.out _).mono ?_
   rintro e w2 ⟨u,rfl,hp,hb2⟩
   obtain ⟨pa,pn,pc,rfl⟩ := Rd.shape hp
   replace rR := Row.keep rR hb2
   replace bel := Bel.to bel hb2
   clear hb2 cP r1 ck cm co
   have cR := rR.cell? 0
   have fR := rR.frozen 0
   simp only [List.getElem?_cons_zero] at cR
   have hf := Rd.setNe hp cR (fun _ h => by cases h) (.slice pa pn pc)
   have belf := Bel.st bel (p := ⟨w.heap.size + 1,0,none⟩) (by simp only [];omega) (.slice pa pn pc)
   go_wp2
   exact bodyPost_ret (v := .tuple #[.agg #[(.slice pa pn pc)],.int .i64 0]) (by simp [results,Tryz.results35,go_sem,cR]) rfl ⟨_,rfl,hf,belf⟩
  ·have hk1 : (g.kind == 2) = false := by simpa using hk
   have hPv : Hid (prodL ([chP (g.of,g.main),chP (g.of - g.main,g.extra),chP (g.bonusOf,g.bonus)]) = P) := by show _ = _;rw [← eP.out];unfold outN;rw [if_neg hk]
   have wm : IntKind.i64.wrap (g.of - g.main) = g.of - g.main := by rw [IntKind.wrap_i64];omega
   have hlv : Hid (limS [chZ g.of g.main,chZ (g.of - g.main) g.extra,chZ g.bonusOf g.bonus] ≤ 63) := by
    have h1 := limS_le (l := [chZ g.of g.main,chZ (g.of - g.main) g.extra,chZ g.bonusOf g.bonus]) (c := 3) (fun x hx => by
     simp only [List.mem_cons,List.not_mem_nil,or_false] at hx
     rcases hx with rfl | rfl | rfl
     ·exact chZ_limbs _ _ (by omega)
     ·exact chZ_limbs _ _ (by omega)
     ·exact chZ_limbs _ _ (by omega))
    simp only [List.length_cons,List.length_nil] at h1
    show _ ≤ _
    omega
   have k1 : g.of ≤ 80 := by omega
   have k2 : g.of - g.main ≤ 80 := by omega
   have k3 : g.bonusOf ≤ 80 := by omega
   replace hk := hide hk
   clear hf2 hol2
   go_wp2
   refine till_begin 20 (fun X => GameAt X w.heap.size g (.slice aa an ac) (.slice ta tn tc)) (by kernel_rfl) (r1) (fun hHeld => ?_)
   obtain ⟨Y0,hY0⟩ : ∃ Y,Y = w1.drew := ⟨_,rfl⟩
   have hY1 : Below w1.heap.size w1 Y0 := by rw [hY0];exact Below.drew (Below.refl _ _)
   replace rR := Row.keep rR hY1
   replace bel := Bel.to bel hY1
   rw [← hY0] at hHeld ⊢
   clear hY0 hY1
   refine' till_pure (i := 0) (oi := _) (v := .pointer (some ⟨w.heap.size,4,none⟩)) rfl (by kernel_rfl) (by kernel_rfl) (by kernel_rfl) (by kernel_rfl) (fun _ _ _ h => h) (Or.inl ⟨by first | (go_simp;done) | rfl,fun X _ => by go_simp⟩) hHeld ?_
   try simp only [Act.put,zsA,zsB,zsC]
   refine' till_take (i := 1) (oi := _) (v := .int .i64 g.of) rfl (by kernel_rfl) (by kernel_rfl) (by kernel_rfl) (by kernel_rfl) (fun _ _ _ h => h) (Or.inl ⟨by first | (go_simp;done) | rfl,fun X hX => by have h0 := GameAt.of hX;go_simp⟩) hHeld ?_
   try simp only [Act.put,zsA,zsB,zsC]
   refine' till_pure (i := 2) (oi := _) (v := .pointer (some ⟨w.heap.size,3,none⟩)) rfl (by kernel_rfl) (by kernel_rfl) (by kernel_rfl) (by kernel_rfl) (fun _ _ _ h => h) (Or.inl ⟨by first | (go_simp;done) | rfl,fun X _ => by go_simp⟩) hHeld ?_
   try simp only [Act.put,zsA,zsB,zsC]
   refine' till_take (i := 3) (oi := _) (v := .int .i64 g.main) rfl (by kernel_rfl) (by kernel_rfl) (by kernel_rfl) (by kernel_rfl) (fun _ _ _ h => h) (Or.inl ⟨by first | (go_simp;done) | rfl,fun X hX => by have h0 := GameAt.main hX;go_simp⟩) hHeld ?_
   try simp only [Act.put,zsA,zsB,zsC]
   refine' till_pure (i := 5) (oi := _) (v := .pointer (some ⟨w.heap.size,4,none⟩)) rfl (by kernel_rfl) (by kernel_rfl) (by kernel_rfl) (by kernel_rfl) (fun _ _ _ h => h) (Or.inl ⟨by first | (go_simp;done) | rfl,fun X _ => by go_simp⟩) hHeld ?_
   try simp only [Act.put,zsA,zsB,zsC]
   refine' till_take (i := 6) (oi := _) (v := .int .i64 g.of) rfl (by kernel_rfl) (by kernel_rfl) (by kernel_rfl) (by kernel_rfl) (fun _ _ _ h => h) (Or.inl ⟨by first | (go_simp;done) | rfl,fun X hX => by have h0 := GameAt.of hX;go_simp⟩) hHeld ?_
   try simp only [Act.put,zsA,zsB,zsC]
   refine' till_pure (i := 7) (oi := _) (v := .pointer (some ⟨w.heap.size,3,none⟩)) rfl (by kernel_rfl) (by kernel_rfl) (by kernel_rfl) (by kernel_rfl) (fun _ _ _ h => h) (Or.inl ⟨by first | (go_simp;done) | rfl,fun X _ => by go_simp⟩) hHeld ?_
   try simp only [Act.put,zsA,zsB,zsC]
   refine' till_take (i := 8) (oi := _) (v := .int .i64 g.main) rfl (by kernel_rfl) (by kernel_rfl) (by kernel_rfl) (by kernel_rfl) (fun _ _ _ h => h) (Or.inl ⟨by first | (go_simp;done) | rfl,fun X hX => by have h0 := GameAt.main hX;go_simp⟩) hHeld ?_
   try simp only [Act.put,zsA,zsB,zsC]
   refine' till_pure (i := 9) (oi := _) (v := .int .i64 (g.of - g.main)) rfl (by kernel_rfl) (by kernel_rfl) (by kernel_rfl) (by kernel_rfl) (fun _ _ _ h => h) (Or.inl ⟨by first | (go_simp;done) | rfl,fun X _ => by go_simp⟩) hHeld ?_
   try simp only [Act.put,zsA,zsB,zsC]
   refine' till_pure (i := 10) (oi := _) (v := .pointer (some ⟨w.heap.size,7,none⟩)) rfl (by kernel_rfl) (by kernel_rfl) (by kernel_rfl) (by kernel_rfl) (fun _ _ _ h => h) (Or.inl ⟨by first | (go_simp;done) | rfl,fun X _ => by go_simp⟩) hHeld ?_
   try simp only [Act.put,zsA,zsB,zsC]
   refine' till_take (i := 11) (oi := _) (v := .int .i64 g.extra) rfl (by kernel_rfl) (by kernel_rfl) (by kernel_rfl) (by kernel_rfl) (fun _ _ _ h => h) (Or.inl ⟨by first | (go_simp;done) | rfl,fun X hX => by have h0 := GameAt.extra hX;go_simp⟩) hHeld ?_
   try simp only [Act.put,zsA,zsB,zsC]
   refine' till_pure (i := 13) (oi := _) (v := .pointer (some ⟨w.heap.size,6,none⟩)) rfl (by kernel_rfl) (by kernel_rfl) (by kernel_rfl) (by kernel_rfl) (fun _ _ _ h => h) (Or.inl ⟨by first | (go_simp;done) | rfl,fun X _ => by go_simp⟩) hHeld ?_
   try simp only [Act.put,zsA,zsB,zsC]
   refine' till_take (i := 14) (oi := _) (v := .int .i64 g.bonusOf) rfl (by kernel_rfl) (by kernel_rfl) (by kernel_rfl) (by kernel_rfl) (fun _ _ _ h => h) (Or.inl ⟨by first | (go_simp;done) | rfl,fun X hX => by have h0 := GameAt.bonusOf hX;go_simp⟩) hHeld ?_
   try simp only [Act.put,zsA,zsB,zsC]
   refine' till_pure (i := 15) (oi := _) (v := .pointer (some ⟨w.heap.size,5,none⟩)) rfl (by kernel_rfl) (by kernel_rfl) (by kernel_rfl) (by kernel_rfl) (fun _ _ _ h => h) (Or.inl ⟨by first | (go_simp;done) | rfl,fun X _ => by go_simp⟩) hHeld ?_
   try simp only [Act.put,zsA,zsB,zsC]
   refine' till_take (i := 16) (oi := _) (v := .int .i64 g.bonus) rfl (by kernel_rfl) (by kernel_rfl) (by kernel_rfl) (by kernel_rfl) (fun _ _ _ h => h) (Or.inl ⟨by first | (go_simp;done) | rfl,fun X hX => by have h0 := GameAt.bonus hX;go_simp⟩) hHeld ?_
   try simp only [Act.put,zsA,zsB,zsC]
   refine till_ready (rs := [4]) (by kernel_rfl) (by simp) ?_
   refine TillReady.cons (o := _) rfl (fun K hK => ?_) TillReady.nil
   go_simp
   refine (rochoose_any g.of g.main Y0 (by omega)).mono ?_
   rintro e w21 ⟨f,rfl,h21,hb21⟩
   obtain ⟨a21,l21,c21,rfl⟩ := Rd.shape h21
   replace rR := Row.keep rR hb21
   replace bel := Bel.to bel hb21
   go_wp2_with fail
   refine hK.out _ _ (GameAt.keep hHeld hb21) (fun hHeld => ?_)
   clear hK K hb21
   try simp only [Act.put,zsA,zsB,zsC]
   refine till_ready (rs := [12]) (by kernel_rfl) (by simp) ?_
   refine TillReady.cons (o := _) rfl (fun K hK => ?_) TillReady.nil
   go_simp
   refine (rochoose_any (g.of - g.main) g.extra w21 (by omega)).mono ?_
   rintro e w22 ⟨f,rfl,h22,hb22⟩
   obtain ⟨a22,l22,c22,rfl⟩ := Rd.shape h22
   replace rR := Row.keep rR hb22
   replace bel := Bel.to bel hb22
   replace h21 := Rd.below h21 hb22
   go_wp2_with fail
   refine hK.out _ _ (GameAt.keep hHeld hb22) (fun hHeld => ?_)
   clear hK K hb22
   try simp only [Act.put,zsA,zsB,zsC]
   refine till_ready (rs := [17]) (by kernel_rfl) (by simp) ?_
   refine TillReady.cons (o := _) rfl (fun K hK => ?_) TillReady.nil
   go_simp
   refine (rochoose_any g.bonusOf g.bonus w22 (by omega)).mono ?_
   rintro e w23 ⟨f,rfl,h23,hb23⟩
   obtain ⟨a23,l23,c23,rfl⟩ := Rd.shape h23
   replace rR := Row.keep rR hb23
   replace bel := Bel.to bel hb23
   replace h21 := Rd.below h21 hb23
   replace h22 := Rd.below h22 hb23
   go_wp2_with fail
   refine hK.out _ _ (GameAt.keep hHeld hb23) (fun hHeld => ?_)
   clear hK K hb23
   try simp only [Act.put,zsA,zsB,zsC]
   refine till_ready (rs := [18]) (by kernel_rfl) (by simp) ?_
   refine TillReady.cons (o := _) rfl (fun K hK => ?_) TillReady.nil
   go_simp
   obtain ⟨w24,hw24⟩ : ∃ X,X = w23.alloc (.cells #[.slice a21 l21 c21,.slice a22 l22 c22,.slice a23 l23 c23] 30) := ⟨_,rfl⟩
   have b24 : Below w23.heap.size w23 w24 := by rw [hw24];exact Bel.al (Below.refl _ _) _
   have r24 : Row w24 w23.heap.size 30 ([(.slice a21 l21 c21,chZ g.of g.main),(.slice a22 l22 c22,chZ (g.of - g.main) g.extra),(.slice a23 l23 c23,chZ g.bonusOf g.bonus)].map (fun p : NatM => p.1)) := by rw [hw24];exact Row.newOf _ rfl
   rw [← hw24]
   clear hw24
   replace rR := Row.keep rR b24
   replace bel := Bel.to bel b24
   replace h21 := Rd.below h21 b24
   replace h22 := Rd.below h22 b24
   replace h23 := Rd.below h23 b24
   have hN24 := Row.nats (n := 3) r24 rfl (by decide) (fun p hp => by
    simp only [List.mem_cons,List.not_mem_nil,or_false] at hp
    rcases hp with rfl | rfl | rfl
    ·exact h21
    ·exact h22
    ·exact h23)
   refine hK.out _ _ (GameAt.keep hHeld b24) (fun hHeld => ?_)
   clear hK K b24
   try simp only [Act.put,zsA,zsB,zsC]
   have cPr := hide (rprod_any _ [(.slice a21 l21 c21,chZ g.of g.main),(.slice a22 l22 c22,chZ (g.of - g.main) g.extra),(.slice a23 l23 c23,chZ g.bonusOf g.bonus)] w24 hN24 hlv.out (by simp))
   rw [show prodL ([(.slice a21 l21 c21,chZ g.of g.main),(.slice a22 l22 c22,chZ (g.of - g.main) g.extra),(.slice a23 l23 c23,chZ g.bonusOf g.bonus)].map (fun p : NatM => p.2)) = P from hPv.out] at cPr
   refine till_ready (rs := [19]) (by kernel_rfl) (by simp) ?_
   refine TillReady.cons (o := _) rfl (fun K hK => ?_) TillReady.nil
   go_simp
   refine cPr.out.mono ?_
   rintro e w25 ⟨u,rfl,hp,hb25⟩
   obtain ⟨pa,pn,pc,rfl⟩ := Rd.shape hp
   replace rR := Row.keep rR hb25
   replace bel := Bel.to bel hb25
   go_wp2_with fail
   refine hK.out _ _ (GameAt.keep hHeld hb25) (fun hHeld => ?_)
   clear hK K hb25 cPr hN24 r24 h21 h22 h23
   try simp only [Act.put,zsA,zsB,zsC]
   have cR := rR.cell? 0
   have fR := rR.frozen 0
   simp only [List.getElem?_cons_zero] at cR
   refine till_ready (rs := [20]) (by kernel_rfl) (by simp) ?_
   refine TillReady.last (o := _) rfl (by kernel_rfl) (fun K hK => ?_) TillReady.nil
   go_simp
   refine hK.out _ _ ?_
   clear hK K
   try simp only [Act.put,zsA,zsB,zsC]
   refine' till_late (i := 21) (oi := _) (v := .int .i64 0) rfl (by kernel_rfl) (by kernel_rfl) (Or.inl ⟨by first | (go_simp;done) | rfl,fun X _ => by go_simp⟩) ?_
   try simp only [Act.put,zsA,zsB,zsC]
   refine till_done (by kernel_rfl) ?_ _
   go_simp
   have hf := Rd.setNe hp cR (fun _ h => by cases h) (.slice pa pn pc)
   have belf := Bel.st bel (p := ⟨w.heap.size + 1,0,none⟩) (by simp only [];omega) (.slice pa pn pc)
   go_wp2
   exact bodyPost_ret (v := .tuple #[.agg #[(.slice pa pn pc)],.int .i64 0]) (by simp [results,Tryz.results35,go_sem,cR]) rfl ⟨_,rfl,hf,belf⟩
 ·obtain ⟨rfl,rfl⟩ := ev2.out h0
  have hcb : (C != 0) = true := by simpa using h0
  have hp : NV w1 (.slice none 0 0) 0 := NV.zero _
  replace h0 := hide h0
  clear ev1 ev2 hf hol
  have cR := rR.cell? 0
  have fR := rR.frozen 0
  simp only [List.getElem?_cons_zero] at cR
  have hf := Rd.setNe hp cR (fun _ h => by cases h) (.slice none 0 0)
  have belf := Bel.st bel (p := ⟨w.heap.size + 1,0,none⟩) (by simp only [];omega) (.slice none 0 0)
  go_wp2
  exact bodyPost_ret (v := .tuple #[.agg #[(.slice none 0 0)],.int .i64 C]) (by simp [results,Tryz.results35,go_sem,cR]) rfl ⟨_,rfl,hf,belf⟩
end Go.Proofs.YtldikghldcefcaaGreat
end

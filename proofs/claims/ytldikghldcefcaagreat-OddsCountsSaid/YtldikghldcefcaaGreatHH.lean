/- Lemmas, merged out of smaller texts (wip/tools/mergedce.py). No condition. -/
import Derived.Test.YtldikghldcefcaaGreatHG
import Derived.Test.YtldikghldcefcaaGreatHF
import Derived.Test.YtldikghldcefcaaGreatHE
section
open Go.RowKit
set_option linter.unusedVariables false
set_option linter.unusedSimpArgs false
namespace Go.Proofs.YtldikghldcefcaaGreat
def FracC (p q : Nat) (c : Int) (w : World) (e : Ending) (w' : World) : Prop := ∃ u v,e = .returned (.tuple #[.agg #[u,v],.int .i64 c]) ∧ NV w' u p ∧ NV w' v q ∧ Below w.heap.size w w'
set_option maxHeartbeats 16000000 in
set_option maxRecDepth 100000 in
theorem make_ok (va vb : Value) (m n : Nat) (w : World) (ha : NV w va m) (hb : NV w vb n) (hm : (limbs m).length ≤ 64) (hn : (limbs n).length ≤ 64) (h0 : 0 < n) :
  Calls Tryz.prog 34 #[.agg #[va],.agg #[vb]] w (FracC (m / Nat.gcd m n) (n / Nat.gcd m n) 0 w) := by
 have hg0 : 0 < Nat.gcd m n := Nat.gcd_pos_of_pos_right m h0
 have hgl : (limbs (Nat.gcd m n)).length ≤ 64 := by
  have h1 := limbs_len_le (Nat.gcd_le_right m h0)
  omega
 have hbl : (0 : Nat) < (limbs n).length := by rw [limbs_pos (by omega)];simp
 have hlb := hide (fun (ab : Option Addr) (lb cb : Nat) (X : World) (h : NV X (.slice ab lb cb) n) => (Rd.len_eq h : lb = _))
 obtain ⟨aa,la,ca,rfl⟩ := Rd.shape ha
 obtain ⟨ab,lb,cb,rfl⟩ := Rd.shape hb
 have rA0 : ∀ o o',Row (((w.alloc (.cells #[.slice aa la ca] 30)).alloc o).alloc o') w.heap.size 30 [.slice aa la ca] := fun o o' => ((Row.newOf 30 rfl).alloc o).alloc o'
 have rB0 : ∀ o o',Row (((w.alloc o).alloc (.cells #[.slice ab lb cb] 30)).alloc o') (w.heap.size + 1) 30 [.slice ab lb cb] := fun o o' => by
  have h := (Row.new (w.alloc o) 30 [.slice ab lb cb]).alloc o'
  simpa using h
 have rR0 : ∀ o o',Row (((w.alloc o).alloc o').alloc (.cells #[.slice none 0 0,.slice none 0 0] 35)) (w.heap.size + 2) 35 [.slice none 0 0,.slice none 0 0] := fun o o' => by
  have h := Row.new ((w.alloc o).alloc o') 35 [.slice none 0 0,.slice none 0 0]
  simpa using h
 go_enter Tryz.func34,Tryz.ntmps34
 have lb0 : 0 < lb := by rw [hlb.out ab lb cb w hb];exact hbl
 have lbi : ¬ (lb : Int) = 0 := by omega
 clear hlb hbl
 go_wp2_with fail
 refine (valid _ m _ (Rd.alloc (Rd.alloc (Rd.alloc ha _) _) _) hm).mono ?_
 rintro e w1 ⟨rfl,hb1⟩
 have rA := Row.keep (rA0 _ _) hb1
 have rB := Row.keep (rB0 _ _) hb1
 have rR := Row.keep (rR0 _ _) hb1
 have hbw := Bel.three _ _ _ hb1
 have hz : w.heap.size + 2 < w1.heap.size := by have := hb1.size;simp at this;omega
 clear rA0 rB0 rR0 hb1
 have crA := rA.cell? 0
 simp only [List.getElem?_cons_zero] at crA
 have crB := rB.cell? 0
 simp only [List.getElem?_cons_zero] at crB
 go_wp2_with fail
 refine (valid _ n _ (Rd.below hb hbw) hn).mono ?_
 rintro e w2 ⟨rfl,hb2⟩
 clear crA crB
 replace rA := Row.keep rA hb2
 replace rB := Row.keep rB hb2
 replace rR := Row.keep rR hb2
 replace hbw := Bel.to hbw hb2
 replace ha := Rd.below ha hbw
 replace hb := Rd.below hb hbw
 clear hb2 hz
 have crA := rA.cell? 0
 simp only [List.getElem?_cons_zero] at crA
 have crB := rB.cell? 0
 simp only [List.getElem?_cons_zero] at crB
 go_wp2_with fail
 refine (gcd_any _ _ m n _ ha hb hm hn).mono ?_
 rintro e w3 ⟨u,rfl,hu,hb3⟩
 obtain ⟨gu,gl,gc,rfl⟩ := Rd.shape hu
 clear crA crB
 replace rA := Row.keep rA hb3
 replace rB := Row.keep rB hb3
 replace rR := Row.keep rR hb3
 replace ha := Rd.below ha hb3
 replace hb := Rd.below hb hb3
 replace hbw := Bel.to hbw hb3
 go_upto_region 6 with (fail)
 obtain ⟨w4,hw4⟩ : ∃ X,X = w3.alloc (.cells #[.slice gu gl gc] 30) := ⟨_,rfl⟩
 have bw4 : Below w3.heap.size w3 w4 := by rw [hw4];exact Bel.al (Below.refl _ _) _
 have rG : Row w4 w3.heap.size 30 [.slice gu gl gc] := by rw [hw4];exact Row.newOf _ rfl
 rw [← hw4]
 clear hw4
 replace rA := Row.keep rA bw4
 replace rB := Row.keep rB bw4
 replace rR := Row.keep rR bw4
 replace ha := Rd.below ha bw4
 replace hb := Rd.below hb bw4
 replace hu := Rd.below hu bw4
 replace hbw := Bel.to hbw bw4
 clear bw4 hb3
 have crA := rA.cell? 0
 simp only [List.getElem?_cons_zero] at crA
 have crB := rB.cell? 0
 simp only [List.getElem?_cons_zero] at crB
 have crG := rG.cell? 0
 simp only [List.getElem?_cons_zero] at crG
 go_wp2_with fail
 refine (divmod_any _ _ m (Nat.gcd m n) _ ha hu hm hgl hg0).mono ?_
 rintro e w5 ⟨q,r,rfl,hq,hr,hb5⟩
 obtain ⟨qu,ql,qc,rfl⟩ := Rd.shape hq
 obtain ⟨ru,rl,rc,rfl⟩ := Rd.shape hr
 clear crA crB crG
 replace rA := Row.keep rA hb5
 replace rB := Row.keep rB hb5
 replace rR := Row.keep rR hb5
 replace rG := Row.keep rG hb5
 replace hb := Rd.below hb hb5
 replace hu := Rd.below hu hb5
 replace hbw := Bel.to hbw hb5
 go_upto_region 9 with (fail)
 obtain ⟨w6,hw6⟩ : ∃ X,X = (w5.alloc (.cells #[.slice qu ql qc] 30)).alloc (.cells #[.slice ru rl rc] 30) := ⟨_,rfl⟩
 have bw6 : Below w5.heap.size w5 w6 := by rw [hw6];exact Bel.al (Bel.al (Below.refl _ _) _) _
 have rQ : Row w6 w5.heap.size 30 [.slice qu ql qc] := by rw [hw6];exact (Row.newOf _ rfl).alloc _
 rw [← hw6]
 clear hw6
 replace rA := Row.keep rA bw6
 replace rB := Row.keep rB bw6
 replace rR := Row.keep rR bw6
 replace rG := Row.keep rG bw6
 replace hb := Rd.below hb bw6
 replace hu := Rd.below hu bw6
 replace hq := Rd.below hq bw6
 replace hbw := Bel.to hbw bw6
 clear bw6 hb5 hr ha
 have crB := rB.cell? 0
 simp only [List.getElem?_cons_zero] at crB
 have crG := rG.cell? 0
 simp only [List.getElem?_cons_zero] at crG
 go_wp2_with fail
 refine (divmod_any _ _ n (Nat.gcd m n) _ hb hu hn hgl hg0).mono ?_
 rintro e w7 ⟨p,r2,rfl,hp,hr2,hb7⟩
 obtain ⟨pu,pl,pc,rfl⟩ := Rd.shape hp
 obtain ⟨su,sl,sc,rfl⟩ := Rd.shape hr2
 clear crB crG
 replace rR := Row.keep rR hb7
 replace rQ := Row.keep rQ hb7
 replace hq := Rd.below hq hb7
 replace hbw := Bel.to hbw hb7
 go_upto_region 12 with (fail)
 obtain ⟨w8,hw8⟩ : ∃ X,X = (w7.alloc (.cells #[.slice pu pl pc] 30)).alloc (.cells #[.slice su sl sc] 30) := ⟨_,rfl⟩
 have bw8 : Below w7.heap.size w7 w8 := by rw [hw8];exact Bel.al (Bel.al (Below.refl _ _) _) _
 have rP : Row w8 w7.heap.size 30 [.slice pu pl pc] := by rw [hw8];exact (Row.newOf _ rfl).alloc _
 rw [← hw8]
 clear hw8
 replace rR := Row.keep rR bw8
 replace rQ := Row.keep rQ bw8
 replace hq := Rd.below hq bw8
 replace hp := Rd.below hp bw8
 replace hbw := Bel.to hbw bw8
 clear bw8 hb7 hr2 hb hu rA rB rG
 have crQ := rQ.cell? 0
 simp only [List.getElem?_cons_zero] at crQ
 have crP := rP.cell? 0
 simp only [List.getElem?_cons_zero] at crP
 have cR0 := rR.cell? 0
 have cR1 := rR.cell? 1
 simp only [List.getElem?_cons_zero,List.getElem?_cons_succ] at cR0 cR1
 have fR0 := rR.frozen 0
 have fR1 := rR.frozen 1
 have hq2 := (Rd.setNe hq cR0 (fun _ h => by cases h) (.slice qu ql qc))
 have c1' := (rR.set 0 (.slice qu ql qc)).cell? 1
 simp only [zsB,List.getElem?_cons_zero,List.getElem?_cons_succ] at c1'
 have hq3 := hq2.setNe c1' (fun _ h => by cases h) (.slice pu pl pc)
 have hp3 := (Rd.setNe hp cR0 (fun _ h => by cases h) (.slice qu ql qc)).setNe c1' (fun _ h => by cases h) (.slice pu pl pc)
 have bel := Bel.st (Bel.st hbw (p := ⟨w.heap.size + 2,0,none⟩) (by simp only [];omega) (.slice qu ql qc)) (p := ⟨w.heap.size + 2,1,none⟩) (by simp only [];omega) (.slice pu pl pc)
 have rF := (rR.set 0 (.slice qu ql qc)).set 1 (.slice pu pl pc)
 simp only [zsB,zsC] at rF
 have cF0 := rF.cell? 0
 have cF1 := rF.cell? 1
 simp only [List.getElem?_cons_zero,List.getElem?_cons_succ] at cF0 cF1
 clear hq hp hq2 c1' rQ rP hbw
 go_wp2
 refine bodyPost_ret (v := .tuple #[.agg #[.slice qu ql qc,.slice pu pl pc],.int .i64 0]) (by simp [results,Tryz.results34,go_sem,cF0,cF1]) rfl ⟨_,_,rfl,hq3,hp3,bel⟩
end Go.Proofs.YtldikghldcefcaaGreat
end
section
set_option linter.unusedVariables false
set_option linter.unusedSimpArgs false
namespace Go.Proofs.YtldikghldcefcaaGreat
open Go.RowKit
theorem chZ_pos {n k : Int} (h0 : 0 ≤ k) (h1 : k ≤ n) : 0 < chZ n k := by
 unfold chZ
 rw [if_neg (by omega)]
 unfold chooseI
 rw [if_neg (by omega)]
 exact choose_pos (by omega)
theorem mat_sum {g : GameD} (h : matB g = true) (hk : g.kind ≠ 2) : g.main + g.extra ≤ g.of := by
 unfold matB at h
 simp only [Bool.and_eq_true] at h
 obtain ⟨⟨⟨_,h6⟩,_⟩,_⟩ := h
 rw [if_neg hk,Bool.and_eq_true] at h6
 exact of_decide_eq_true h6.2
theorem outN_pos {g : GameD} (he : gameE g = 0) : 0 < outN g := by
 have h := mat_facts (game_mat he)
 unfold outN
 by_cases hk : g.kind = 2
 ·rw [if_pos hk]
  exact Nat.pow_pos (by have := h.2.2.2.2.2.2.1 hk;omega)
 ·have h2 := choF he hk
  have h3 := mat_sum (game_mat he) hk
  have h4 := h2.m1
  have h5 := h2.o1
  have h6 := h2.b1
  have h7 := h2.p1
  have h8 := h2.e1
  rw [if_neg hk]
  simp only [prodL,chP,Nat.mul_one]
  exact Nat.mul_pos (chZ_pos (by omega) (by omega)) (Nat.mul_pos (chZ_pos (by omega) (by omega)) (chZ_pos (by omega) (by omega)))
theorem outN_limbs {g : GameD} (he : gameE g = 0) : (limbs (outN g)).length ≤ 60 := by
 have h := mat_facts (game_mat he)
 unfold outN
 by_cases hk : g.kind = 2
 ·rw [if_pos hk,← prodL_replicate]
  have h1 := limS_prod (List.replicate (2 * g.main.toNat) g.of.toNat)
  have h2 := limS_le (l := List.replicate (2 * g.main.toNat) g.of.toNat) (c := 1) (fun x hx => by
   rw [(List.mem_replicate.1 hx).2]
   exact length_limbs_lt.1 (by rw [Nat.pow_one];have := h.2.2.2.2.2.1;omega))
  rw [List.length_replicate] at h2
  have := h.2.1
  omega
 ·rw [if_neg hk]
  have h1 := limS_prod [chP (g.of,g.main),chP (g.of - g.main,g.extra),chP (g.bonusOf,g.bonus)]
  have h2 := limS_le (l := [chP (g.of,g.main),chP (g.of - g.main,g.extra),chP (g.bonusOf,g.bonus)]) (c := 3) (fun x hx => by
   simp only [List.mem_cons,List.not_mem_nil,or_false] at hx
   have h2 := choF he hk
   have h4 := h2.m1
   have h5 := h2.o2
   have h6 := h2.p2
   rcases hx with rfl | rfl | rfl
   ·exact chZ_limbs _ _ (by simp only [];omega)
   ·exact chZ_limbs _ _ (by simp only [];omega)
   ·exact chZ_limbs _ _ (by simp only [];omega))
  simp only [List.length_cons,List.length_nil] at h2
  omega
def WinO (g : GameD) (V : Int → Nat) (t : Int) : Nat × Int := if gameE g ≠ 0 then (0,gameE g) else if t < 0 ∨ (g.tiers.length : Int) ≤ t then (0,2) else (V t,0)
set_option maxHeartbeats 4000000 in
set_option maxRecDepth 100000 in
theorem oWin_any (g : GameD) (av tv : Value) (ms : List AddonM) (V : Int → Nat) (t : Int) (w : World) (rg : GameR w av tv ms g) (P : Nat) (C : Int) (hPC : WinO g V t = (P,C))
  (hW : gameE g = 0 → ∀ (t : Int) (X : World),0 ≤ t → t < g.tiers.length → GameR X av tv ms g → Calls Tryz.prog 30 #[gameVal g av tv,.int .i64 t] X (NatC (V t) 0 X)) :
  Calls Tryz.prog 8 #[gameVal g av tv,.int .i64 t] w (NatC P C w) := by
 have cK := hide (fun X (hX : Below w.heap.size w X) => gcheck_any g av tv ms X (rg.below hX))
 have cO := hide (fun X (hX : Below w.heap.size w X) he h0 h1 => hW he t X h0 h1 (rg.below hX))
 clear hW
 obtain ⟨aa,ac,rfl,hal,ham⟩ := rg.1.1.shape
 obtain ⟨ta,tc,rfl,htl,htm⟩ := rg.2.2.shape
 obtain ⟨an,han⟩ : ∃ an,an = ms.length := ⟨_,rfl⟩
 obtain ⟨tn,htn⟩ : ∃ tn,tn = g.tiers.length := ⟨_,rfl⟩
 rw [← han,← htn] at cK cO ⊢
 unfold WinO at hPC
 rw [← htn] at hPC
 clear rg hal htl ham htm han htn
 obtain ⟨c,hc⟩ : ∃ c,c = gameE g := ⟨_,rfl⟩
 rw [← hc] at cK cO hPC
 replace hPC := hide hPC
 clear hc
 unfold gameVal at cK cO ⊢
 go_enter Tryz.func8,Tryz.ntmps8
 go_upto_region 1 with (fail)
 obtain ⟨W,hW⟩ : ∃ W,W = (w.alloc (Obj.cells #[.string g.name,.int .i64 g.kind,.int .i64 g.price,.int .i64 g.main,.int .i64 g.of,.int .i64 g.bonus,.int .i64 g.bonusOf,.int .i64 g.extra,.int .i64 g.draws,.int .i64 g.system,.int .i64 g.days,.int .i64 g.at_,.int .i64 g.close,.int .i64 g.cancel,.int .i64 g.expiry,.int .i64 g.pool,.int .i64 g.reserve,.int .i64 g.round,.int .i64 g.cap,.int .i64 g.rolls,(.slice aa an ac),(.slice ta tn tc)] 25)).alloc (Obj.cells #[.slice none 0 0] 30) := ⟨_,rfl⟩
 have bW : Below w.heap.size w W := by rw [hW];exact Bel.al (Bel.al (Below.refl _ _) _) _
 have r0 : GameAt W w.heap.size g (.slice aa an ac) (.slice ta tn tc) := by rw [hW];exact Row.alloc (Row.new _ _ _) _
 have rR : Row W (w.heap.size + 1) 30 [.slice none 0 0] := by rw [hW];exact Row.at2 _ _ _ _
 rw [← hW]
 clear hW
 go_wp2_with (first | (refine wpList_load_row rfl 25 _ rfl _ rfl _ _ _ _ r0 Tryz.underlying25 rfl (by kernel_rfl) ?_) | fail)
 refine (cK.out _ bW).mono ?_
 rintro e w1 ⟨s,rfl,hb1⟩
 have bel := Bel.to bW hb1
 have r1 := r0.keep hb1
 replace rR := Row.keep rR hb1
 have ct := r1.tiers
 clear r0 hb1 cK
 by_cases h0 : c = 0
 ·subst h0
  by_cases h1 : t < 0
  ·have hp := hPC.out
   rw [if_neg (by omega),if_pos (.inl h1)] at hp
   injection hp with hp1 hp2
   subst hp1 hp2
   have hp : NV w1 (.slice none 0 0) 0 := NV.zero _
   clear cO hPC
   have cR := rR.cell? 0
   have fR := rR.frozen 0
   simp only [List.getElem?_cons_zero] at cR
   have hf := Rd.setNe hp cR (fun _ h => by cases h) (.slice none 0 0)
   have belf := Bel.st bel (p := ⟨w.heap.size + 1,0,none⟩) (by simp only [];omega) (.slice none 0 0)
   go_wp2
   exact bodyPost_ret (v := .tuple #[.agg #[(.slice none 0 0)],.int .i64 2]) (by simp [results,Tryz.results8,go_sem,cR]) rfl ⟨_,rfl,hf,belf⟩
  ·by_cases h2 : (tn : Int) ≤ t
   ·have hp := hPC.out
    rw [if_neg (by omega),if_pos (.inr h2)] at hp
    injection hp with hp1 hp2
    subst hp1 hp2
    have hp : NV w1 (.slice none 0 0) 0 := NV.zero _
    clear cO hPC
    have cR := rR.cell? 0
    have fR := rR.frozen 0
    simp only [List.getElem?_cons_zero] at cR
    have hf := Rd.setNe hp cR (fun _ h => by cases h) (.slice none 0 0)
    have belf := Bel.st bel (p := ⟨w.heap.size + 1,0,none⟩) (by simp only [];omega) (.slice none 0 0)
    go_wp2
    exact bodyPost_ret (v := .tuple #[.agg #[(.slice none 0 0)],.int .i64 2]) (by simp [results,Tryz.results8,go_sem,cR]) rfl ⟨_,rfl,hf,belf⟩
   ·have hp := hPC.out
    rw [if_neg (by omega),if_neg (by omega)] at hp
    injection hp with hp1 hp2
    have cO2 := hide (cO.out w1 bel rfl (by omega) (by omega))
    rw [hp1] at cO2
    subst hp2
    clear cO hPC hp1
    go_wp2_with (first | (refine wpList_load_row rfl 25 _ rfl _ rfl _ _ _ _ r1 Tryz.underlying25 rfl (by kernel_rfl) ?_) | fail)
    refine cO2.out.mono ?_
    rintro e w2 ⟨u,rfl,hp,hb2⟩
    obtain ⟨pa,pn,pc,rfl⟩ := Rd.shape hp
    replace rR := Row.keep rR hb2
    replace bel := Bel.to bel hb2
    clear hb2 cO2 r1 ct
    have cR := rR.cell? 0
    have fR := rR.frozen 0
    simp only [List.getElem?_cons_zero] at cR
    have hf := Rd.setNe hp cR (fun _ h => by cases h) (.slice pa pn pc)
    have belf := Bel.st bel (p := ⟨w.heap.size + 1,0,none⟩) (by simp only [];omega) (.slice pa pn pc)
    go_wp2
    exact bodyPost_ret (v := .tuple #[.agg #[(.slice pa pn pc)],.int .i64 0]) (by simp [results,Tryz.results8,go_sem,cR]) rfl ⟨_,rfl,hf,belf⟩
 ·have hp := hPC.out
  rw [if_pos h0] at hp
  injection hp with hp1 hp2
  subst hp1 hp2
  have hcb : (c != 0) = true := by simpa using h0
  have hp : NV w1 (.slice none 0 0) 0 := NV.zero _
  replace h0 := hide h0
  clear cO hPC
  have cR := rR.cell? 0
  have fR := rR.frozen 0
  simp only [List.getElem?_cons_zero] at cR
  have hf := Rd.setNe hp cR (fun _ h => by cases h) (.slice none 0 0)
  have belf := Bel.st bel (p := ⟨w.heap.size + 1,0,none⟩) (by simp only [];omega) (.slice none 0 0)
  go_wp2
  exact bodyPost_ret (v := .tuple #[.agg #[(.slice none 0 0)],.int .i64 c]) (by simp [results,Tryz.results8,go_sem,cR]) rfl ⟨_,rfl,hf,belf⟩
set_option maxHeartbeats 4000000 in
set_option maxRecDepth 100000 in
theorem oChance_any (g : GameD) (av tv : Value) (ms : List AddonM) (V : Int → Nat) (t : Int) (w : World) (rg : GameR w av tv ms g) (P : Nat) (C : Int) (hPC : WinO g V t = (P,C)) (hV : C = 0 → (limbs P).length ≤ 64)
  (hW : gameE g = 0 → ∀ (t : Int) (X : World),0 ≤ t → t < g.tiers.length → GameR X av tv ms g → Calls Tryz.prog 30 #[gameVal g av tv,.int .i64 t] X (NatC (V t) 0 X)) :
  Calls Tryz.prog 10 #[gameVal g av tv,.int .i64 t] w (FracC (if C = 0 then P / Nat.gcd P (outN g) else 0) (if C = 0 then outN g / Nat.gcd P (outN g) else 0) C w) := by
 have cK := hide (fun X (hX : Below w.heap.size w X) => oWin_any g av tv ms V t X (rg.below hX) P C hPC (fun he t' Y a b c => hW he t' Y a b c))
 have hee : Hid (C = 0 → gameE g = 0) := by
  intro h
  apply Classical.byContradiction
  intro hne
  unfold WinO at hPC
  rw [if_pos hne] at hPC
  injection hPC with _ h2
  omega
 have cO := hide (fun X (hX : Below w.heap.size w X) (he : C = 0) => oout_any g av tv ms X (rg.below hX) (hee.out he))
 have hop := hide (fun (he : C = 0) => outN_pos (hee.out he))
 have hol := hide (fun (he : C = 0) => Nat.le_trans (outN_limbs (hee.out he)) (show 60 ≤ 64 by omega))
 obtain ⟨N,hN⟩ : ∃ N,N = outN g := ⟨_,rfl⟩
 rw [← hN] at cO hop hol ⊢
 replace hV := hide hV
 clear hW hN hPC
 obtain ⟨aa,ac,rfl,hal,ham⟩ := rg.1.1.shape
 obtain ⟨ta,tc,rfl,htl,htm⟩ := rg.2.2.shape
 obtain ⟨an,han⟩ : ∃ an,an = ms.length := ⟨_,rfl⟩
 obtain ⟨tn,htn⟩ : ∃ tn,tn = g.tiers.length := ⟨_,rfl⟩
 rw [← han,← htn] at cK cO ⊢
 clear rg hal htl ham htm han htn hee
 obtain ⟨Q1,hQ1⟩ : ∃ Q,Q = if C = 0 then P / Nat.gcd P N else 0 := ⟨_,rfl⟩
 obtain ⟨Q2,hQ2⟩ : ∃ Q,Q = if C = 0 then N / Nat.gcd P N else 0 := ⟨_,rfl⟩
 rw [← hQ1,← hQ2]
 replace hQ1 := hide hQ1
 replace hQ2 := hide hQ2
 unfold gameVal at cK cO ⊢
 go_enter Tryz.func10,Tryz.ntmps10
 go_upto_region 1 with (fail)
 obtain ⟨W,hW0⟩ : ∃ W,W = (w.alloc (Obj.cells #[.string g.name,.int .i64 g.kind,.int .i64 g.price,.int .i64 g.main,.int .i64 g.of,.int .i64 g.bonus,.int .i64 g.bonusOf,.int .i64 g.extra,.int .i64 g.draws,.int .i64 g.system,.int .i64 g.days,.int .i64 g.at_,.int .i64 g.close,.int .i64 g.cancel,.int .i64 g.expiry,.int .i64 g.pool,.int .i64 g.reserve,.int .i64 g.round,.int .i64 g.cap,.int .i64 g.rolls,(.slice aa an ac),(.slice ta tn tc)] 25)).alloc (Obj.cells #[.slice none 0 0,.slice none 0 0] 35) := ⟨_,rfl⟩
 have bW : Below w.heap.size w W := by rw [hW0];exact Bel.al (Bel.al (Below.refl _ _) _) _
 have r0 : GameAt W w.heap.size g (.slice aa an ac) (.slice ta tn tc) := by rw [hW0];exact Row.alloc (Row.new _ _ _) _
 have rR : Row W (w.heap.size + 1) 35 [.slice none 0 0,.slice none 0 0] := by rw [hW0];exact Row.at2 _ _ _ _
 rw [← hW0]
 clear hW0
 go_wp2_with (first | (refine wpList_load_row rfl 25 _ rfl _ rfl _ _ _ _ r0 Tryz.underlying25 rfl (by kernel_rfl) ?_) | fail)
 refine (cK.out _ bW).mono ?_
 rintro e w1 ⟨u,rfl,hu,hb1⟩
 obtain ⟨ua,ul,uc,rfl⟩ := Rd.shape hu
 have bel := Bel.to bW hb1
 have r1 := r0.keep hb1
 replace rR := Row.keep rR hb1
 clear r0 hb1 cK
 go_upto_region 2 with (fail)
 obtain ⟨w2,hw2⟩ : ∃ X,X = w1.alloc (.cells #[.slice ua ul uc] 30) := ⟨_,rfl⟩
 have b2 : Below w1.heap.size w1 w2 := by rw [hw2];exact Bel.al (Below.refl _ _) _
 have r6 : Row w2 w1.heap.size 30 [.slice ua ul uc] := by rw [hw2];exact Row.newOf _ rfl
 rw [← hw2]
 clear hw2
 replace bel := Bel.to bel b2
 replace r1 := r1.keep b2
 replace rR := Row.keep rR b2
 replace hu := Rd.below hu b2
 clear b2
 by_cases h0 : C = 0
 ·have e1 := hQ1.out
  have e2 := hQ2.out
  rw [if_pos h0] at e1 e2
  have hP64 := hV.out h0
  have cO2 := hide (cO.out w2 bel h0)
  have hN0 := hop.out h0
  have hN64 := hol.out h0
  subst h0
  replace e1 := hide e1
  replace e2 := hide e2
  clear cO hop hol hQ1 hQ2 hV
  go_wp2_with (first | (refine wpList_load_row rfl 25 _ rfl _ rfl _ _ _ _ r1 Tryz.underlying25 rfl (by kernel_rfl) ?_) | fail)
  refine cO2.out.mono ?_
  rintro e w3 ⟨v,rfl,hv,hb3⟩
  obtain ⟨va,vl,vc,rfl⟩ := Rd.shape hv
  replace bel := Bel.to bel hb3
  replace rR := Row.keep rR hb3
  replace r6 := Row.keep r6 hb3
  replace hu := Rd.below hu hb3
  clear hb3 cO2 r1
  go_upto_region 5 with (fail)
  obtain ⟨w4,hw4⟩ : ∃ X,X = w3.alloc (.cells #[.slice va vl vc] 30) := ⟨_,rfl⟩
  have b4 : Below w3.heap.size w3 w4 := by rw [hw4];exact Bel.al (Below.refl _ _) _
  have r8 : Row w4 w3.heap.size 30 [.slice va vl vc] := by rw [hw4];exact Row.newOf _ rfl
  rw [← hw4]
  clear hw4
  replace bel := Bel.to bel b4
  replace rR := Row.keep rR b4
  replace r6 := Row.keep r6 b4
  replace hu := Rd.below hu b4
  replace hv := Rd.below hv b4
  have c6 := r6.cell? 0
  have c8 := r8.cell? 0
  simp only [List.getElem?_cons_zero] at c6 c8
  have cM := hide (make_ok _ _ P N w4 hu hv hP64 hN64 hN0)
  rw [← e1.out,← e2.out] at cM
  clear b4 e1 e2
  go_wp2_with fail
  refine cM.out.mono ?_
  rintro e wE ⟨q,p,rfl,hq,hp,hb5⟩
  obtain ⟨qu,ql,qc,rfl⟩ := Rd.shape hq
  obtain ⟨pu,pl,pc,rfl⟩ := Rd.shape hp
  replace bel := Bel.to bel hb5
  replace rR := Row.keep rR hb5
  clear hb5 cM r6 r8 c6 c8 hu hv
  have cR0 := rR.cell? 0
  have cR1 := rR.cell? 1
  simp only [List.getElem?_cons_zero,List.getElem?_cons_succ] at cR0 cR1
  have fR0 := rR.frozen 0
  have fR1 := rR.frozen 1
  have c1' := (rR.set 0 (.slice qu ql qc)).cell? 1
  simp only [zsB,List.getElem?_cons_zero,List.getElem?_cons_succ] at c1'
  have hq3 := (Rd.setNe hq cR0 (fun _ h => by cases h) (.slice qu ql qc)).setNe c1' (fun _ h => by cases h) (.slice pu pl pc)
  have hp3 := (Rd.setNe hp cR0 (fun _ h => by cases h) (.slice qu ql qc)).setNe c1' (fun _ h => by cases h) (.slice pu pl pc)
  have belf := Bel.st (Bel.st bel (p := ⟨w.heap.size + 1,0,none⟩) (by simp only [];omega) (.slice qu ql qc)) (p := ⟨w.heap.size + 1,1,none⟩) (by simp only [];omega) (.slice pu pl pc)
  have rF := (rR.set 0 (.slice qu ql qc)).set 1 (.slice pu pl pc)
  simp only [zsB,zsC] at rF
  have cF0 := rF.cell? 0
  have cF1 := rF.cell? 1
  simp only [List.getElem?_cons_zero,List.getElem?_cons_succ] at cF0 cF1
  clear hq hp c1' rF
  go_wp2
  exact bodyPost_ret (v := .tuple #[.agg #[(.slice qu ql qc),(.slice pu pl pc)],.int .i64 0]) (by simp [results,Tryz.results10,go_sem,cF0,cF1]) rfl ⟨_,_,rfl,hq3,hp3,belf⟩
 ·have e1 := hQ1.out
  have e2 := hQ2.out
  rw [if_neg h0] at e1 e2
  subst e1 e2
  have hcb : (C != 0) = true := by simpa using h0
  replace h0 := hide h0
  obtain ⟨wE,hwE⟩ : ∃ X,X = w2 := ⟨_,rfl⟩
  rw [← hwE] at bel rR ⊢
  clear cO hop hol hQ1 hQ2 hV hu r6 r1 hwE
  have hq : NV wE (.slice none 0 0) 0 := NV.zero _
  have hp : NV wE (.slice none 0 0) 0 := NV.zero _
  have cR0 := rR.cell? 0
  have cR1 := rR.cell? 1
  simp only [List.getElem?_cons_zero,List.getElem?_cons_succ] at cR0 cR1
  have fR0 := rR.frozen 0
  have fR1 := rR.frozen 1
  have c1' := (rR.set 0 (.slice none 0 0)).cell? 1
  simp only [zsB,List.getElem?_cons_zero,List.getElem?_cons_succ] at c1'
  have hq3 := (Rd.setNe hq cR0 (fun _ h => by cases h) (.slice none 0 0)).setNe c1' (fun _ h => by cases h) (.slice none 0 0)
  have hp3 := (Rd.setNe hp cR0 (fun _ h => by cases h) (.slice none 0 0)).setNe c1' (fun _ h => by cases h) (.slice none 0 0)
  have belf := Bel.st (Bel.st bel (p := ⟨w.heap.size + 1,0,none⟩) (by simp only [];omega) (.slice none 0 0)) (p := ⟨w.heap.size + 1,1,none⟩) (by simp only [];omega) (.slice none 0 0)
  have rF := (rR.set 0 (.slice none 0 0)).set 1 (.slice none 0 0)
  simp only [zsB,zsC] at rF
  have cF0 := rF.cell? 0
  have cF1 := rF.cell? 1
  simp only [List.getElem?_cons_zero,List.getElem?_cons_succ] at cF0 cF1
  clear hq hp c1' rF
  go_wp2
  exact bodyPost_ret (v := .tuple #[.agg #[(.slice none 0 0),(.slice none 0 0)],.int .i64 C]) (by simp [results,Tryz.results10,go_sem,cF0,cF1]) rfl ⟨_,_,rfl,hq3,hp3,belf⟩
set_option maxHeartbeats 8000000 in
set_option maxRecDepth 100000 in
theorem oAny_any (g : GameD) (av tv : Value) (ms : List AddonM) (V : Int → Nat) (w : World) (rg : GameR w av tv ms g) (hS : gameE g = 0 → (limbs (sumTo (fun i => V (i : Int)) g.tiers.length)).length ≤ 64)
  (hW : gameE g = 0 → ∀ (t : Int) (X : World),0 ≤ t → t < g.tiers.length → GameR X av tv ms g → Calls Tryz.prog 30 #[gameVal g av tv,.int .i64 t] X (NatC (V t) 0 X)) :
  Calls Tryz.prog 14 #[gameVal g av tv] w (FracC (if gameE g = 0 then (sumTo (fun i => V (i : Int)) g.tiers.length) / Nat.gcd (sumTo (fun i => V (i : Int)) g.tiers.length) (outN g) else 0) (if gameE g = 0 then outN g / Nat.gcd (sumTo (fun i => V (i : Int)) g.tiers.length) (outN g) else 0) (gameE g) w) := by
 have cK := hide (fun X (hX : Below w.heap.size w X) => oOut_any g av tv ms X (rg.below hX))
 have cO := hide (fun (t : Int) X (hX : Below w.heap.size w X) he h0 h1 => hW he t X h0 h1 (rg.below hX))
 have hop := hide (fun (he : gameE g = 0) => outN_pos he)
 have hol := hide (fun (he : gameE g = 0) => Nat.le_trans (outN_limbs he) (show 60 ≤ 64 by omega))
 have hol2 := hide (fun (he : gameE g = 0) => outN_limbs he)
 have hT := hide rg.2.2
 have htb : g.tiers.length ≤ 9223372036854775807 := by
  obtain ⟨_,c,_,h1,h2,_⟩ := hT.out
  unfold maxLen at h2
  omega
 clear hW
 obtain ⟨aa,ac,rfl,hal,ham⟩ := rg.1.1.shape
 obtain ⟨ta,tc,rfl,htl,htm⟩ := rg.2.2.shape
 obtain ⟨an,han⟩ : ∃ an,an = ms.length := ⟨_,rfl⟩
 obtain ⟨tn,htn⟩ : ∃ tn,tn = g.tiers.length := ⟨_,rfl⟩
 rw [← han,← htn] at cK cO ⊢
 rw [← htn] at hT htb hS
 have htbi : (tn : Int) ≤ 9223372036854775807 := by omega
 have htnh := hide htn
 clear rg hal htl ham htm han htn
 obtain ⟨S,hSd⟩ : ∃ S,S = sumTo (fun i => V (i : Int)) tn := ⟨_,rfl⟩
 rw [← hSd] at hS ⊢
 obtain ⟨c,hc⟩ : ∃ c,c = gameE g := ⟨_,rfl⟩
 obtain ⟨N,hN⟩ : ∃ N,N = outN g := ⟨_,rfl⟩
 have hK1 : Hid (c = 0 → outV g = (N,0)) := fun h => by show _ = _;unfold outV;rw [← hc,if_pos h,hN]
 have hK2 : Hid (c ≠ 0 → outV g = (0,c)) := fun h => by show _ = _;unfold outV;rw [← hc,if_neg h]
 rw [← hc,← hN]
 rw [← hc] at cO hop hol hol2 hS
 rw [← hN] at hop hol hol2
 replace hS := hide hS
 obtain ⟨Q1,hQ1⟩ : ∃ Q,Q = if c = 0 then S / Nat.gcd S N else 0 := ⟨_,rfl⟩
 obtain ⟨Q2,hQ2⟩ : ∃ Q,Q = if c = 0 then N / Nat.gcd S N else 0 := ⟨_,rfl⟩
 rw [← hQ1,← hQ2]
 replace hQ1 := hide hQ1
 replace hQ2 := hide hQ2
 replace hSd := hide hSd
 clear hc hN
 unfold gameVal at cK cO ⊢
 go_enter Tryz.func14,Tryz.ntmps14
 go_upto_region 1 with (fail)
 obtain ⟨W,hW0⟩ : ∃ W,W = (w.alloc (Obj.cells #[.string g.name,.int .i64 g.kind,.int .i64 g.price,.int .i64 g.main,.int .i64 g.of,.int .i64 g.bonus,.int .i64 g.bonusOf,.int .i64 g.extra,.int .i64 g.draws,.int .i64 g.system,.int .i64 g.days,.int .i64 g.at_,.int .i64 g.close,.int .i64 g.cancel,.int .i64 g.expiry,.int .i64 g.pool,.int .i64 g.reserve,.int .i64 g.round,.int .i64 g.cap,.int .i64 g.rolls,(.slice aa an ac),(.slice ta tn tc)] 25)).alloc (Obj.cells #[.slice none 0 0,.slice none 0 0] 35) := ⟨_,rfl⟩
 have bW : Below w.heap.size w W := by rw [hW0];exact Bel.al (Bel.al (Below.refl _ _) _) _
 have r0 : GameAt W w.heap.size g (.slice aa an ac) (.slice ta tn tc) := by rw [hW0];exact Row.alloc (Row.new _ _ _) _
 have rR : Row W (w.heap.size + 1) 35 [.slice none 0 0,.slice none 0 0] := by rw [hW0];exact Row.at2 _ _ _ _
 rw [← hW0]
 clear hW0
 obtain ⟨D0,hD0⟩ : ∃ D,D = (outV g).1 := ⟨_,rfl⟩
 obtain ⟨E0,hE0⟩ : ∃ E,E = (outV g).2 := ⟨_,rfl⟩
 have cK2 := hide (cK.out W bW)
 rw [← hD0,← hE0] at cK2
 replace hD0 := hide hD0
 replace hE0 := hide hE0
 clear cK
 go_wp2_with (first | (refine wpList_load_row rfl 25 _ rfl _ rfl _ _ _ _ r0 Tryz.underlying25 rfl (by kernel_rfl) ?_) | fail)
 refine cK2.out.mono ?_
 rintro e w1 ⟨u,rfl,hd,hb1⟩
 obtain ⟨da,dl,dc,rfl⟩ := Rd.shape hd
 have bel := Bel.to bW hb1
 have r1 := r0.keep hb1
 replace rR := Row.keep rR hb1
 have rR1lt := rR.lt
 clear r0 hb1 cK2
 go_upto_region 2 with (fail)
 obtain ⟨w2,hw2⟩ : ∃ X,X = w1.alloc (.cells #[.slice da dl dc] 30) := ⟨_,rfl⟩
 have bw2 : Below w1.heap.size w1 w2 := by rw [hw2];exact Bel.al (Below.refl _ _) _
 have r4 : Row w2 w1.heap.size 30 [.slice da dl dc] := by rw [hw2];exact Row.newOf _ rfl
 rw [← hw2]
 clear hw2
 replace bel := Bel.to bel bw2
 replace r1 := r1.keep bw2
 replace rR := Row.keep rR bw2
 replace hd := Rd.below hd bw2
 clear bw2
 by_cases h0 : c = 0
 rotate_left
 ·have e1 := hQ1.out
  have e2 := hQ2.out
  rw [if_neg h0] at e1 e2
  subst e1 e2
  have e3 := hK2.out h0
  have hD1 := hD0.out
  have hE1 := hE0.out
  rw [e3] at hD1 hE1
  simp only [] at hD1 hE1
  subst hD1 hE1
  clear hD0 hE0
  have hcb : (E0 != 0) = true := by simpa using h0
  replace h0 := hide h0
  obtain ⟨wE,hwE⟩ : ∃ X,X = w2 := ⟨_,rfl⟩
  rw [← hwE] at bel rR ⊢
  clear cO hop hol hol2 hQ1 hQ2 hS hd r4 r1 hwE e3 hK1 hK2 rR1lt
  have hq : NV wE (.slice none 0 0) 0 := NV.zero _
  have hp : NV wE (.slice none 0 0) 0 := NV.zero _
  have cR0 := rR.cell? 0
  have cR1 := rR.cell? 1
  simp only [List.getElem?_cons_zero,List.getElem?_cons_succ] at cR0 cR1
  have fR0 := rR.frozen 0
  have fR1 := rR.frozen 1
  have c1' := (rR.set 0 (.slice none 0 0)).cell? 1
  simp only [zsB,List.getElem?_cons_zero,List.getElem?_cons_succ] at c1'
  have hq3 := (Rd.setNe hq cR0 (fun _ h => by cases h) (.slice none 0 0)).setNe c1' (fun _ h => by cases h) (.slice none 0 0)
  have hp3 := (Rd.setNe hp cR0 (fun _ h => by cases h) (.slice none 0 0)).setNe c1' (fun _ h => by cases h) (.slice none 0 0)
  have belf := Bel.st (Bel.st bel (p := ⟨w.heap.size + 1,0,none⟩) (by simp only [];omega) (.slice none 0 0)) (p := ⟨w.heap.size + 1,1,none⟩) (by simp only [];omega) (.slice none 0 0)
  have rF := (rR.set 0 (.slice none 0 0)).set 1 (.slice none 0 0)
  simp only [zsB,zsC] at rF
  have cF0 := rF.cell? 0
  have cF1 := rF.cell? 1
  simp only [List.getElem?_cons_zero,List.getElem?_cons_succ] at cF0 cF1
  clear hq hp c1' rF
  go_wp2
  exact bodyPost_ret (v := .tuple #[.agg #[(.slice none 0 0),(.slice none 0 0)],.int .i64 E0]) (by simp [results,Tryz.results14,go_sem,cF0,cF1]) rfl ⟨_,_,rfl,hq3,hp3,belf⟩
 have e3 := hK1.out h0
 have hD1 := hD0.out
 have hE1 := hE0.out
 rw [e3] at hD1 hE1
 simp only [] at hD1 hE1
 clear hD0 hE0
 subst hE1
 rw [hD1] at hd
 clear hD1
 have e1 := hQ1.out
 have e2 := hQ2.out
 rw [if_pos h0] at e1 e2
 have hN0 := hop.out h0
 have hN64 := hol.out h0
 have hN60 := hol2.out h0
 have hSl := hide (hS.out h0)
 have cO2 := hide (fun (t : Int) X (hX : Below w.heap.size w X) h1 h2 => cO.out t X hX h0 h1 h2)
 subst h0
 replace e1 := hide e1
 replace e2 := hide e2
 replace hN0 := hide hN0
 replace hN64 := hide hN64
 replace hN60 := hide hN60
 clear cO hop hol hol2 hQ1 hQ2 hS e3 hK1 hK2
 go_upto_region 5 with (fail)
 obtain ⟨b4,hb4⟩ : ∃ b,b = w1.heap.size := ⟨_,rfl⟩
 obtain ⟨b6,hb6⟩ : ∃ b,b = w2.heap.size := ⟨_,rfl⟩
 have r4lt := r4.lt
 have rRlt := rR.lt
 obtain ⟨w3,hw3⟩ : ∃ X,X = w2.alloc (.cells #[.slice none 0 0] 30) := ⟨_,rfl⟩
 have bw3 : Below w2.heap.size w2 w3 := by rw [hw3];exact Bel.al (Below.refl _ _) _
 have r6 : Row w3 w2.heap.size 30 [.slice none 0 0] := by rw [hw3];exact Row.newOf _ rfl
 rw [← hw3]
 clear hw3
 replace bel := Bel.to bel bw3
 replace r1 := r1.keep bw3
 replace rR := Row.keep rR bw3
 replace hd := Rd.below hd bw3
 replace r4 := Row.keep r4 bw3
 clear bw3
 rw [← hb4] at r4 ⊢
 rw [← hb6] at r6 ⊢
 have h4r : w.heap.size + 1 < b4 := by omega
 have h46 : b4 < b6 := by omega
 clear hb4 hb6 r4lt rRlt rR1lt
 have ct := r1.tiers
 go_wp2
 go_loopg [23] tn (fun gh ti wr => ∃ (i s : Nat) (sa : Option Addr) (sn sc : Nat),gh = tn - i ∧ i ≤ tn ∧ ti = .int .i64 (i : Int) ∧ Hid (s = sumTo (fun i => V (i : Int)) i) ∧ Row wr b6 30 [.slice sa sn sc] ∧ NV wr (.slice sa sn sc) s ∧ Row wr b4 30 [.slice da dl dc] ∧ NV wr (.slice da dl dc) N ∧ Row wr (w.heap.size + 1) 35 [.slice none 0 0,.slice none 0 0] ∧ GameAt wr w.heap.size g (.slice aa an ac) (.slice ta tn tc) ∧ Below w.heap.size w wr)
 case atStart => exact ⟨0,0,none,0,0,rfl,Nat.zero_le _,rfl,rfl,r6,NV.zero _,r4,hd,rR,r1,bel⟩
 case round =>
  clear r6 r4 hd rR r1 bel ct
  obtain ⟨i,s,sa,sn,sc,hgi,hi,rfl,hs,r6,hsv,r4,hd,rR,r1,bel⟩ := hrel
  replace hgi := hide hgi
  by_cases hlt : i < tn
  ·have hlt2 := hide hlt
   have ii : (i : Int) < (tn : Int) := by omega
   have cO3 := hide (cO2.out (i : Int) wr bel (by omega) (by have := htnh.out;omega))
   obtain ⟨y,hy⟩ : ∃ y,y = V (i : Int) := ⟨_,rfl⟩
   rw [← hy] at cO3
   have hs2 : Hid (s + y = sumTo (fun i => V (i : Int)) (i + 1)) := by show _ = _;rw [sumTo,hs.out,hy]
   have hsy : s + y ≤ S := by rw [hs2.out,hSd.out];exact sumTo_mono hlt
   have hl1 : (limbs (s + y)).length ≤ 64 := by have := limbs_len_le hsy;have := hSl.out;omega
   have hl2 : (limbs s).length ≤ 64 := by have := limbs_len_le (Nat.le_trans (Nat.le_add_right s y) hsy);have := hSl.out;omega
   have hl3 : (limbs y).length ≤ 64 := by have := limbs_len_le (Nat.le_trans (Nat.le_add_left y s) hsy);have := hSl.out;omega
   clear hy hs hsy
   go_wp2_with (first | (refine wpList_load_row rfl 25 _ rfl _ rfl _ _ _ _ r1 Tryz.underlying25 rfl (by kernel_rfl) ?_) | fail)
   refine cO3.out.mono ?_
   rintro e w5 ⟨u,rfl,hu,hb5⟩
   obtain ⟨ua,ul,uc,rfl⟩ := Rd.shape hu
   replace r6 := Row.keep r6 hb5
   replace hsv := Rd.below hsv hb5
   replace r4 := Row.keep r4 hb5
   replace hd := Rd.below hd hb5
   replace rR := Row.keep rR hb5
   replace r1 := r1.keep hb5
   replace bel := Bel.to bel hb5
   clear hb5 cO3
   go_upto_region 9 with (fail)
   obtain ⟨w6,hw6⟩ : ∃ X,X = w5.alloc (.cells #[.slice ua ul uc] 30) := ⟨_,rfl⟩
   have bw6 : Below w5.heap.size w5 w6 := by rw [hw6];exact Bel.al (Below.refl _ _) _
   have r8 : Row w6 w5.heap.size 30 [.slice ua ul uc] := by rw [hw6];exact Row.newOf _ rfl
   rw [← hw6]
   clear hw6
   replace r6 := Row.keep r6 bw6
   replace hsv := Rd.below hsv bw6
   replace r4 := Row.keep r4 bw6
   replace hd := Rd.below hd bw6
   replace rR := Row.keep rR bw6
   replace r1 := r1.keep bw6
   replace bel := Bel.to bel bw6
   replace hu := Rd.below hu bw6
   clear bw6
   have c6 := r6.cell? 0
   have c8 := r8.cell? 0
   simp only [List.getElem?_cons_zero] at c6 c8
   go_wp2_with fail
   refine (add_any _ _ s y _ hsv hu hl2 hl3).mono ?_
   rintro e w7 ⟨v,c,rfl,hc,hv,hb7⟩
   have hc0 := hc.out
   rw [if_pos hl1] at hc0 hv
   subst hc0
   obtain ⟨va,vl,vc,rfl⟩ := Rd.shape hv
   replace r6 := Row.keep r6 hb7
   replace r4 := Row.keep r4 hb7
   replace hd := Rd.below hd hb7
   replace rR := Row.keep rR hb7
   replace r1 := r1.keep hb7
   replace bel := Bel.to bel hb7
   clear hb7 hc hu hsv r8 c8 c6
   have c6 := r6.cell? 0
   have f6 := r6.frozen 0
   simp only [List.getElem?_cons_zero] at c6
   have hv2 := Rd.setNe hv c6 (fun _ h => by cases h) (.slice va vl vc)
   have hd2 := Rd.setNe hd c6 (fun _ h => by cases h) (.slice va vl vc)
   have r62 := Row.set r6 0 (.slice va vl vc)
   simp only [zsB] at r62
   have rR2 := Row.far rR (p := ⟨b6,0,none⟩) (by simp only [];omega) (.slice va vl vc)
   have r42 := Row.far r4 (p := ⟨b6,0,none⟩) (by simp only [];omega) (.slice va vl vc)
   have r12 : GameAt _ w.heap.size g (.slice aa an ac) _ := Row.far r1 (p := ⟨b6,0,none⟩) (by simp only [];omega) (.slice va vl vc)
   have bel2 := Bel.st bel (p := ⟨b6,0,none⟩) (by simp only [];omega) (.slice va vl vc)
   clear hv hd hl1 hl2 hl3
   go_wp2
   go_roundg (tn - (i + 1))
   case measure => have := hgi.out;have := hlt2.out;omega
   case rel => exact ⟨i + 1,s + y,va,vl,vc,rfl,by have := hlt2.out;omega,by go_num,hs2,r62,hv2,r42,hd2,rR2,r12,bel2⟩
  ·obtain rfl : i = tn := by omega
   have c6 := r6.cell? 0
   have c4 := r4.cell? 0
   simp only [List.getElem?_cons_zero] at c6 c4
   have hsS : s = S := by rw [hs.out,hSd.out]
   rw [hsS] at hsv
   have cM := hide (make_ok _ _ S N wr hsv hd hSl.out hN64.out hN0.out)
   rw [← e1.out,← e2.out] at cM
   clear e1 e2 hsS hs
   go_wp2_with fail
   refine cM.out.mono ?_
   rintro e wE ⟨q,p,rfl,hq,hp,hb5⟩
   obtain ⟨qu,ql,qc,rfl⟩ := Rd.shape hq
   obtain ⟨pu,pl,pc,rfl⟩ := Rd.shape hp
   replace bel := Bel.to bel hb5
   replace rR := Row.keep rR hb5
   clear hb5 cM r6 r4 c6 c4 hsv hd r1
   have cR0 := rR.cell? 0
   have cR1 := rR.cell? 1
   simp only [List.getElem?_cons_zero,List.getElem?_cons_succ] at cR0 cR1
   have fR0 := rR.frozen 0
   have fR1 := rR.frozen 1
   have c1' := (rR.set 0 (.slice qu ql qc)).cell? 1
   simp only [zsB,List.getElem?_cons_zero,List.getElem?_cons_succ] at c1'
   have hq3 := (Rd.setNe hq cR0 (fun _ h => by cases h) (.slice qu ql qc)).setNe c1' (fun _ h => by cases h) (.slice pu pl pc)
   have hp3 := (Rd.setNe hp cR0 (fun _ h => by cases h) (.slice qu ql qc)).setNe c1' (fun _ h => by cases h) (.slice pu pl pc)
   have belf := Bel.st (Bel.st bel (p := ⟨w.heap.size + 1,0,none⟩) (by simp only [];omega) (.slice qu ql qc)) (p := ⟨w.heap.size + 1,1,none⟩) (by simp only [];omega) (.slice pu pl pc)
   have rF := (rR.set 0 (.slice qu ql qc)).set 1 (.slice pu pl pc)
   simp only [zsB,zsC] at rF
   have cF0 := rF.cell? 0
   have cF1 := rF.cell? 1
   simp only [List.getElem?_cons_zero,List.getElem?_cons_succ] at cF0 cF1
   clear hq hp c1' rF
   go_wp2
   exact bodyPost_ret (v := .tuple #[.agg #[(.slice qu ql qc),(.slice pu pl pc)],.int .i64 0]) (by simp [results,Tryz.results14,go_sem,cF0,cF1]) rfl ⟨_,_,rfl,hq3,hp3,belf⟩
def payT (g : GameD) (V : Int → Nat) (i : Nat) : Nat := match g.tiers[i]? with
 | some t => if t.kind = 1 then V (i : Int) * t.value.toNat else 0
 | none => 0
theorem limbs_two {n : Nat} (h : n ≤ 9223372036854775807) : (limbs n).length ≤ 2 := by
 have e : (4294967296 : Nat) ^ 2 = 18446744073709551616 := by decide
 exact length_limbs_lt.1 (by omega)
theorem price_ok {g : GameD} (he : gameE g = 0) : 1 ≤ g.price ∧ g.price ≤ 1000000 := by
 have h := game_mat he
 unfold matB at h
 simp only [Bool.and_eq_true] at h
 obtain ⟨⟨⟨⟨⟨⟨⟨h1,_⟩,_⟩,_⟩,_⟩,_⟩,_⟩,_⟩ := h
 have := inB_iff.1 h1
 omega
set_option maxHeartbeats 8000000 in
set_option maxRecDepth 100000 in
theorem oPay_any (g : GameD) (av tv : Value) (ms : List AddonM) (V : Int → Nat) (w : World) (rg : GameR w av tv ms g) (hS : gameE g = 0 → (limbs (sumTo (payT g V) g.tiers.length)).length ≤ 64) (hV : gameE g = 0 → ∀ i : Nat,i < g.tiers.length → (limbs (V (i : Int))).length ≤ 60) (hval : gameE g = 0 → ∀ t ∈ g.tiers,t.value ≤ 9223372036854775807)
  (hW : gameE g = 0 → ∀ (t : Int) (X : World),0 ≤ t → t < g.tiers.length → GameR X av tv ms g → Calls Tryz.prog 30 #[gameVal g av tv,.int .i64 t] X (NatC (V t) 0 X)) :
  Calls Tryz.prog 16 #[gameVal g av tv] w (FracC (if gameE g = 0 then (sumTo (payT g V) g.tiers.length) / Nat.gcd (sumTo (payT g V) g.tiers.length) (outN g * g.price.toNat) else 0) (if gameE g = 0 then (outN g * g.price.toNat) / Nat.gcd (sumTo (payT g V) g.tiers.length) (outN g * g.price.toNat) else 0) (gameE g) w) := by
 have cK := hide (fun X (hX : Below w.heap.size w X) => oOut_any g av tv ms X (rg.below hX))
 have cO := hide (fun (t : Int) X (hX : Below w.heap.size w X) he h0 h1 => hW he t X h0 h1 (rg.below hX))
 have hop := hide (fun (he : gameE g = 0) => outN_pos he)
 have hol := hide (fun (he : gameE g = 0) => Nat.le_trans (outN_limbs he) (show 60 ≤ 64 by omega))
 have hol2 := hide (fun (he : gameE g = 0) => outN_limbs he)
 have hpr := hide (fun (he : gameE g = 0) => price_ok he)
 have hT := hide rg.2.2
 have htb : g.tiers.length ≤ 9223372036854775807 := by
  obtain ⟨_,c,_,h1,h2,_⟩ := hT.out
  unfold maxLen at h2
  omega
 clear hW
 obtain ⟨aa,ac,rfl,hal,ham⟩ := rg.1.1.shape
 obtain ⟨ta,tc,rfl,htl,htm⟩ := rg.2.2.shape
 obtain ⟨an,han⟩ : ∃ an,an = ms.length := ⟨_,rfl⟩
 obtain ⟨tn,htn⟩ : ∃ tn,tn = g.tiers.length := ⟨_,rfl⟩
 rw [← han,← htn] at cK cO ⊢
 rw [← htn] at hT htb hS hV
 have htbi : (tn : Int) ≤ 9223372036854775807 := by omega
 have htnh := hide htn
 clear rg hal htl ham htm han htn
 obtain ⟨S,hSd⟩ : ∃ S,S = sumTo (payT g V) tn := ⟨_,rfl⟩
 rw [← hSd] at hS ⊢
 obtain ⟨c,hc⟩ : ∃ c,c = gameE g := ⟨_,rfl⟩
 obtain ⟨N,hN⟩ : ∃ N,N = outN g := ⟨_,rfl⟩
 have hK1 : Hid (c = 0 → outV g = (N,0)) := fun h => by show _ = _;unfold outV;rw [← hc,if_pos h,hN]
 have hK2 : Hid (c ≠ 0 → outV g = (0,c)) := fun h => by show _ = _;unfold outV;rw [← hc,if_neg h]
 rw [← hc,← hN]
 rw [← hc] at cO hop hol hol2 hS hV hval hpr
 rw [← hN] at hop hol hol2
 replace hS := hide hS
 replace hV := hide hV
 replace hval := hide hval
 obtain ⟨Q1,hQ1⟩ : ∃ Q,Q = if c = 0 then S / Nat.gcd S (N * g.price.toNat) else 0 := ⟨_,rfl⟩
 obtain ⟨Q2,hQ2⟩ : ∃ Q,Q = if c = 0 then (N * g.price.toNat) / Nat.gcd S (N * g.price.toNat) else 0 := ⟨_,rfl⟩
 rw [← hQ1,← hQ2]
 replace hQ1 := hide hQ1
 replace hQ2 := hide hQ2
 replace hSd := hide hSd
 clear hc hN
 unfold gameVal at cK cO ⊢
 go_enter Tryz.func16,Tryz.ntmps16
 go_upto_region 1 with (fail)
 obtain ⟨W,hW0⟩ : ∃ W,W = (w.alloc (Obj.cells #[.string g.name,.int .i64 g.kind,.int .i64 g.price,.int .i64 g.main,.int .i64 g.of,.int .i64 g.bonus,.int .i64 g.bonusOf,.int .i64 g.extra,.int .i64 g.draws,.int .i64 g.system,.int .i64 g.days,.int .i64 g.at_,.int .i64 g.close,.int .i64 g.cancel,.int .i64 g.expiry,.int .i64 g.pool,.int .i64 g.reserve,.int .i64 g.round,.int .i64 g.cap,.int .i64 g.rolls,(.slice aa an ac),(.slice ta tn tc)] 25)).alloc (Obj.cells #[.slice none 0 0,.slice none 0 0] 35) := ⟨_,rfl⟩
 have bW : Below w.heap.size w W := by rw [hW0];exact Bel.al (Bel.al (Below.refl _ _) _) _
 have r0 : GameAt W w.heap.size g (.slice aa an ac) (.slice ta tn tc) := by rw [hW0];exact Row.alloc (Row.new _ _ _) _
 have rR : Row W (w.heap.size + 1) 35 [.slice none 0 0,.slice none 0 0] := by rw [hW0];exact Row.at2 _ _ _ _
 rw [← hW0]
 clear hW0
 obtain ⟨D0,hD0⟩ : ∃ D,D = (outV g).1 := ⟨_,rfl⟩
 obtain ⟨E0,hE0⟩ : ∃ E,E = (outV g).2 := ⟨_,rfl⟩
 have cK2 := hide (cK.out W bW)
 rw [← hD0,← hE0] at cK2
 replace hD0 := hide hD0
 replace hE0 := hide hE0
 clear cK
 go_wp2_with (first | (refine wpList_load_row rfl 25 _ rfl _ rfl _ _ _ _ r0 Tryz.underlying25 rfl (by kernel_rfl) ?_) | fail)
 refine cK2.out.mono ?_
 rintro e w1 ⟨u,rfl,hd,hb1⟩
 obtain ⟨da,dl,dc,rfl⟩ := Rd.shape hd
 have bel := Bel.to bW hb1
 have r1 := r0.keep hb1
 replace rR := Row.keep rR hb1
 have rR1lt := rR.lt
 clear r0 hb1 cK2
 go_upto_region 2 with (fail)
 obtain ⟨w2,hw2⟩ : ∃ X,X = w1.alloc (.cells #[.slice da dl dc] 30) := ⟨_,rfl⟩
 have bw2 : Below w1.heap.size w1 w2 := by rw [hw2];exact Bel.al (Below.refl _ _) _
 have r4 : Row w2 w1.heap.size 30 [.slice da dl dc] := by rw [hw2];exact Row.newOf _ rfl
 rw [← hw2]
 clear hw2
 replace bel := Bel.to bel bw2
 replace r1 := r1.keep bw2
 replace rR := Row.keep rR bw2
 replace hd := Rd.below hd bw2
 clear bw2
 by_cases h0 : c = 0
 rotate_left
 ·have e1 := hQ1.out
  have e2 := hQ2.out
  rw [if_neg h0] at e1 e2
  subst e1 e2
  have e3 := hK2.out h0
  have hD1 := hD0.out
  have hE1 := hE0.out
  rw [e3] at hD1 hE1
  simp only [] at hD1 hE1
  subst hD1 hE1
  clear hD0 hE0
  have hcb : (E0 != 0) = true := by simpa using h0
  replace h0 := hide h0
  obtain ⟨wE,hwE⟩ : ∃ X,X = w2 := ⟨_,rfl⟩
  rw [← hwE] at bel rR ⊢
  clear cO hop hol hol2 hQ1 hQ2 hS hd r4 r1 hwE e3 hK1 hK2 rR1lt
  have hq : NV wE (.slice none 0 0) 0 := NV.zero _
  have hp : NV wE (.slice none 0 0) 0 := NV.zero _
  have cR0 := rR.cell? 0
  have cR1 := rR.cell? 1
  simp only [List.getElem?_cons_zero,List.getElem?_cons_succ] at cR0 cR1
  have fR0 := rR.frozen 0
  have fR1 := rR.frozen 1
  have c1' := (rR.set 0 (.slice none 0 0)).cell? 1
  simp only [zsB,List.getElem?_cons_zero,List.getElem?_cons_succ] at c1'
  have hq3 := (Rd.setNe hq cR0 (fun _ h => by cases h) (.slice none 0 0)).setNe c1' (fun _ h => by cases h) (.slice none 0 0)
  have hp3 := (Rd.setNe hp cR0 (fun _ h => by cases h) (.slice none 0 0)).setNe c1' (fun _ h => by cases h) (.slice none 0 0)
  have belf := Bel.st (Bel.st bel (p := ⟨w.heap.size + 1,0,none⟩) (by simp only [];omega) (.slice none 0 0)) (p := ⟨w.heap.size + 1,1,none⟩) (by simp only [];omega) (.slice none 0 0)
  have rF := (rR.set 0 (.slice none 0 0)).set 1 (.slice none 0 0)
  simp only [zsB,zsC] at rF
  have cF0 := rF.cell? 0
  have cF1 := rF.cell? 1
  simp only [List.getElem?_cons_zero,List.getElem?_cons_succ] at cF0 cF1
  clear hq hp c1' rF
  go_wp2
  exact bodyPost_ret (v := .tuple #[.agg #[(.slice none 0 0),(.slice none 0 0)],.int .i64 E0]) (by simp [results,Tryz.results16,go_sem,cF0,cF1]) rfl ⟨_,_,rfl,hq3,hp3,belf⟩
 have e3 := hK1.out h0
 have hD1 := hD0.out
 have hE1 := hE0.out
 rw [e3] at hD1 hE1
 simp only [] at hD1 hE1
 clear hD0 hE0
 subst hE1
 rw [hD1] at hd
 clear hD1
 have e1 := hQ1.out
 have e2 := hQ2.out
 rw [if_pos h0] at e1 e2
 have hN0 := hop.out h0
 have hN64 := hol.out h0
 have hN60 := hol2.out h0
 have hSl := hide (hS.out h0)
 have cO2 := hide (fun (t : Int) X (hX : Below w.heap.size w X) h1 h2 => cO.out t X hX h0 h1 h2)
 have hpr2 := hide (hpr.out h0)
 have hV2 := hide (hV.out h0)
 have hval2 := hide (hval.out h0)
 subst h0
 clear hpr hV hval
 replace e1 := hide e1
 replace e2 := hide e2
 replace hN0 := hide hN0
 replace hN64 := hide hN64
 replace hN60 := hide hN60
 clear cO hop hol hol2 hQ1 hQ2 hS e3 hK1 hK2
 go_upto_region 5 with (fail)
 obtain ⟨b4,hb4⟩ : ∃ b,b = w1.heap.size := ⟨_,rfl⟩
 obtain ⟨b6,hb6⟩ : ∃ b,b = w2.heap.size := ⟨_,rfl⟩
 have r4lt := r4.lt
 have rRlt := rR.lt
 obtain ⟨w3,hw3⟩ : ∃ X,X = w2.alloc (.cells #[.slice none 0 0] 30) := ⟨_,rfl⟩
 have bw3 : Below w2.heap.size w2 w3 := by rw [hw3];exact Bel.al (Below.refl _ _) _
 have r6 : Row w3 w2.heap.size 30 [.slice none 0 0] := by rw [hw3];exact Row.newOf _ rfl
 rw [← hw3]
 clear hw3
 replace bel := Bel.to bel bw3
 replace r1 := r1.keep bw3
 replace rR := Row.keep rR bw3
 replace hd := Rd.below hd bw3
 replace r4 := Row.keep r4 bw3
 clear bw3
 rw [← hb4] at r4 ⊢
 rw [← hb6] at r6 ⊢
 have h4r : w.heap.size + 1 < b4 := by omega
 have h46 : b4 < b6 := by omega
 clear hb4 hb6 r4lt rRlt rR1lt
 have ct := r1.tiers
 go_wp2
 go_loopg [24] tn (fun gh ti wr => ∃ (i s : Nat) (sa : Option Addr) (sn sc : Nat),gh = tn - i ∧ i ≤ tn ∧ ti = .int .i64 (i : Int) ∧ Hid (s = sumTo (payT g V) i) ∧ Row wr b6 30 [.slice sa sn sc] ∧ NV wr (.slice sa sn sc) s ∧ Row wr b4 30 [.slice da dl dc] ∧ NV wr (.slice da dl dc) N ∧ Row wr (w.heap.size + 1) 35 [.slice none 0 0,.slice none 0 0] ∧ GameAt wr w.heap.size g (.slice aa an ac) (.slice ta tn tc) ∧ Below w.heap.size w wr)
 case atStart => exact ⟨0,0,none,0,0,rfl,Nat.zero_le _,rfl,rfl,r6,NV.zero _,r4,hd,rR,r1,bel⟩
 case round =>
  clear r6 r4 hd rR r1 bel ct
  obtain ⟨i,s,sa,sn,sc,hgi,hi,rfl,hs,r6,hsv,r4,hd,rR,r1,bel⟩ := hrel
  replace hgi := hide hgi
  by_cases hlt : i < tn
  ·have hlt2 := hide hlt
   have hil : i < g.tiers.length := by rw [← htnh.out];exact hlt
   obtain ⟨b,off,rfl,hbb,hcell⟩ := (hT.out.below bel).at_ hil
   have i2 : (i : Int) < (tn : Int) := by omega
   obtain ⟨t,ht⟩ : ∃ t,t = g.tiers[i] := ⟨_,rfl⟩
   have hti : g.tiers[i]? = some t := by rw [ht];exact List.getElem?_eq_getElem hil
   have hrange : wr.rangeAt b (off + i * 6) (tierCells t) := fun j u hu => hcell i t hti j u hu
   have hpt : payT g V i = (if t.kind = 1 then V (i : Int) * t.value.toNat else 0) := by unfold payT;rw [hti]
   have htv := hval2.out t (by rw [ht];exact List.getElem_mem _)
   clear hcell hti ht
   obtain ⟨tm,tb,tx,tmode,tkind,tvalue⟩ := t
   simp only [] at hpt htv
   unfold tierCells at hrange
   simp only [] at hrange
   have hthere := hide (show (wr.alloc (.cells #[.int .i64 0,.int .i64 0,.int .i64 0,.int .i64 0,.int .i64 0,.int .i64 0] 73)).there wr.heap.size 0 6 from Row.there (Row.newOf (cs := [.int .i64 0,.int .i64 0,.int .i64 0,.int .i64 0,.int .i64 0,.int .i64 0]) _ rfl))
   have i1 : (0 : Int) ≤ (i : Int) := by omega
   go_upto_region 8 with (first | (refine wpList_load_mid rfl 73 _ rfl b (off + i * 6) rfl [.int .i64 tm,.int .i64 tb,.int .i64 tx,.int .i64 tmode,.int .i64 tkind,.int .i64 tvalue] _ hrange Tryz.underlying73 rfl (by kernel_rfl) ?_) | (refine wpList_store_mid rfl 73 _ _ rfl wr.heap.size 0 _ rfl rfl hthere.out (by kernel_rfl) (by rfl) ?_) | fail)
   obtain ⟨W1,hW1⟩ : ∃ W1,W1 = wr.alloc (.cells #[.int .i64 tm,.int .i64 tb,.int .i64 tx,.int .i64 tmode,.int .i64 tkind,.int .i64 tvalue] 73) := ⟨_,rfl⟩
   have hb1 : Below wr.heap.size wr W1 := by rw [hW1];exact Bel.al (Below.refl _ _) _
   have hw1 : Row W1 wr.heap.size 73 [.int .i64 tm,.int .i64 tb,.int .i64 tx,.int .i64 tmode,.int .i64 tkind,.int .i64 tvalue] := by rw [hW1];exact Row.newOf _ rfl
   rw [← hW1]
   clear hW1 hthere hrange
   have q0 : W1.cell? ⟨wr.heap.size,0,none⟩ = some (.int .i64 tm) := (hw1.cell? 0).trans rfl
   have q1 : W1.cell? ⟨wr.heap.size,1,none⟩ = some (.int .i64 tb) := (hw1.cell? 1).trans rfl
   have q2 : W1.cell? ⟨wr.heap.size,2,none⟩ = some (.int .i64 tx) := (hw1.cell? 2).trans rfl
   have q3 : W1.cell? ⟨wr.heap.size,3,none⟩ = some (.int .i64 tmode) := (hw1.cell? 3).trans rfl
   have q4 : W1.cell? ⟨wr.heap.size,4,none⟩ = some (.int .i64 tkind) := (hw1.cell? 4).trans rfl
   have q5 : W1.cell? ⟨wr.heap.size,5,none⟩ = some (.int .i64 tvalue) := (hw1.cell? 5).trans rfl
   obtain ⟨bt,hbt⟩ : ∃ bt,bt = wr.heap.size := ⟨_,rfl⟩
   have h6t : b6 < bt := by have := r6.lt;omega
   rw [← hbt] at q0 q1 q2 q3 q4 q5 hw1 ⊢
   replace hb1 : Below bt wr W1 := by rw [hbt];exact hb1
   replace r6 := Row.keep r6 (by rw [hbt] at hb1;exact hb1)
   replace hsv := Rd.below hsv (by rw [hbt] at hb1;exact hb1)
   replace r4 := Row.keep r4 (by rw [hbt] at hb1;exact hb1)
   replace hd := Rd.below hd (by rw [hbt] at hb1;exact hb1)
   replace rR := Row.keep rR (by rw [hbt] at hb1;exact hb1)
   replace r1 := r1.keep (by rw [hbt] at hb1;exact hb1)
   replace bel := Bel.to bel (by rw [hbt] at hb1;exact hb1)
   clear hb1 hbt q0 q1 q2 q3
   by_cases hk : tkind = 1
   ·have hk1 : (tkind != 1) = false := by simpa using hk
    rw [if_pos hk] at hpt
    have cO3 := hide (cO2.out (i : Int) W1 bel (by omega) (by have := htnh.out;omega))
    have hyl := hV2.out i (by have := htnh.out;omega)
    obtain ⟨y,hy⟩ : ∃ y,y = V (i : Int) := ⟨_,rfl⟩
    rw [← hy] at cO3 hpt hyl
    obtain ⟨z,hz⟩ : ∃ z,z = y * tvalue.toNat := ⟨_,rfl⟩
    have hs2 : Hid (s + z = sumTo (payT g V) (i + 1)) := by show _ = _;rw [sumTo,hs.out,hpt,hz]
    have hsy : s + z ≤ S := by rw [hs2.out,hSd.out];exact sumTo_mono hlt
    have hl1 : (limbs (s + z)).length ≤ 64 := by have := limbs_len_le hsy;have := hSl.out;omega
    have hl2 : (limbs s).length ≤ 64 := by have := limbs_len_le (Nat.le_trans (Nat.le_add_right s z) hsy);have := hSl.out;omega
    have hl3 : (limbs z).length ≤ 64 := by have := limbs_len_le (Nat.le_trans (Nat.le_add_left z s) hsy);have := hSl.out;omega
    have hlv : limS [y,tvalue.toNat] ≤ 63 := by
     have h1 := limbs_two (n := tvalue.toNat) (by omega)
     simp [limS]
     omega
    have hzz : y * tvalue.toNat = z := hz.symm
    replace hzz := hide hzz
    clear hy hs hsy hz hpt hyl
    go_wp2_with (first | (refine wpList_load_row rfl 25 _ rfl _ rfl _ _ _ _ r1 Tryz.underlying25 rfl (by kernel_rfl) ?_) | fail)
    refine cO3.out.mono ?_
    rintro e w5 ⟨u,rfl,hu,hb5⟩
    obtain ⟨na,nl,nc,rfl⟩ := Rd.shape hu
    replace r6 := Row.keep r6 hb5
    replace hsv := Rd.below hsv hb5
    replace r4 := Row.keep r4 hb5
    replace hd := Rd.below hd hb5
    replace rR := Row.keep rR hb5
    replace r1 := r1.keep hb5
    replace bel := Bel.to bel hb5
    replace hw1 := Row.keep hw1 hb5
    clear hb5 cO3
    go_upto_region 10 with (fail)
    obtain ⟨b9,hb9⟩ : ∃ b9,b9 = w5.heap.size := ⟨_,rfl⟩
    have h69 : b6 < b9 := by have := r6.lt;omega
    have ht9 : bt < b9 := by have := hw1.lt;omega
    obtain ⟨w6,hw6⟩ : ∃ X,X = w5.alloc (.cells #[.slice na nl nc] 30) := ⟨_,rfl⟩
    have bw6 : Below w5.heap.size w5 w6 := by rw [hw6];exact Bel.al (Below.refl _ _) _
    have r9 : Row w6 w5.heap.size 30 [.slice na nl nc] := by rw [hw6];exact Row.newOf _ rfl
    rw [← hw6]
    clear hw6
    replace r6 := Row.keep r6 bw6
    replace hsv := Rd.below hsv bw6
    replace r4 := Row.keep r4 bw6
    replace hd := Rd.below hd bw6
    replace rR := Row.keep rR bw6
    replace r1 := r1.keep bw6
    replace bel := Bel.to bel bw6
    replace hu := Rd.below hu bw6
    replace hw1 := Row.keep hw1 bw6
    rw [← hb9] at r9 ⊢
    clear bw6 hb9
    have cb9 := r9.cell? 0
    have q5 := hw1.cell? 5
    simp only [List.getElem?_cons_zero,List.getElem?_cons_succ] at cb9 q5
    go_upto_region 12 with (fail)
    refine till_begin 9 (fun X => X.cell? ⟨b9,0,none⟩ = some (.slice na nl nc) ∧ X.cell? ⟨bt,5,none⟩ = some (.int .i64 tvalue)) (by kernel_rfl) (⟨cb9,q5⟩) (fun hHeld => ?_)
    refine' till_take (i := 0) (oi := _) (v := .agg #[.slice na nl nc]) rfl (by kernel_rfl) (by kernel_rfl) (by kernel_rfl) (by kernel_rfl) (fun _ _ _ h => h) (Or.inl ⟨by first | (go_simp;done) | rfl,fun X hX => by have h0 := hX.1;go_simp⟩) hHeld ?_
    try simp only [Act.put,zsA,zsB,zsC]
    refine' till_pure (i := 1) (oi := _) (v := .pointer (some ⟨bt,5,none⟩)) rfl (by kernel_rfl) (by kernel_rfl) (by kernel_rfl) (by kernel_rfl) (fun _ _ _ h => h) (Or.inl ⟨by first | (go_simp;done) | rfl,fun X _ => by go_simp⟩) hHeld ?_
    try simp only [Act.put,zsA,zsB,zsC]
    refine' till_take (i := 2) (oi := _) (v := .int .i64 tvalue) rfl (by kernel_rfl) (by kernel_rfl) (by kernel_rfl) (by kernel_rfl) (fun _ _ _ h => h) (Or.inl ⟨by first | (go_simp;done) | rfl,fun X hX => by have h0 := hX.2;go_simp⟩) hHeld ?_
    try simp only [Act.put,zsA,zsB,zsC]
    obtain ⟨Y0,hY0⟩ : ∃ Y,Y = w6.drew := ⟨_,rfl⟩
    have hY1 : Below w6.heap.size w6 Y0 := by rw [hY0];exact Below.drew (Below.refl _ _)
    replace r6 := Row.keep r6 hY1
    replace hsv := Rd.below hsv hY1
    replace r4 := Row.keep r4 hY1
    replace hd := Rd.below hd hY1
    replace rR := Row.keep rR hY1
    replace r1 := r1.keep hY1
    replace bel := Bel.to bel hY1
    replace hu := Rd.below hu hY1
    replace r9 := Row.keep r9 hY1
    rw [← hY0] at hHeld ⊢
    clear hY0 hY1 cb9
    refine till_ready (rs := [3]) (by kernel_rfl) (by simp) ?_
    refine TillReady.cons (o := _) rfl (fun K hK => ?_) TillReady.nil
    go_simp
    refine (oof_any tvalue Y0 htv).mono ?_
    rintro e w20 ⟨f,rfl,hf,hb20⟩
    obtain ⟨fa,fl,fc,rfl⟩ := Rd.shape hf
    replace r6 := Row.keep r6 hb20
    replace hsv := Rd.below hsv hb20
    replace r4 := Row.keep r4 hb20
    replace hd := Rd.below hd hb20
    replace rR := Row.keep rR hb20
    replace r1 := r1.keep hb20
    replace bel := Bel.to bel hb20
    replace hu := Rd.below hu hb20
    replace r9 := Row.keep r9 hb20
    go_wp2_with fail
    refine hK.out _ _ ⟨Bel.cellOf hb20 hHeld.1,Bel.cellOf hb20 hHeld.2⟩ (fun hHeld => ?_)
    clear hK K hb20
    try simp only [Act.put,zsA,zsB,zsC]
    refine till_ready (rs := [4]) (by kernel_rfl) (by simp) ?_
    refine TillReady.cons (o := _) rfl (fun K hK => ?_) TillReady.nil
    go_simp
    obtain ⟨w21,hw21⟩ : ∃ X,X = w20.alloc (.cells #[.slice na nl nc,.slice fa fl fc] 30) := ⟨_,rfl⟩
    have b21 : Below w20.heap.size w20 w21 := by rw [hw21];exact Bel.al (Below.refl _ _) _
    have r21 : Row w21 w20.heap.size 30 ([(.slice na nl nc,y),(.slice fa fl fc,(tvalue).toNat)].map (fun p : NatM => p.1)) := by rw [hw21];exact Row.newOf _ rfl
    rw [← hw21]
    clear hw21
    replace r6 := Row.keep r6 b21
    replace hsv := Rd.below hsv b21
    replace r4 := Row.keep r4 b21
    replace hd := Rd.below hd b21
    replace rR := Row.keep rR b21
    replace r1 := r1.keep b21
    replace bel := Bel.to bel b21
    replace hu := Rd.below hu b21
    replace r9 := Row.keep r9 b21
    replace hf := Rd.below hf b21
    have hN21 := Row.nats (n := 2) r21 rfl (by decide) (fun p hp => by
     simp only [List.mem_cons,List.not_mem_nil,or_false] at hp
     rcases hp with rfl | rfl
     ·exact hu
     ·exact hf)
    refine hK.out _ _ ⟨Bel.cellOf b21 hHeld.1,Bel.cellOf b21 hHeld.2⟩ (fun hHeld => ?_)
    clear hK K b21
    try simp only [Act.put,zsA,zsB,zsC]
    have cPr := hide (oprod_any _ [(.slice na nl nc,y),(.slice fa fl fc,(tvalue).toNat)] w21 hN21 (by simpa using hlv) (by simp))
    rw [show prodL ([(.slice na nl nc,y),(.slice fa fl fc,(tvalue).toNat)].map (fun p : NatM => p.2)) = z from by simp only [List.map_cons,List.map_nil,prodL,Nat.mul_one];exact hzz.out] at cPr
    refine till_ready (rs := [5]) (by kernel_rfl) (by simp) ?_
    refine TillReady.cons (o := _) rfl (fun K hK => ?_) TillReady.nil
    go_simp
    refine cPr.out.mono ?_
    rintro e w22 ⟨u,rfl,hz9,hb22⟩
    obtain ⟨ua,ul,uc,rfl⟩ := Rd.shape hz9
    replace r6 := Row.keep r6 hb22
    replace hsv := Rd.below hsv hb22
    replace r4 := Row.keep r4 hb22
    replace hd := Rd.below hd hb22
    replace rR := Row.keep rR hb22
    replace r1 := r1.keep hb22
    replace bel := Bel.to bel hb22
    replace hu := Rd.below hu hb22
    replace r9 := Row.keep r9 hb22
    go_wp2_with fail
    refine hK.out _ _ ⟨Bel.cellOf hb22 hHeld.1,Bel.cellOf hb22 hHeld.2⟩ (fun hHeld => ?_)
    clear hK K hb22 cPr hf r21 hN21
    try simp only [Act.put,zsA,zsB,zsC]
    refine' till_pure (i := 6) (oi := _) (v := .tuple #[.agg #[.slice ua ul uc],.int .i64 0]) rfl (by kernel_rfl) (by kernel_rfl) (by kernel_rfl) (by kernel_rfl) (fun _ _ _ h => h) (Or.inl ⟨by first | (go_simp;done) | rfl,fun X _ => by go_simp⟩) hHeld ?_
    try simp only [Act.put,zsA,zsB,zsC]
    refine' till_pure (i := 7) (oi := _) (v := .agg #[.slice ua ul uc]) rfl (by kernel_rfl) (by kernel_rfl) (by kernel_rfl) (by kernel_rfl) (fun _ _ _ h => h) (Or.inl ⟨by first | (go_simp;done) | rfl,fun X _ => by go_simp⟩) hHeld ?_
    try simp only [Act.put,zsA,zsB,zsC]
    refine' till_pure (i := 8) (oi := _) (v := .int .i64 0) rfl (by kernel_rfl) (by kernel_rfl) (by kernel_rfl) (by kernel_rfl) (fun _ _ _ h => h) (Or.inl ⟨by first | (go_simp;done) | rfl,fun X _ => by go_simp⟩) hHeld ?_
    try simp only [Act.put,zsA,zsB,zsC]
    have cb9 := r9.cell? 0
    have fb9 := r9.frozen 0
    simp only [List.getElem?_cons_zero] at cb9
    refine till_ready (rs := [9]) (by kernel_rfl) (by simp) ?_
    refine TillReady.last (o := _) rfl (by kernel_rfl) (fun K hK => ?_) TillReady.nil
    go_simp
    refine hK.out _ _ ?_
    clear hK K
    try simp only [Act.put,zsA,zsB,zsC]
    refine' till_late (i := 10) (oi := _) (v := .int .i64 0) rfl (by kernel_rfl) (by kernel_rfl) (Or.inl ⟨by first | (go_simp;done) | rfl,fun X _ => by go_simp⟩) ?_
    try simp only [Act.put,zsA,zsB,zsC]
    refine till_done (by kernel_rfl) ?_ _
    go_simp
    obtain ⟨w23,hw23⟩ : ∃ X,X = w22.setCell ⟨b9,0,none⟩ (.slice ua ul uc) := ⟨_,rfl⟩
    have s9 : Row w23 b9 30 [.slice ua ul uc] := by rw [hw23];exact Row.set r9 0 _
    replace hz9 := Rd.setNe hz9 cb9 (fun _ h => by cases h) (.slice ua ul uc)
    rw [← hw23] at hz9
    replace r6 := Row.far r6 (p := ⟨b9,0,none⟩) (by simp only [];omega) (.slice ua ul uc)
    rw [← hw23] at r6
    replace hsv := Rd.setNe hsv cb9 (fun _ h => by cases h) (.slice ua ul uc)
    rw [← hw23] at hsv
    replace r4 := Row.far r4 (p := ⟨b9,0,none⟩) (by simp only [];omega) (.slice ua ul uc)
    rw [← hw23] at r4
    replace hd := Rd.setNe hd cb9 (fun _ h => by cases h) (.slice ua ul uc)
    rw [← hw23] at hd
    replace rR := Row.far rR (p := ⟨b9,0,none⟩) (by simp only [];omega) (.slice ua ul uc)
    rw [← hw23] at rR
    replace r1 : GameAt (w22.setCell ⟨b9,0,none⟩ (.slice ua ul uc)) w.heap.size g (.slice aa an ac) _ := Row.far r1 (p := ⟨b9,0,none⟩) (by simp only [];omega) (.slice ua ul uc)
    rw [← hw23] at r1
    replace bel := Bel.st bel (p := ⟨b9,0,none⟩) (by simp only [];omega) (.slice ua ul uc)
    rw [← hw23] at bel
    (try rw [← hw23])
    clear hw23 cb9 fb9 r9
    have c6 := r6.cell? 0
    have c9 := s9.cell? 0
    simp only [List.getElem?_cons_zero] at c6 c9
    go_wp2_with fail
    refine (add_any _ _ s z _ hsv hz9 hl2 hl3).mono ?_
    rintro e w7 ⟨v,c,rfl,hc,hv,hb7⟩
    have hc0 := hc.out
    rw [if_pos hl1] at hc0 hv
    subst hc0
    obtain ⟨va,vl,vc,rfl⟩ := Rd.shape hv
    replace r6 := Row.keep r6 hb7
    replace r4 := Row.keep r4 hb7
    replace hd := Rd.below hd hb7
    replace rR := Row.keep rR hb7
    replace r1 := r1.keep hb7
    replace bel := Bel.to bel hb7
    clear hb7 hc hz9 hsv s9 c9 c6
    have c6 := r6.cell? 0
    have f6 := r6.frozen 0
    simp only [List.getElem?_cons_zero] at c6
    have hv2 := Rd.setNe hv c6 (fun _ h => by cases h) (.slice va vl vc)
    have hd2 := Rd.setNe hd c6 (fun _ h => by cases h) (.slice va vl vc)
    have r62 := Row.set r6 0 (.slice va vl vc)
    simp only [zsB] at r62
    have rR2 := Row.far rR (p := ⟨b6,0,none⟩) (by simp only [];omega) (.slice va vl vc)
    have r42 := Row.far r4 (p := ⟨b6,0,none⟩) (by simp only [];omega) (.slice va vl vc)
    have r12 : GameAt _ w.heap.size g (.slice aa an ac) _ := Row.far r1 (p := ⟨b6,0,none⟩) (by simp only [];omega) (.slice va vl vc)
    have bel2 := Bel.st bel (p := ⟨b6,0,none⟩) (by simp only [];omega) (.slice va vl vc)
    clear hv hd hl1 hl2 hl3
    go_wp2
    go_roundg (tn - (i + 1))
    case measure => have := hgi.out;have := hlt2.out;omega
    case rel => exact ⟨i + 1,s + z,va,vl,vc,rfl,by have := hlt2.out;omega,by go_num,hs2,r62,hv2,r42,hd2,rR2,r12,bel2⟩
   ·have hk1 : (tkind != 1) = true := by simpa using hk
    rw [if_neg hk] at hpt
    have hs2 : Hid (s = sumTo (payT g V) (i + 1)) := by show _ = _;rw [sumTo,hpt,Nat.add_zero];exact hs.out
    clear hs hpt hk
    go_wp2
    go_roundg (tn - (i + 1))
    case measure => have := hgi.out;have := hlt2.out;omega
    case rel => exact ⟨i + 1,s,sa,sn,sc,rfl,by have := hlt2.out;omega,by go_num,hs2,r6,hsv,r4,hd,rR,r1,bel⟩
  ·obtain rfl : i = tn := by omega
   have hsS : s = S := by rw [hs.out,hSd.out]
   rw [hsS] at hsv
   have hlv : limS [N,g.price.toNat] ≤ 63 := by
    have h1 := limbs_two (n := g.price.toNat) (by have := hpr2.out;omega)
    have h2 := hN60.out
    simp [limS]
    omega
   have hdd : Hid ((limbs (N * g.price.toNat)).length ≤ 64) := by
    have h3 := limbs_mul N g.price.toNat
    have h1 := limbs_two (n := g.price.toNat) (by have := hpr2.out;omega)
    have h2 := hN60.out
    show _ ≤ _
    omega
   have hd0 : Hid (0 < N * g.price.toNat) := Nat.mul_pos hN0.out (by have := hpr2.out;omega)
   have hpb : g.price ≤ 9223372036854775807 := by have := hpr2.out;omega
   obtain ⟨D,hDD⟩ : ∃ D,D = N * g.price.toNat := ⟨_,rfl⟩
   rw [← hDD] at hdd hd0 e1 e2
   have hzz := hide hDD.symm
   have cb9 := r4.cell? 0
   have cpr := r1.price
   simp only [List.getElem?_cons_zero] at cb9
   clear hs hsS hDD
   go_wp2
   go_upto_region 19 with (fail)
   refine till_begin 9 (fun X => X.cell? ⟨b4,0,none⟩ = some (.slice da dl dc) ∧ X.cell? ⟨w.heap.size,2,none⟩ = some (.int .i64 g.price)) (by kernel_rfl) (⟨cb9,cpr⟩) (fun hHeld => ?_)
   refine' till_take (i := 0) (oi := _) (v := .agg #[.slice da dl dc]) rfl (by kernel_rfl) (by kernel_rfl) (by kernel_rfl) (by kernel_rfl) (fun _ _ _ h => h) (Or.inl ⟨by first | (go_simp;done) | rfl,fun X hX => by have h0 := hX.1;go_simp⟩) hHeld ?_
   try simp only [Act.put,zsA,zsB,zsC]
   refine' till_pure (i := 1) (oi := _) (v := .pointer (some ⟨w.heap.size,2,none⟩)) rfl (by kernel_rfl) (by kernel_rfl) (by kernel_rfl) (by kernel_rfl) (fun _ _ _ h => h) (Or.inl ⟨by first | (go_simp;done) | rfl,fun X _ => by go_simp⟩) hHeld ?_
   try simp only [Act.put,zsA,zsB,zsC]
   refine' till_take (i := 2) (oi := _) (v := .int .i64 g.price) rfl (by kernel_rfl) (by kernel_rfl) (by kernel_rfl) (by kernel_rfl) (fun _ _ _ h => h) (Or.inl ⟨by first | (go_simp;done) | rfl,fun X hX => by have h0 := hX.2;go_simp⟩) hHeld ?_
   try simp only [Act.put,zsA,zsB,zsC]
   obtain ⟨Y0,hY0⟩ : ∃ Y,Y = wr.drew := ⟨_,rfl⟩
   have hY1 : Below wr.heap.size wr Y0 := by rw [hY0];exact Below.drew (Below.refl _ _)
   replace r6 := Row.keep r6 hY1
   replace hsv := Rd.below hsv hY1
   replace r4 := Row.keep r4 hY1
   replace hd := Rd.below hd hY1
   replace rR := Row.keep rR hY1
   replace r1 := r1.keep hY1
   replace bel := Bel.to bel hY1
   rw [← hY0] at hHeld ⊢
   clear hY0 hY1 cb9
   refine till_ready (rs := [3]) (by kernel_rfl) (by simp) ?_
   refine TillReady.cons (o := _) rfl (fun K hK => ?_) TillReady.nil
   go_simp
   refine (oof_any g.price Y0 hpb).mono ?_
   rintro e w20 ⟨f,rfl,hf,hb20⟩
   obtain ⟨fa,fl,fc,rfl⟩ := Rd.shape hf
   replace r6 := Row.keep r6 hb20
   replace hsv := Rd.below hsv hb20
   replace r4 := Row.keep r4 hb20
   replace hd := Rd.below hd hb20
   replace rR := Row.keep rR hb20
   replace r1 := r1.keep hb20
   replace bel := Bel.to bel hb20
   go_wp2_with fail
   refine hK.out _ _ ⟨Bel.cellOf hb20 hHeld.1,Bel.cellOf hb20 hHeld.2⟩ (fun hHeld => ?_)
   clear hK K hb20
   try simp only [Act.put,zsA,zsB,zsC]
   refine till_ready (rs := [4]) (by kernel_rfl) (by simp) ?_
   refine TillReady.cons (o := _) rfl (fun K hK => ?_) TillReady.nil
   go_simp
   obtain ⟨w21,hw21⟩ : ∃ X,X = w20.alloc (.cells #[.slice da dl dc,.slice fa fl fc] 30) := ⟨_,rfl⟩
   have b21 : Below w20.heap.size w20 w21 := by rw [hw21];exact Bel.al (Below.refl _ _) _
   have r21 : Row w21 w20.heap.size 30 ([(.slice da dl dc,N),(.slice fa fl fc,(g.price).toNat)].map (fun p : NatM => p.1)) := by rw [hw21];exact Row.newOf _ rfl
   rw [← hw21]
   clear hw21
   replace r6 := Row.keep r6 b21
   replace hsv := Rd.below hsv b21
   replace r4 := Row.keep r4 b21
   replace hd := Rd.below hd b21
   replace rR := Row.keep rR b21
   replace r1 := r1.keep b21
   replace bel := Bel.to bel b21
   replace hf := Rd.below hf b21
   have hN21 := Row.nats (n := 2) r21 rfl (by decide) (fun p hp => by
    simp only [List.mem_cons,List.not_mem_nil,or_false] at hp
    rcases hp with rfl | rfl
    ·exact hd
    ·exact hf)
   refine hK.out _ _ ⟨Bel.cellOf b21 hHeld.1,Bel.cellOf b21 hHeld.2⟩ (fun hHeld => ?_)
   clear hK K b21
   try simp only [Act.put,zsA,zsB,zsC]
   have cPr := hide (oprod_any _ [(.slice da dl dc,N),(.slice fa fl fc,(g.price).toNat)] w21 hN21 (by simpa using hlv) (by simp))
   rw [show prodL ([(.slice da dl dc,N),(.slice fa fl fc,(g.price).toNat)].map (fun p : NatM => p.2)) = D from by simp only [List.map_cons,List.map_nil,prodL,Nat.mul_one];exact hzz.out] at cPr
   refine till_ready (rs := [5]) (by kernel_rfl) (by simp) ?_
   refine TillReady.cons (o := _) rfl (fun K hK => ?_) TillReady.nil
   go_simp
   refine cPr.out.mono ?_
   rintro e w22 ⟨u,rfl,hz9,hb22⟩
   obtain ⟨ua,ul,uc,rfl⟩ := Rd.shape hz9
   replace r6 := Row.keep r6 hb22
   replace hsv := Rd.below hsv hb22
   replace r4 := Row.keep r4 hb22
   replace hd := Rd.below hd hb22
   replace rR := Row.keep rR hb22
   replace r1 := r1.keep hb22
   replace bel := Bel.to bel hb22
   go_wp2_with fail
   refine hK.out _ _ ⟨Bel.cellOf hb22 hHeld.1,Bel.cellOf hb22 hHeld.2⟩ (fun hHeld => ?_)
   clear hK K hb22 cPr hf r21 hN21
   try simp only [Act.put,zsA,zsB,zsC]
   refine' till_pure (i := 6) (oi := _) (v := .tuple #[.agg #[.slice ua ul uc],.int .i64 0]) rfl (by kernel_rfl) (by kernel_rfl) (by kernel_rfl) (by kernel_rfl) (fun _ _ _ h => h) (Or.inl ⟨by first | (go_simp;done) | rfl,fun X _ => by go_simp⟩) hHeld ?_
   try simp only [Act.put,zsA,zsB,zsC]
   refine' till_pure (i := 7) (oi := _) (v := .agg #[.slice ua ul uc]) rfl (by kernel_rfl) (by kernel_rfl) (by kernel_rfl) (by kernel_rfl) (fun _ _ _ h => h) (Or.inl ⟨by first | (go_simp;done) | rfl,fun X _ => by go_simp⟩) hHeld ?_
   try simp only [Act.put,zsA,zsB,zsC]
   refine' till_pure (i := 8) (oi := _) (v := .int .i64 0) rfl (by kernel_rfl) (by kernel_rfl) (by kernel_rfl) (by kernel_rfl) (fun _ _ _ h => h) (Or.inl ⟨by first | (go_simp;done) | rfl,fun X _ => by go_simp⟩) hHeld ?_
   try simp only [Act.put,zsA,zsB,zsC]
   have cb9 := r4.cell? 0
   have fb9 := r4.frozen 0
   simp only [List.getElem?_cons_zero] at cb9
   refine till_ready (rs := [9]) (by kernel_rfl) (by simp) ?_
   refine TillReady.last (o := _) rfl (by kernel_rfl) (fun K hK => ?_) TillReady.nil
   go_simp
   refine hK.out _ _ ?_
   clear hK K
   try simp only [Act.put,zsA,zsB,zsC]
   refine' till_late (i := 10) (oi := _) (v := .int .i64 0) rfl (by kernel_rfl) (by kernel_rfl) (Or.inl ⟨by first | (go_simp;done) | rfl,fun X _ => by go_simp⟩) ?_
   try simp only [Act.put,zsA,zsB,zsC]
   refine till_done (by kernel_rfl) ?_ _
   go_simp
   obtain ⟨w23,hw23⟩ : ∃ X,X = w22.setCell ⟨b4,0,none⟩ (.slice ua ul uc) := ⟨_,rfl⟩
   have s9 : Row w23 b4 30 [.slice ua ul uc] := by rw [hw23];exact Row.set r4 0 _
   replace hz9 := Rd.setNe hz9 cb9 (fun _ h => by cases h) (.slice ua ul uc)
   rw [← hw23] at hz9
   replace r6 := Row.far r6 (p := ⟨b4,0,none⟩) (by simp only [];omega) (.slice ua ul uc)
   rw [← hw23] at r6
   replace hsv := Rd.setNe hsv cb9 (fun _ h => by cases h) (.slice ua ul uc)
   rw [← hw23] at hsv
   replace rR := Row.far rR (p := ⟨b4,0,none⟩) (by simp only [];omega) (.slice ua ul uc)
   rw [← hw23] at rR
   replace r1 : GameAt (w22.setCell ⟨b4,0,none⟩ (.slice ua ul uc)) w.heap.size g (.slice aa an ac) _ := Row.far r1 (p := ⟨b4,0,none⟩) (by simp only [];omega) (.slice ua ul uc)
   rw [← hw23] at r1
   replace bel := Bel.st bel (p := ⟨b4,0,none⟩) (by simp only [];omega) (.slice ua ul uc)
   rw [← hw23] at bel
   (try rw [← hw23])
   clear hw23 cb9 fb9 r4
   have c6 := r6.cell? 0
   have c4 := s9.cell? 0
   simp only [List.getElem?_cons_zero] at c6 c4
   have cM := hide (make_ok _ _ S D _ hsv hz9 hSl.out hdd.out hd0.out)
   rw [← e1.out,← e2.out] at cM
   clear e1 e2
   go_wp2_with fail
   refine cM.out.mono ?_
   rintro e wE ⟨q,p,rfl,hq,hp,hb5⟩
   obtain ⟨qu,ql,qc,rfl⟩ := Rd.shape hq
   obtain ⟨pu,pl,pc,rfl⟩ := Rd.shape hp
   replace bel := Bel.to bel hb5
   replace rR := Row.keep rR hb5
   clear hb5 cM r6 s9 c6 c4 hsv hz9 r1
   have cR0 := rR.cell? 0
   have cR1 := rR.cell? 1
   simp only [List.getElem?_cons_zero,List.getElem?_cons_succ] at cR0 cR1
   have fR0 := rR.frozen 0
   have fR1 := rR.frozen 1
   have c1' := (rR.set 0 (.slice qu ql qc)).cell? 1
   simp only [zsB,List.getElem?_cons_zero,List.getElem?_cons_succ] at c1'
   have hq3 := (Rd.setNe hq cR0 (fun _ h => by cases h) (.slice qu ql qc)).setNe c1' (fun _ h => by cases h) (.slice pu pl pc)
   have hp3 := (Rd.setNe hp cR0 (fun _ h => by cases h) (.slice qu ql qc)).setNe c1' (fun _ h => by cases h) (.slice pu pl pc)
   have belf := Bel.st (Bel.st bel (p := ⟨w.heap.size + 1,0,none⟩) (by simp only [];omega) (.slice qu ql qc)) (p := ⟨w.heap.size + 1,1,none⟩) (by simp only [];omega) (.slice pu pl pc)
   have rF := (rR.set 0 (.slice qu ql qc)).set 1 (.slice pu pl pc)
   simp only [zsB,zsC] at rF
   have cF0 := rF.cell? 0
   have cF1 := rF.cell? 1
   simp only [List.getElem?_cons_zero,List.getElem?_cons_succ] at cF0 cF1
   clear hq hp c1' rF
   go_wp2
   exact bodyPost_ret (v := .tuple #[.agg #[(.slice qu ql qc),(.slice pu pl pc)],.int .i64 0]) (by simp [results,Tryz.results16,go_sem,cF0,cF1]) rfl ⟨_,_,rfl,hq3,hp3,belf⟩
end Go.Proofs.YtldikghldcefcaaGreat
end

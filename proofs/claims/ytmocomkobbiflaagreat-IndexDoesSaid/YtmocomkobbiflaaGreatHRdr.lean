/- Lemmas, merged out of smaller texts (wip/tools/mergedce.py). No condition. -/
import Derived.BigQuiet
import Derived.Test.YtmocomkobbiflaaGreatHWin
import Derived.Test.YtmocomkobbiflaaGreatHCore
import Derived.Test.YtmocomkobbiflaaGreatHLine
import Derived.Test.YtmocomkobbiflaaGreatHRef
section
set_option linter.unusedVariables false
set_option linter.unusedSimpArgs false
namespace Go.Proofs.YtmocomkobbiflaaGreat
theorem perm_of_count (a b : List Int) (hl : b.length ≤ a.length) (h : ∀ x ∈ a,a.count x ≤ b.count x) : a.Perm b := by
 induction a generalizing b with
 | nil =>
  have : b = [] := List.eq_nil_of_length_eq_zero (by simpa using hl)
  subst this
  exact List.Perm.refl _
 | cons x r ih =>
  have hx : x ∈ b := by
   have h1 := h x List.mem_cons_self
   rw [List.count_cons_self] at h1
   exact List.count_pos_iff.1 (by omega)
  have hp := List.perm_cons_erase hx
  refine List.Perm.trans (List.Perm.cons x (ih (b.erase x) ?_ ?_)) hp.symm
  ·rw [List.length_erase_of_mem hx]
   rw [List.length_cons] at hl
   omega
  ·intro y hy
   have h1 := h y (List.mem_cons_of_mem x hy)
   rw [List.count_cons] at h1
   rw [List.count_erase]
   by_cases e : x = y
   ·subst e
    simp at h1 ⊢
    omega
   ·have e2 : ¬ y = x := fun h => e h.symm
    simp [e,e2] at h1 ⊢
    omega
theorem sort_iff (a b : List Int) : sortI a = sortI b ↔ a.Perm b := by
 constructor
 ·intro h
  exact (sortI_perm a).symm.trans (h ▸ sortI_perm b)
 ·intro h
  exact sortI_congr h
theorem box_iff {a b : List Int} (hl : b.length = a.length) : (∀ x ∈ a,a.count x = b.count x) ↔ sortI a = sortI b := by
 rw [sort_iff]
 constructor
 ·intro h
  exact perm_of_count a b (by omega) fun x hx => by rw [h x hx];exact Nat.le_refl _
 ·intro h x _
  exact h.count_eq x
end Go.Proofs.YtmocomkobbiflaaGreat
end
section
open Go.RowKit
set_option linter.unusedVariables false
set_option linter.unusedSimpArgs false
namespace Go.Proofs.YtmocomkobbiflaaGreat
set_option maxHeartbeats 2000000 in
set_option maxRecDepth 100000 in
theorem order28_any (v : Value) (l : List Int) (lo hi : Int) (rising : Bool) (w : World) (h : Rd I64 w v l) :
  Calls Tryz.prog 197 #[v,.int .i64 lo,.int .i64 hi,.bool rising] w (IntB (orderE rising lo hi none l) w) := by
 obtain ⟨ao,cap,rfl,hle,hmax,hrd⟩ := Rd.form h
 obtain ⟨R,hR⟩ : ∃ R,R = orderE rising lo hi none l := ⟨_,rfl⟩
 rw [← hR]
 have hR0 := hide (show orderE rising lo hi (prevI l 0) (l.drop 0) = R by rw [order_start,hR])
 obtain ⟨n,hn⟩ : ∃ n,n = l.length := ⟨_,rfl⟩
 have hnm : n ≤ 9223372036854775807 := by unfold maxLen at hmax;omega
 rw [← hn]
 replace hn := hide hn
 clear h hR hle hmax
 go_enter Tryz.func197,Tryz.ntmps197
 go_wp2
 go_loopg [9] n (fun gh t wr => ∃ (i : Nat) (d : Nat),gh = n - i ∧ i ≤ n ∧ t = .int .i64 (i : Int) ∧ wr = w.drewN d ∧ Hid (orderE rising lo hi (prevI l i) (l.drop i) = R))
 case atStart => exact ⟨0,0,rfl,Nat.zero_le _,rfl,rfl,hR0⟩
 case round =>
  obtain ⟨i,d,hgh,hile,rfl,rfl,hR⟩ := hrel
  replace hgh := hide hgh
  by_cases hlt : i < n
  ·have hlt2 := hide hlt
   have hil : i < l.length := by rw [← hn.out];exact hlt
   have hR2 := hR.out
   rw [order_at hil] at hR2
   obtain ⟨b,off,rfl,hbb,hcell⟩ := hrd.at_ hil
   obtain ⟨x,hx,c0⟩ : ∃ x,x = l[i] ∧ w.cell? ⟨b,off + i,none⟩ = some (.int .i64 x) := ⟨_,rfl,hcell _ hil⟩
   rw [← hx] at hR2
   have i1 : (0 : Int) ≤ (i : Int) := by omega
   have i2 : (i : Int) < (n : Int) := by omega
   replace hx := hide hx
   replace hcell := hide hcell
   by_cases h1 : x < lo
   ·have d1 : decide (x < lo) = true := decide_eq_true h1
    rw [if_pos (.inl h1)] at hR2
    subst hR2
    go_wp2
    go_ret
    first | exact ⟨rfl,Bel.drN (Below.refl _ _) _⟩ | exact ⟨rfl,Bel.drN (Bel.drN (Below.refl _ _) _) _⟩
   ·have d1 : decide (x < lo) = false := decide_eq_false h1
    by_cases h2 : hi < x
    ·have d2 : decide (hi < x) = true := decide_eq_true h2
     rw [if_pos (.inr h2)] at hR2
     subst hR2
     go_wp2
     go_ret
     first | exact ⟨rfl,Bel.drN (Below.refl _ _) _⟩ | exact ⟨rfl,Bel.drN (Bel.drN (Below.refl _ _) _) _⟩
    ·have d2 : decide (hi < x) = false := decide_eq_false h2
     rw [if_neg (by omega)] at hR2
     cases rising with
     | false =>
      rw [if_neg (by simp)] at hR2
      replace hR2 := hide hR2
      clear hcell
      go_wp2
      go_quiet (fail)
      go_wp2
      go_roundg (n - (i + 1))
      case measure => have := hgh.out;have := hlt2.out;omega
      case rel => exact ⟨i + 1,_,rfl,by have := hlt2.out;omega,by go_num,rfl,hR2⟩
     | true =>
      cases i with
      | zero =>
       rw [if_neg (by simp)] at hR2
       rw [Nat.add_zero] at c0
       replace hR2 := hide hR2
       clear hcell
       go_wp2
       go_quiet (fail)
       go_wp2
       go_roundg (n - (0 + 1))
       case measure => have := hgh.out;have := hlt2.out;omega
       case rel => exact ⟨0 + 1,_,rfl,by have := hlt2.out;omega,by go_num,rfl,hR2⟩
      | succ j =>
       have hjl : j < l.length := by omega
       obtain ⟨y,hy,c1⟩ : ∃ y,y = l[j] ∧ w.cell? ⟨b,off + j,none⟩ = some (.int .i64 y) := ⟨_,rfl,hcell.out _ hjl⟩
       have e1 : l[j + 1 - 1]'(by omega) = y := by simp [hy]
       rw [e1] at hR2
       replace hy := hide hy
       have j0 : (0 : Int) < ((j + 1 : Nat) : Int) := by omega
       have j1 : (0 : Int) ≤ (j : Int) := by omega
       have j2 : (j : Int) < (n : Int) := by omega
       have j3 : ((((j + 1 : Nat) : Int)) - 1).toNat = j := by omega
       have j4 : (((j + 1 : Nat) : Int)) - 1 = (j : Int) := by omega
       clear hcell
       by_cases h3 : x ≤ y
       ·have d3 : decide (x ≤ y) = true := decide_eq_true h3
        rw [if_pos ⟨rfl,by omega,h3⟩] at hR2
        subst hR2
        go_wp2
        go_quiet (fail)
        go_wp2
        go_ret
        first | exact ⟨rfl,Bel.drN (Below.refl _ _) _⟩ | exact ⟨rfl,Bel.drN (Bel.drN (Below.refl _ _) _) _⟩
       ·have d3 : decide (x ≤ y) = false := decide_eq_false h3
        rw [if_neg (fun h => h3 h.2.2)] at hR2
        replace hR2 := hide hR2
        go_wp2
        go_quiet (fail)
        go_wp2
        go_roundg (n - (j + 1 + 1))
        case measure => have := hgh.out;have := hlt2.out;omega
        case rel => exact ⟨j + 1 + 1,_,rfl,by have := hlt2.out;omega,by go_num,rfl,hR2⟩
  ·have hin : i = l.length := by have := hn.out;omega
   have hR2 := hR.out
   rw [hin,List.drop_length,order_nil] at hR2
   subst hR2
   replace hin := hide hin
   have i2 : ¬ (i : Int) < (n : Int) := by omega
   go_wp2
   go_ret
   first | exact ⟨rfl,Bel.drN (Below.refl _ _) _⟩ | exact ⟨rfl,Bel.drN (Bel.drN (Below.refl _ _) _) _⟩
set_option maxHeartbeats 2000000 in
set_option maxRecDepth 100000 in
theorem has28_any (v : Value) (l : List Int) (x : Int) (w : World) (h : Rd I64 w v l) :
  Calls Tryz.prog 198 #[v,.int .i64 x] w (Pure (.bool (decide (x ∈ l))) w) := by
 obtain ⟨ao,cap,rfl,hle,hmax,hrd⟩ := Rd.form h
 obtain ⟨R,hR⟩ : ∃ R,R = decide (x ∈ l) := ⟨_,rfl⟩
 rw [← hR]
 have hR0 : Hid (decide (x ∈ l.drop 0) = R) := by show _ = _;rw [List.drop_zero,hR]
 obtain ⟨n,hn⟩ : ∃ n,n = l.length := ⟨_,rfl⟩
 have hnm : n ≤ 9223372036854775807 := by unfold maxLen at hmax;omega
 rw [← hn]
 replace hn := hide hn
 clear h hR hle hmax
 go_enter Tryz.func198,Tryz.ntmps198
 go_wp2
 go_loopg [5] n (fun gh t wr => ∃ (i : Nat),gh = n - i ∧ i ≤ n ∧ t = .int .i64 (i : Int) ∧ w = wr ∧ Hid (decide (x ∈ l.drop i) = R))
 case atStart => exact ⟨0,rfl,Nat.zero_le _,rfl,rfl,hR0⟩
 case round =>
  obtain ⟨i,hgh,hile,rfl,rfl,hR⟩ := hrel
  replace hgh := hide hgh
  by_cases hlt : i < n
  ·have hlt2 := hide hlt
   have hil : i < l.length := by rw [← hn.out];exact hlt
   have hR2 := hR.out
   rw [List.drop_eq_getElem_cons hil] at hR2
   obtain ⟨b,off,rfl,hbb,hcell⟩ := hrd.at_ hil
   obtain ⟨y,hy,c0⟩ : ∃ y,y = l[i] ∧ w.cell? ⟨b,off + i,none⟩ = some (.int .i64 y) := ⟨_,rfl,hcell _ hil⟩
   rw [← hy] at hR2
   have i1 : (0 : Int) ≤ (i : Int) := by omega
   have i2 : (i : Int) < (n : Int) := by omega
   replace hy := hide hy
   replace hcell := hide hcell
   by_cases h1 : y = x
   ·have d1 : (y == x) = true := by simpa using h1
    rw [decide_eq_true (by rw [h1];exact List.mem_cons_self)] at hR2
    subst hR2
    replace h1 := hide h1
    go_wp2
    go_ret
    exact ⟨rfl,rfl⟩
   ·have d1 : (y == x) = false := by simpa using h1
    have hR3 : Hid (decide (x ∈ l.drop (i + 1)) = R) := by
     show _ = _
     rw [← hR2]
     refine decide_eq_decide.2 ⟨fun h => List.mem_cons_of_mem _ h,fun h => ?_⟩
     rcases List.mem_cons.1 h with h | h
     ·exact absurd h.symm h1
     ·exact h
    replace h1 := hide h1
    clear hR hR2
    go_wp2
    go_roundg (n - (i + 1))
    case measure => have := hgh.out;have := hlt2.out;omega
    case rel => exact ⟨i + 1,rfl,by have := hlt2.out;omega,by go_num,rfl,hR3⟩
  ·have hR2 := hR.out
   rw [List.drop_eq_nil_of_le (by have := hn.out;omega)] at hR2
   simp at hR2
   subst hR2
   have i2 : ¬ (i : Int) < (n : Int) := by omega
   clear hR
   go_wp2
   go_ret
   exact ⟨rfl,rfl⟩
def idxGo (k : Int) : List AddonM → Nat → Int
 | [],_ => -1
 | m :: r,i => if m.d.kind = k then (i : Int) else idxGo k r (i + 1)
theorem idxGo_spec (k : Int) (ms : List AddonM) (i : Nat) : (idxGo k ms i = -1 ∧ findM ms k = none) ∨ ∃ j,∃ h : j < ms.length,idxGo k ms i = ((i + j : Nat) : Int) ∧ findM ms k = some ms[j] := by
 induction ms generalizing i with
 | nil => exact .inl ⟨rfl,rfl⟩
 | cons m r ih =>
  by_cases hk : m.d.kind = k
  ·refine .inr ⟨0,by simp,by rw [idxGo,if_pos hk,Nat.add_zero],?_⟩
   unfold findM
   rw [List.find?_cons_of_pos (by simpa using hk)]
   rfl
  ·have e : findM (m :: r) k = findM r k := by unfold findM;rw [List.find?_cons_of_neg (by simpa using hk)]
   rw [e,idxGo,if_neg hk]
   rcases ih (i + 1) with h | ⟨j,hj,h1,h2⟩
   ·exact .inl h
   ·refine .inr ⟨j + 1,by simpa using hj,by rw [h1];congr 1;omega,by rw [h2];simp⟩
set_option maxHeartbeats 2000000 in
set_option maxRecDepth 100000 in
theorem addon28_any (g : GameD) (av tv : Value) (ms : List AddonM) (k : Int) (w : World) (hg : GameR w av tv ms g) :
  Calls Tryz.prog 199 #[gameVal g av tv,.int .i64 k] w (IntB (idxGo k ms 0) w) := by
 obtain ⟨O,hO⟩ : ∃ O,O = idxGo k ms 0 := ⟨_,rfl⟩
 rw [← hO]
 have hO0 := hide (show idxGo k (ms.drop 0) 0 = O by rw [List.drop_zero,hO])
 obtain ⟨M,hM⟩ : ∃ M,M = ms.length := ⟨_,rfl⟩
 have hA := hide (fun X (hX : Below w.heap.size w X) => (hg.below hX).1)
 obtain ⟨aa,ac,rfl,hal,ham⟩ := hg.1.1.shape
 obtain ⟨ta,tc,rfl,htl,htm⟩ := hg.2.2.shape
 have hMm : M ≤ 9223372036854775807 := by unfold maxLen at ham;omega
 rw [← hM] at hA
 replace hM := hide hM
 clear hg hO hal ham htl htm
 unfold gameVal
 rw [← hM.out]
 go_enter Tryz.func199,Tryz.ntmps199
 go_upto_region 1 with (fail)
 obtain ⟨W,hW⟩ : ∃ W,W = (w.alloc (Obj.cells #[.string g.name,.int .i64 g.kind,.int .i64 g.price,.int .i64 g.main,.int .i64 g.of,.int .i64 g.bonus,.int .i64 g.bonusOf,.int .i64 g.extra,.int .i64 g.draws,.int .i64 g.system,.int .i64 g.days,.int .i64 g.at_,.int .i64 g.close,.int .i64 g.cancel,.int .i64 g.expiry,.int .i64 g.pool,.int .i64 g.reserve,.int .i64 g.round,.int .i64 g.cap,.int .i64 g.rolls,(.slice aa M ac),(.slice ta g.tiers.length tc)] 25)) := ⟨_,rfl⟩
 have bW : Below w.heap.size w W := by rw [hW];exact Bel.al (Below.refl _ _) _
 have r0 : GameAt W (w.heap.size) g ((.slice aa M ac)) ((.slice ta g.tiers.length tc)) := by rw [hW];exact Row.new _ _ _
 have sW : w.heap.size < W.heap.size := by rw [hW];simp
 rw [← hW]
 clear hW
 have da := r0.addons
 go_wp2
 go_loopg [5] M (fun gh t wr => ∃ (i : Nat),gh = M - i ∧ i ≤ M ∧ t = .int .i64 (i : Int) ∧ Hid (idxGo k (ms.drop i) i = O) ∧ W = wr)
 case atStart => exact ⟨0,rfl,Nat.zero_le _,rfl,hO0,rfl⟩
 case round =>
  obtain ⟨i,hgh,hi,rfl,hF,rfl⟩ := hrel
  replace hgh := hide hgh
  by_cases hlt : i < M
  ·have hlt2 := hide hlt
   have hil : i < ms.length := by rw [← hM.out];exact hlt
   obtain ⟨b,off,rfl,hbb,hcell⟩ := (hA.out W bW).1.at_ (i := i) hil
   obtain ⟨m,hm⟩ : ∃ m,m = ms[i] := ⟨_,rfl⟩
   have hmi : ms[i]? = some m := by rw [hm];exact List.getElem?_eq_getElem hil
   have c1 : W.cell? ⟨b,off + i * 6 + 1,none⟩ = some (.int .i64 m.d.kind) := hcell i m hmi 1 _ rfl
   have hF2 := hF.out
   rw [List.drop_eq_getElem_cons hil,idxGo,← hm] at hF2
   obtain ⟨kd,hkd⟩ : ∃ q,q = m.d.kind := ⟨_,rfl⟩
   rw [← hkd] at c1 hF2
   have i1 : (0 : Int) ≤ (i : Int) := by omega
   have i2 : (i : Int) < (M : Int) := by omega
   clear hcell hmi hm hkd
   by_cases h1 : kd = k
   ·have d1 : (kd == k) = true := by simpa using h1
    rw [if_pos h1] at hF2
    subst hF2
    replace h1 := hide h1
    clear hF
    go_wp2
    go_ret
    exact ⟨rfl,bW⟩
   ·have d1 : (kd == k) = false := by simpa using h1
    rw [if_neg h1] at hF2
    replace hF2 := hide hF2
    replace h1 := hide h1
    clear hF
    go_wp2
    go_roundg (M - (i + 1))
    case measure => have := hgh.out;have := hlt2.out;omega
    case rel => exact ⟨i + 1,rfl,by have := hlt2.out;omega,by go_num,hF2,rfl⟩
  ·have hF2 := hF.out
   rw [List.drop_eq_nil_of_le (by have := hM.out;omega)] at hF2
   have hF3 : O = -1 := hF2.symm
   subst hF3
   have i2 : ¬ (i : Int) < (M : Int) := by omega
   clear hF hF2
   go_wp2
   go_ret
   exact ⟨rfl,bW⟩
set_option maxHeartbeats 8000000 in
set_option maxRecDepth 100000 in
theorem numbers28_any (g : GameD) (av tv mv bv xv : Value) (ms : List AddonM) (r : ResD) (w : World) (hg : GameR w av tv ms g) (hr : ResR w mv bv xv r) (he : gameE g = 0) :
  Calls Tryz.prog 166 #[gameVal g av tv,resVal mv bv xv r] w (IntB (numE g r) w) := by
 have cM := hide (fun X (lo hi : Int) (rs : Bool) (hX : Below w.heap.size w X) => order28_any mv r.main lo hi rs X (hr.below hX).1)
 have cB := hide (fun X (lo hi : Int) (rs : Bool) (hX : Below w.heap.size w X) => order28_any bv r.bonus lo hi rs X (hr.below hX).2.1)
 have cX := hide (fun X (lo hi : Int) (rs : Bool) (hX : Below w.heap.size w X) => order28_any xv r.extra lo hi rs X (hr.below hX).2.2)
 obtain ⟨f1,f2,f3,f4,f5,f6,f7,f8,f9,f10,f11⟩ := mat_facts (game_mat he)
 have hof : 0 ≤ g.of := f5
 have hof2 : g.of ≤ 80 := f6
 clear f1 f2 f3 f4 f5 f6 f7 f8 f9 f10 f11
 obtain ⟨P,hP⟩ : ∃ P,P = numE g r := ⟨_,rfl⟩
 rw [← hP]
 unfold numE at hP
 replace hP := hide hP
 have hrd := hide (fun X (hX : Below w.heap.size w X) => hr.below hX)
 obtain ⟨aa,ac,rfl,hal,ham⟩ := hg.1.1.shape
 obtain ⟨ta,tc,rfl,htl,htm⟩ := hg.2.2.shape
 obtain ⟨ma,mc,rfl,hma,hmc,-⟩ := hr.1.form
 obtain ⟨ba,bc,rfl,hba,hbc,-⟩ := hr.2.1.form
 obtain ⟨xa,xc,rfl,hxa,hxc,-⟩ := hr.2.2.form
 clear hg hr hal ham htl htm
 unfold maxLen at hmc hbc hxc
 replace he := hide he
 unfold gameVal resVal
 go_enter Tryz.func166,Tryz.ntmps166
 go_upto_region 1 with (fail)
 obtain ⟨W,hW⟩ : ∃ W,W = ((w.alloc (Obj.cells #[.string g.name,.int .i64 g.kind,.int .i64 g.price,.int .i64 g.main,.int .i64 g.of,.int .i64 g.bonus,.int .i64 g.bonusOf,.int .i64 g.extra,.int .i64 g.draws,.int .i64 g.system,.int .i64 g.days,.int .i64 g.at_,.int .i64 g.close,.int .i64 g.cancel,.int .i64 g.expiry,.int .i64 g.pool,.int .i64 g.reserve,.int .i64 g.round,.int .i64 g.cap,.int .i64 g.rolls,(.slice aa ms.length ac),(.slice ta g.tiers.length tc)] 25)).alloc (Obj.cells #[(.slice ma r.main.length mc),(.slice ba r.bonus.length bc),(.slice xa r.extra.length xc),.int .i64 r.factor,.string r.serial] 29)) := ⟨_,rfl⟩
 have bW : Below w.heap.size w W := by rw [hW];exact Bel.al (Bel.al (Below.refl _ _) _) _
 have r0 : GameAt W (w.heap.size) g ((.slice aa ms.length ac)) ((.slice ta g.tiers.length tc)) := by rw [hW];exact Row.alloc (Row.new _ _ _) _
 have r1 : Row W ((w.heap.size + 1)) 29 [(.slice ma r.main.length mc),(.slice ba r.bonus.length bc),(.slice xa r.extra.length xc),.int .i64 r.factor,.string r.serial] := by rw [hW];exact Row.at2 _ _ _ _
 have sW : w.heap.size + 1 < W.heap.size := by rw [hW];simp
 rw [← hW]
 clear hW
 have d1 := r0.kind
 have d3 := r0.main
 have d4 := r0.of
 have d5 := r0.bonus
 have d6 := r0.bonusOf
 have d7 := r0.extra
 have x0 : W.cell? ⟨w.heap.size + 1,0,none⟩ = some (.slice ma r.main.length mc) := (r1.cell? 0).trans rfl
 have x1 : W.cell? ⟨w.heap.size + 1,1,none⟩ = some (.slice ba r.bonus.length bc) := (r1.cell? 1).trans rfl
 have x2 : W.cell? ⟨w.heap.size + 1,2,none⟩ = some (.slice xa r.extra.length xc) := (r1.cell? 2).trans rfl
 have hP1 := hP.out
 by_cases n1 : (r.main.length : Int) = g.main
 rotate_left
 ·have n1b : ((r.main.length : Int) != g.main) = true := by simpa using n1
  rw [if_pos (.inl n1)] at hP1
  subst hP1
  replace n1 := hide n1
  go_wp2
  go_ret
  exact ⟨rfl,bW⟩
 have n1b : ((r.main.length : Int) != g.main) = false := by simpa using n1
 by_cases n2 : (r.bonus.length : Int) = g.bonus
 rotate_left
 ·have n2b : ((r.bonus.length : Int) != g.bonus) = true := by simpa using n2
  rw [if_pos (.inr (.inl n2))] at hP1
  subst hP1
  replace n1 := hide n1
  replace n2 := hide n2
  go_wp2
  go_ret
  exact ⟨rfl,bW⟩
 have n2b : ((r.bonus.length : Int) != g.bonus) = false := by simpa using n2
 by_cases n3 : (r.extra.length : Int) = g.extra
 rotate_left
 ·have n3b : ((r.extra.length : Int) != g.extra) = true := by simpa using n3
  rw [if_pos (.inr (.inr n3))] at hP1
  subst hP1
  replace n1 := hide n1
  replace n2 := hide n2
  replace n3 := hide n3
  go_wp2
  go_ret
  exact ⟨rfl,bW⟩
 have n3b : ((r.extra.length : Int) != g.extra) = false := by simpa using n3
 rw [if_neg (by omega)] at hP1
 replace n1 := hide n1
 replace n2 := hide n2
 replace n3 := hide n3
 by_cases hk : g.kind = 2
 ·have hkb : (g.kind == 2) = true := by simpa using hk
  rw [if_pos hk] at hP1
  have w1 : IntKind.i64.wrap (g.of - 1) = g.of - 1 := IntWalk.i64_in _ (by omega)
  have cM1 := hide (cM.out W 0 (g.of - 1) false bW)
  rw [← hP1] at cM1
  replace hk := hide hk
  replace hP1 := hide hP1
  go_wp2_with fail
  refine cM1.out.mono ?_
  rintro e w2 ⟨rfl,hb2⟩
  go_wp2
  go_ret
  exact ⟨rfl,Bel.to bW hb2⟩
 have hkb : (g.kind == 2) = false := by simpa using hk
 rw [if_neg hk] at hP1
 replace hk := hide hk
 obtain ⟨c1,hc1⟩ : ∃ c,c = orderE true 1 g.of none r.main := ⟨_,rfl⟩
 have cM1 := hide (cM.out W 1 g.of true bW)
 rw [← hc1] at cM1 hP1
 replace hc1 := hide hc1
 replace hP1 := hide hP1
 go_wp2_with fail
 refine cM1.out.mono ?_
 rintro e w2 ⟨rfl,hb2⟩
 have B2 := Bel.to bW hb2
 have r0 := r0.keep hb2
 have r1 := Row.keep r1 hb2
 have d1 := r0.kind
 have d4 := r0.of
 have d6 := r0.bonusOf
 have x0 : w2.cell? ⟨w.heap.size + 1,0,none⟩ = some (.slice ma r.main.length mc) := (r1.cell? 0).trans rfl
 have x1 : w2.cell? ⟨w.heap.size + 1,1,none⟩ = some (.slice ba r.bonus.length bc) := (r1.cell? 1).trans rfl
 have x2 : w2.cell? ⟨w.heap.size + 1,2,none⟩ = some (.slice xa r.extra.length xc) := (r1.cell? 2).trans rfl
 replace hP1 := hP1.out
 by_cases z1 : c1 = 0
 rotate_left
 ·have z1b : (c1 == 0) = false := by simpa using z1
  have z1c : (c1 != 0) = true := by simpa using z1
  rw [if_pos z1] at hP1
  subst hP1
  replace z1 := hide z1
  go_wp2
  go_ret
  exact ⟨rfl,B2⟩
 subst z1
 rw [if_neg (by simp)] at hP1
 obtain ⟨c2,hc2⟩ : ∃ c,c = orderE true 1 g.bonusOf none r.bonus := ⟨_,rfl⟩
 have cB1 := hide (cB.out w2 1 g.bonusOf true B2)
 rw [← hc2] at cB1 hP1
 replace hc2 := hide hc2
 replace hP1 := hide hP1
 go_wp2_with fail
 refine cB1.out.mono ?_
 rintro e w3 ⟨rfl,hb3⟩
 have B3 := Bel.to B2 hb3
 have r0 := r0.keep hb3
 have r1 := Row.keep r1 hb3
 have d1 := r0.kind
 have d4 := r0.of
 have d6 := r0.bonusOf
 have x0 : w3.cell? ⟨w.heap.size + 1,0,none⟩ = some (.slice ma r.main.length mc) := (r1.cell? 0).trans rfl
 have x1 : w3.cell? ⟨w.heap.size + 1,1,none⟩ = some (.slice ba r.bonus.length bc) := (r1.cell? 1).trans rfl
 have x2 : w3.cell? ⟨w.heap.size + 1,2,none⟩ = some (.slice xa r.extra.length xc) := (r1.cell? 2).trans rfl
 replace hP1 := hP1.out
 by_cases z2 : c2 = 0
 rotate_left
 ·have z2b : (c2 == 0) = false := by simpa using z2
  have z2c : (c2 != 0) = true := by simpa using z2
  rw [if_pos z2] at hP1
  subst hP1
  replace z2 := hide z2
  go_wp2
  go_ret
  exact ⟨rfl,B3⟩
 subst z2
 rw [if_neg (by simp)] at hP1
 obtain ⟨c3,hc3⟩ : ∃ c,c = orderE true 1 g.of none r.extra := ⟨_,rfl⟩
 have cX1 := hide (cX.out w3 1 g.of true B3)
 rw [← hc3] at cX1 hP1
 replace hc3 := hide hc3
 replace hP1 := hide hP1
 go_wp2_with fail
 refine cX1.out.mono ?_
 rintro e w4 ⟨rfl,hb4⟩
 have B4 := Bel.to B3 hb4
 have r0 := r0.keep hb4
 have r1 := Row.keep r1 hb4
 have d1 := r0.kind
 have d4 := r0.of
 have d6 := r0.bonusOf
 have x0 : w4.cell? ⟨w.heap.size + 1,0,none⟩ = some (.slice ma r.main.length mc) := (r1.cell? 0).trans rfl
 have x1 : w4.cell? ⟨w.heap.size + 1,1,none⟩ = some (.slice ba r.bonus.length bc) := (r1.cell? 1).trans rfl
 have x2 : w4.cell? ⟨w.heap.size + 1,2,none⟩ = some (.slice xa r.extra.length xc) := (r1.cell? 2).trans rfl
 replace hP1 := hP1.out
 by_cases z3 : c3 = 0
 rotate_left
 ·have z3c : (c3 != 0) = true := by simpa using z3
  rw [if_pos z3] at hP1
  subst hP1
  replace z3 := hide z3
  go_wp2
  go_ret
  exact ⟨rfl,B4⟩
 subst z3
 rw [if_neg (by simp)] at hP1
 obtain ⟨n,hn⟩ : ∃ n,n = r.extra.length := ⟨_,rfl⟩
 rw [← hn] at x2
 have hn63 : (n : Int) ≤ 9223372036854775807 := by omega
 replace hn := hide hn
 replace hP1 := hide hP1
 have hrx := hide (fun X (hX : Below w.heap.size w X) => (hrd.out X hX).2.2)
 have hrm := hide (fun X (hX : Below w.heap.size w X) => (hrd.out X hX).1)
 rw [show r.extra.length = n from hn.out.symm] at hrx
 have hB4 := hide B4
 clear cM cB cX cM1 cB1 cX1 r0 r1 d1 d3 d4 d5 d6 d7 x1 hb2 hb3 hb4 B2 B3 B4 bW sW
 go_wp2
 go_loopg [6] n (fun gh t wr => ∃ (i d : Nat),gh = n - i ∧ i ≤ n ∧ t = .int .i64 (i : Int) ∧ wr = w4.drewN d ∧ Hid (∀ y ∈ r.extra.take i,y ∉ r.main))
 case atStart => exact ⟨0,0,rfl,Nat.zero_le _,rfl,rfl,(by intro y hy;simp at hy)⟩
 case round =>
  obtain ⟨i,d,hgh,hi,rfl,rfl,hno⟩ := hrel
  replace hgh := hide hgh
  have BD : Below w.heap.size w ((w4.drewN d).drew) := Bel.drN (Bel.drN hB4.out d) 1
  by_cases hlt : i < n
  ·have hlt2 := hide hlt
   have hil : i < r.extra.length := by rw [← hn.out];exact hlt
   obtain ⟨b9,o9,rfl,hb9,hcell⟩ := (hrx.out _ BD).at_ hil
   obtain ⟨x,hx⟩ : ∃ x,x = r.extra[i] := ⟨_,rfl⟩
   have cx : (w4.drewN d).drew.cell? ⟨b9,o9 + i,none⟩ = some (.int .i64 x) := by rw [hx];exact hcell i hil
   have hsn : r.extra.take (i + 1) = r.extra.take i ++ [x] := by rw [List.take_succ_eq_append_getElem hil,hx]
   have hxm : x ∈ r.extra := by rw [hx];exact List.getElem_mem hil
   have i1 : (0 : Int) ≤ (i : Int) := by omega
   have i2 : (i : Int) < (n : Int) := by omega
   have cH := hide (has28_any _ r.main x _ (hrm.out _ BD))
   clear hcell hx
   by_cases hq : x ∈ r.main
   ·rw [decide_eq_true hq] at cH
    have hP2 : P = 6 := by rw [hP1.out,if_pos ⟨x,hxm,hq⟩]
    subst hP2
    replace hq := hide hq
    replace hsn := hide hsn
    replace hxm := hide hxm
    go_upto_region 15 with (fail)
    refine wp_region_held_drew (S := fun X => (X.cell? ⟨w.heap.size + 1,0,none⟩ = some (.slice ma r.main.length mc) ∧ X.cell? ⟨w.heap.size + 1,2,none⟩ = some (.slice (some ⟨b9,o9,none⟩) n xc)) ∧ X.cell? ⟨b9,o9 + i,none⟩ = some (.int .i64 x)) (by kernel_rfl) (⟨⟨x0,x2⟩,cx⟩) (fun hHeld => ?_)
    refine' wpAnyH_take (i := 0) (oi := _) (v := .pointer (some ⟨w.heap.size + 1,0,none⟩)) rfl (by kernel_rfl) (by kernel_rfl) (by kernel_rfl) (fun _ _ _ h => h) (Or.inl ⟨by first | (go_simp;done) | rfl,fun X _ => by go_simp⟩) hHeld ?_
    try simp only [Act.put,zsA,zsB,zsC]
    refine' wpAnyH_take (i := 1) (oi := _) (v := .slice ma r.main.length mc) rfl (by kernel_rfl) (by kernel_rfl) (by kernel_rfl) (fun _ _ _ h => h) (Or.inl ⟨by first | (go_simp;done) | rfl,fun X hX => by have cX := hX.1.1;go_simp⟩) hHeld ?_
    try simp only [Act.put,zsA,zsB,zsC]
    refine' wpAnyH_take (i := 2) (oi := _) (v := .pointer (some ⟨w.heap.size + 1,2,none⟩)) rfl (by kernel_rfl) (by kernel_rfl) (by kernel_rfl) (fun _ _ _ h => h) (Or.inl ⟨by first | (go_simp;done) | rfl,fun X _ => by go_simp⟩) hHeld ?_
    try simp only [Act.put,zsA,zsB,zsC]
    refine' wpAnyH_take (i := 3) (oi := _) (v := .slice (some ⟨b9,o9,none⟩) n xc) rfl (by kernel_rfl) (by kernel_rfl) (by kernel_rfl) (fun _ _ _ h => h) (Or.inl ⟨by first | (go_simp;done) | rfl,fun X hX => by have cX := hX.1.2;go_simp⟩) hHeld ?_
    try simp only [Act.put,zsA,zsB,zsC]
    refine' wpAnyH_take (i := 4) (oi := _) (v := .int .i64 (i : Int)) rfl (by kernel_rfl) (by kernel_rfl) (by kernel_rfl) (fun _ _ _ h => h) (Or.inl ⟨by first | (go_simp;done) | rfl,fun X _ => by go_simp⟩) hHeld ?_
    try simp only [Act.put,zsA,zsB,zsC]
    refine' wpAnyH_take (i := 5) (oi := _) (v := .pointer (some ⟨b9,o9 + i,none⟩)) rfl (by kernel_rfl) (by kernel_rfl) (by kernel_rfl) (fun _ _ _ h => h) (Or.inl ⟨by first | (go_simp;done) | rfl,fun X _ => by go_simp⟩) hHeld ?_
    try simp only [Act.put,zsA,zsB,zsC]
    refine' wpAnyH_take (i := 6) (oi := _) (v := .int .i64 x) rfl (by kernel_rfl) (by kernel_rfl) (by kernel_rfl) (fun _ _ _ h => h) (Or.inl ⟨by first | (go_simp;done) | rfl,fun X hX => by have cX := hX.2;go_simp⟩) hHeld ?_
    try simp only [Act.put,zsA,zsB,zsC]
    refine wpAnyH_ready (rs := [7]) (by kernel_rfl) (by simp) ?_
    refine AllReadyH.cons (o := _) rfl (fun K hK => ?_) AllReadyH.nil
    go_simp
    refine (cH.out).mono ?_
    rintro e w9 ⟨rfl,rfl⟩
    go_wp2_with fail
    refine hK.out _ _ hHeld (fun hHeld => ?_)
    clear hK K
    try simp only [Act.put,zsA,zsB,zsC]
    refine wpAnyH_done (by kernel_rfl) ?_ _
    go_simp
    clear hHeld
    go_wp2
    go_ret
    exact ⟨rfl,BD⟩
   ·rw [decide_eq_false hq] at cH
    have hno2 : Hid (∀ y ∈ r.extra.take (i + 1),y ∉ r.main) := by
     show ∀ y ∈ r.extra.take (i + 1),y ∉ r.main
     intro y hy
     rw [hsn] at hy
     rcases List.mem_append.1 hy with hy | hy
     ·exact hno.out y hy
     ·rcases List.mem_singleton.1 hy with rfl
      exact hq
    replace hq := hide hq
    replace hsn := hide hsn
    replace hxm := hide hxm
    go_upto_region 15 with (fail)
    refine wp_region_held_drew (S := fun X => (X.cell? ⟨w.heap.size + 1,0,none⟩ = some (.slice ma r.main.length mc) ∧ X.cell? ⟨w.heap.size + 1,2,none⟩ = some (.slice (some ⟨b9,o9,none⟩) n xc)) ∧ X.cell? ⟨b9,o9 + i,none⟩ = some (.int .i64 x)) (by kernel_rfl) (⟨⟨x0,x2⟩,cx⟩) (fun hHeld => ?_)
    refine' wpAnyH_take (i := 0) (oi := _) (v := .pointer (some ⟨w.heap.size + 1,0,none⟩)) rfl (by kernel_rfl) (by kernel_rfl) (by kernel_rfl) (fun _ _ _ h => h) (Or.inl ⟨by first | (go_simp;done) | rfl,fun X _ => by go_simp⟩) hHeld ?_
    try simp only [Act.put,zsA,zsB,zsC]
    refine' wpAnyH_take (i := 1) (oi := _) (v := .slice ma r.main.length mc) rfl (by kernel_rfl) (by kernel_rfl) (by kernel_rfl) (fun _ _ _ h => h) (Or.inl ⟨by first | (go_simp;done) | rfl,fun X hX => by have cX := hX.1.1;go_simp⟩) hHeld ?_
    try simp only [Act.put,zsA,zsB,zsC]
    refine' wpAnyH_take (i := 2) (oi := _) (v := .pointer (some ⟨w.heap.size + 1,2,none⟩)) rfl (by kernel_rfl) (by kernel_rfl) (by kernel_rfl) (fun _ _ _ h => h) (Or.inl ⟨by first | (go_simp;done) | rfl,fun X _ => by go_simp⟩) hHeld ?_
    try simp only [Act.put,zsA,zsB,zsC]
    refine' wpAnyH_take (i := 3) (oi := _) (v := .slice (some ⟨b9,o9,none⟩) n xc) rfl (by kernel_rfl) (by kernel_rfl) (by kernel_rfl) (fun _ _ _ h => h) (Or.inl ⟨by first | (go_simp;done) | rfl,fun X hX => by have cX := hX.1.2;go_simp⟩) hHeld ?_
    try simp only [Act.put,zsA,zsB,zsC]
    refine' wpAnyH_take (i := 4) (oi := _) (v := .int .i64 (i : Int)) rfl (by kernel_rfl) (by kernel_rfl) (by kernel_rfl) (fun _ _ _ h => h) (Or.inl ⟨by first | (go_simp;done) | rfl,fun X _ => by go_simp⟩) hHeld ?_
    try simp only [Act.put,zsA,zsB,zsC]
    refine' wpAnyH_take (i := 5) (oi := _) (v := .pointer (some ⟨b9,o9 + i,none⟩)) rfl (by kernel_rfl) (by kernel_rfl) (by kernel_rfl) (fun _ _ _ h => h) (Or.inl ⟨by first | (go_simp;done) | rfl,fun X _ => by go_simp⟩) hHeld ?_
    try simp only [Act.put,zsA,zsB,zsC]
    refine' wpAnyH_take (i := 6) (oi := _) (v := .int .i64 x) rfl (by kernel_rfl) (by kernel_rfl) (by kernel_rfl) (fun _ _ _ h => h) (Or.inl ⟨by first | (go_simp;done) | rfl,fun X hX => by have cX := hX.2;go_simp⟩) hHeld ?_
    try simp only [Act.put,zsA,zsB,zsC]
    refine wpAnyH_ready (rs := [7]) (by kernel_rfl) (by simp) ?_
    refine AllReadyH.cons (o := _) rfl (fun K hK => ?_) AllReadyH.nil
    go_simp
    refine (cH.out).mono ?_
    rintro e w9 ⟨rfl,rfl⟩
    go_wp2_with fail
    refine hK.out _ _ hHeld (fun hHeld => ?_)
    clear hK K
    try simp only [Act.put,zsA,zsB,zsC]
    refine wpAnyH_done (by kernel_rfl) ?_ _
    go_simp
    clear hHeld
    go_wp2
    go_roundg (n - (i + 1))
    case measure => have := hgh.out;have := hlt2.out;omega
    case rel => exact ⟨i + 1,d + 1,rfl,by have := hlt2.out;omega,by go_num,rfl,hno2⟩
  ·have hin : i = r.extra.length := by have := hn.out;omega
   have hP2 : P = 0 := by
    rw [hP1.out,if_neg]
    rintro ⟨y,hy,hm⟩
    have h9 := hno.out
    rw [hin,List.take_length] at h9
    exact h9 y hy hm
   subst hP2
   replace hin := hide hin
   have i2 : ¬ (i : Int) < (n : Int) := by have := hn.out;have := hin.out;omega
   go_wp2
   go_ret
   exact ⟨rfl,Bel.drN hB4.out d⟩
def extraE (g : GameD) (r : ResD) : Int := if r.factor ≠ 0 ∧ r.factor ∉ factorsG g then 2 else if r.serial.size = 0 then 0 else serialE g r.serial
set_option maxHeartbeats 16000000 in
set_option maxRecDepth 100000 in
theorem extras28_any (g : GameD) (av tv mv bv xv : Value) (ms : List AddonM) (r : ResD) (w : World) (hg : GameR w av tv ms g) (hr : ResR w mv bv xv r) (hs : r.serial.size ≤ 9223372036854775807) :
  Calls Tryz.prog 167 #[gameVal g av tv,resVal mv bv xv r] w (IntB (extraE g r) w) := by
 have cA1 := hide (fun X (hX : Below w.heap.size w X) => addon28_any g av tv ms 1 X (hg.below hX))
 have cA2 := hide (fun X (hX : Below w.heap.size w X) => addon28_any g av tv ms 2 X (hg.below hX))
 have hAd := hide (fun X (hX : Below w.heap.size w X) => (hg.below hX).1)
 have hsp1 := hide (idxGo_spec 1 ms 0)
 have hsp2 := hide (idxGo_spec 2 ms 0)
 have hfd2 := hide (findM_d hg.2.1 2)
 have hfm := hide (factors_M hg.2.1)
 obtain ⟨P,hP⟩ : ∃ P,P = extraE g r := ⟨_,rfl⟩
 rw [← hP]
 unfold extraE at hP
 obtain ⟨T,hT⟩ : ∃ T,T = if r.serial.size = 0 then 0 else serialE g r.serial := ⟨_,rfl⟩
 rw [← hT] at hP
 obtain ⟨aa,ac,rfl,hal,ham⟩ := hg.1.1.shape
 obtain ⟨ta,tc,rfl,htl,htm⟩ := hg.2.2.shape
 obtain ⟨ma,mc,rfl,-,-,-⟩ := hr.1.form
 obtain ⟨ba,bc,rfl,-,-,-⟩ := hr.2.1.form
 obtain ⟨xa,xc,rfl,-,-,-⟩ := hr.2.2.form
 obtain ⟨M,hM⟩ : ∃ M,M = ms.length := ⟨_,rfl⟩
 rw [← hM] at hAd cA1 cA2 ⊢
 replace hM := hide hM
 obtain ⟨fac,hfac⟩ : ∃ q,q = r.factor := ⟨_,rfl⟩
 obtain ⟨ser,hser⟩ : ∃ q,q = r.serial := ⟨_,rfl⟩
 rw [← hser] at hs hT
 rw [← hfac] at hP
 unfold gameVal at cA1 cA2
 unfold gameVal resVal
 rw [← hfac,← hser]
 clear hg hr hal ham htl htm hfac hser
 replace hP := hide hP
 replace hT := hide hT
 go_enter Tryz.func167,Tryz.ntmps167
 go_upto_region 1 with (fail)
 obtain ⟨W,hW⟩ : ∃ W,W = ((w.alloc (Obj.cells #[.string g.name,.int .i64 g.kind,.int .i64 g.price,.int .i64 g.main,.int .i64 g.of,.int .i64 g.bonus,.int .i64 g.bonusOf,.int .i64 g.extra,.int .i64 g.draws,.int .i64 g.system,.int .i64 g.days,.int .i64 g.at_,.int .i64 g.close,.int .i64 g.cancel,.int .i64 g.expiry,.int .i64 g.pool,.int .i64 g.reserve,.int .i64 g.round,.int .i64 g.cap,.int .i64 g.rolls,(.slice aa M ac),(.slice ta g.tiers.length tc)] 25)).alloc (Obj.cells #[.slice ma r.main.length mc,.slice ba r.bonus.length bc,.slice xa r.extra.length xc,.int .i64 fac,.string ser] 29)) := ⟨_,rfl⟩
 have bW : Below w.heap.size w W := by rw [hW];exact Bel.al (Bel.al (Below.refl _ _) _) _
 have r0 : GameAt W (w.heap.size) g ((.slice aa M ac)) ((.slice ta g.tiers.length tc)) := by rw [hW];exact Row.alloc (Row.new _ _ _) _
 have r1 : Row W ((w.heap.size + 1)) 29 [.slice ma r.main.length mc,.slice ba r.bonus.length bc,.slice xa r.extra.length xc,.int .i64 fac,.string ser] := by rw [hW];exact Row.at2 _ _ _ _
 have sW : w.heap.size + 1 < W.heap.size := by rw [hW];simp
 rw [← hW]
 clear hW
 go_wp2_with (first | (refine wpList_load_row rfl 25 _ rfl _ rfl _ _ _ _ r0 Tryz.underlying25 rfl (by kernel_rfl) ?_) | fail)
 refine (cA1.out _ bW).mono ?_
 rintro e w1 ⟨rfl,hb1⟩
 have B1 := Bel.to bW hb1
 have r0 := r0.keep hb1
 have r1 := Row.keep r1 hb1
 have x3 : w1.cell? ⟨w.heap.size + 1,3,none⟩ = some (.int .i64 fac) := (r1.cell? 3).trans rfl
 have x20 : w1.cell? ⟨w.heap.size,20,none⟩ = some (.slice aa M ac) := r0.addons
 clear hb1 cA1
 have B2 : Below w.heap.size w w1.drew := Bel.to B1 (Below.drewSelf _)
 by_cases hf0 : fac = 0
 ·have hfb : ((0 : Int) != 0) = false := by simp
  have hP1 := hP.out
  rw [if_neg (fun e => e.1 hf0)] at hP1
  subst hP1
  subst hf0
  replace hT := hT.out
  obtain ⟨IX,hIX⟩ : ∃ q,q = idxGo 1 ms 0 := ⟨_,rfl⟩
  rw [← hIX]
  go_upto_region 2 with (fail)
  go_quiet (fail)
  have BD : Below w.heap.size w (w1.drewN nq) := Bel.drN B1 nq
  have r0 : GameAt (w1.drewN nq) w.heap.size g (.slice aa M ac) (.slice ta g.tiers.length tc) := r0
  have r1 := Row.drewN r1 nq
  obtain ⟨D,hD⟩ : ∃ D,D = w1.drewN nq := ⟨_,rfl⟩
  rw [← hD] at r0 r1 BD ⊢
  clear hD
  clear hsp1 hIX x3 x20 hP
  have hr0 := r0.keep (Below.refl _ _)
  have x4 : D.cell? ⟨w.heap.size + 1,4,none⟩ = some (.string ser) := (r1.cell? 4).trans rfl
  by_cases hse : ser = ⟨#[]⟩
  ·have hz : ser.size = 0 := by rw [hse];rfl
   rw [if_pos hz] at hT
   subst hse
   subst hT
   replace hz := hide hz
   go_wp2
   go_ret
   exact ⟨rfl,BD⟩
  have hsz : ser.size ≠ 0 := fun h => hse (ByteArray.ext (Array.eq_empty_of_size_eq_zero h))
  have hnb := str_ne _ hse
  rw [if_neg hsz] at hT
  replace hse := hide hse
  replace hsz := hide hsz
  replace hT := hide hT
  go_wp2_with (first | (refine wpList_load_row rfl 25 _ rfl _ rfl _ _ _ _ r0 Tryz.underlying25 rfl (by kernel_rfl) ?_) | fail)
  refine (cA2.out D (BD)).mono ?_
  rintro e w5 ⟨rfl,hb5⟩
  have B5 := Bel.to (BD) hb5
  have r0 := r0.keep hb5
  have r1 := Row.keep r1 hb5
  have x4 : w5.cell? ⟨w.heap.size + 1,4,none⟩ = some (.string ser) := (r1.cell? 4).trans rfl
  have x20 : w5.cell? ⟨w.heap.size,20,none⟩ = some (.slice aa M ac) := r0.addons
  rcases hsp2.out with ⟨hi2,hf2⟩ | ⟨j,hj,hi2,hf2⟩
  ·rw [hi2]
   have hT2 := hT.out
   unfold serialE at hT2
   rw [hfd2.out,hf2] at hT2
   have hT3 : P = 3 := hT2
   subst hT3
   replace hi2 := hide hi2
   replace hf2 := hide hf2
   clear hT hT2
   go_upto_region 7 with (fail)
   go_quiet (fail)
   go_wp2
   go_ret
   exact ⟨rfl,Bel.drN B5 _⟩
  ·rw [hi2,Nat.zero_add]
   obtain ⟨b9,o9,rfl,hb9,hcell⟩ := (hAd.out w5 B5).1.at_ hj
   obtain ⟨m,hm⟩ : ∃ m,m = ms[j] := ⟨_,rfl⟩
   have hmi : ms[j]? = some m := by rw [hm];exact List.getElem?_eq_getElem hj
   have c4 : w5.cell? ⟨b9,o9 + j * 6 + 4,none⟩ = some (.int .i64 m.d.digits) := hcell j m hmi 4 _ rfl
   have hT2 := hT.out
   unfold serialE at hT2
   rw [hfd2.out,hf2,← hm] at hT2
   simp only [Option.map_some] at hT2
   obtain ⟨dg,hdg⟩ : ∃ q,q = m.d.digits := ⟨_,rfl⟩
   rw [← hdg] at c4 hT2
   have i1 : (0 : Int) ≤ (j : Int) := by omega
   have i2 : (j : Int) < (M : Int) := by have := hM.out;omega
   have i3 : decide ((j : Int) < 0) = false := decide_eq_false (by omega)
   replace hi2 := hide hi2
   replace hf2 := hide hf2
   clear hcell hmi hm hdg hT hr0
   by_cases hd : (ser.size : Int) = dg
   rotate_left
   ·have hdb : ((ser.size : Int) != dg) = true := by simpa using hd
    rw [if_pos hd] at hT2
    subst hT2
    replace hd := hide hd
    go_upto_region 7 with (fail)
    refine wp_region_held_drew (S := fun X => (X.cell? ⟨w.heap.size + 1,4,none⟩ = some (.string ser) ∧ X.cell? ⟨w.heap.size,20,none⟩ = some (.slice (some ⟨b9,o9,none⟩) M ac)) ∧ X.cell? ⟨b9,o9 + j * 6 + 4,none⟩ = some (.int .i64 dg)) (by kernel_rfl) (⟨⟨x4,x20⟩,c4⟩) (fun hHeld => ?_)
    refine' wpAnyH_take (i := 0) (oi := _) (v := .int .i64 (j : Int)) rfl (by kernel_rfl) (by kernel_rfl) (by kernel_rfl) (fun _ _ _ h => h) (Or.inl ⟨by first | (go_simp;done) | rfl,fun X _ => by go_simp⟩) hHeld ?_
    try simp only [Act.put,zsA,zsB,zsC]
    refine' wpAnyH_take (i := 1) (oi := _) (v := .bool false) rfl (by kernel_rfl) (by kernel_rfl) (by kernel_rfl) (fun _ _ _ h => h) (Or.inl ⟨by first | (go_simp;done) | rfl,fun X _ => by go_simp⟩) hHeld ?_
    try simp only [Act.put,zsA,zsB,zsC]
    refine' wpAnyH_take (i := 2) (oi := _) (v := .bool false) rfl (by kernel_rfl) (by kernel_rfl) (by kernel_rfl) (fun _ _ _ h => h) (Or.inl ⟨by first | (go_simp;done) | rfl,fun X _ => by go_simp⟩) hHeld ?_
    try simp only [Act.put,zsA,zsB,zsC]
    refine' wpAnyH_take (i := 3) (oi := _) (v := .pointer (some ⟨w.heap.size + 1,4,none⟩)) rfl (by kernel_rfl) (by kernel_rfl) (by kernel_rfl) (fun _ _ _ h => h) (Or.inl ⟨by first | (go_simp;done) | rfl,fun X _ => by go_simp⟩) hHeld ?_
    try simp only [Act.put,zsA,zsB,zsC]
    refine' wpAnyH_take (i := 4) (oi := _) (v := .string ser) rfl (by kernel_rfl) (by kernel_rfl) (by kernel_rfl) (fun _ _ _ h => h) (Or.inl ⟨by first | (go_simp;done) | rfl,fun X hX => by have cX := hX.1.1;go_simp⟩) hHeld ?_
    try simp only [Act.put,zsA,zsB,zsC]
    refine' wpAnyH_take (i := 5) (oi := _) (v := .int .i64 (ser.size : Int)) rfl (by kernel_rfl) (by kernel_rfl) (by kernel_rfl) (fun _ _ _ h => h) (Or.inl ⟨by first | (go_simp;done) | rfl,fun X _ => by go_simp⟩) hHeld ?_
    try simp only [Act.put,zsA,zsB,zsC]
    refine' wpAnyH_take (i := 6) (oi := _) (v := .pointer (some ⟨w.heap.size,20,none⟩)) rfl (by kernel_rfl) (by kernel_rfl) (by kernel_rfl) (fun _ _ _ h => h) (Or.inl ⟨by first | (go_simp;done) | rfl,fun X _ => by go_simp⟩) hHeld ?_
    try simp only [Act.put,zsA,zsB,zsC]
    refine' wpAnyH_take (i := 7) (oi := _) (v := .slice (some ⟨b9,o9,none⟩) M ac) rfl (by kernel_rfl) (by kernel_rfl) (by kernel_rfl) (fun _ _ _ h => h) (Or.inl ⟨by first | (go_simp;done) | rfl,fun X hX => by have cX := hX.1.2;go_simp⟩) hHeld ?_
    try simp only [Act.put,zsA,zsB,zsC]
    refine' wpAnyH_take (i := 8) (oi := _) (v := .int .i64 (j : Int)) rfl (by kernel_rfl) (by kernel_rfl) (by kernel_rfl) (fun _ _ _ h => h) (Or.inl ⟨by first | (go_simp;done) | rfl,fun X _ => by go_simp⟩) hHeld ?_
    try simp only [Act.put,zsA,zsB,zsC]
    refine' wpAnyH_take (i := 9) (oi := _) (v := .pointer (some ⟨b9,o9 + j * 6,none⟩)) rfl (by kernel_rfl) (by kernel_rfl) (by kernel_rfl) (fun _ _ _ h => h) (Or.inl ⟨by first | (go_simp;done) | rfl,fun X _ => by go_simp⟩) hHeld ?_
    try simp only [Act.put,zsA,zsB,zsC]
    refine' wpAnyH_take (i := 10) (oi := _) (v := .pointer (some ⟨b9,o9 + j * 6 + 4,none⟩)) rfl (by kernel_rfl) (by kernel_rfl) (by kernel_rfl) (fun _ _ _ h => h) (Or.inl ⟨by first | (go_simp;done) | rfl,fun X _ => by go_simp⟩) hHeld ?_
    try simp only [Act.put,zsA,zsB,zsC]
    refine' wpAnyH_take (i := 11) (oi := _) (v := .int .i64 dg) rfl (by kernel_rfl) (by kernel_rfl) (by kernel_rfl) (fun _ _ _ h => h) (Or.inl ⟨by first | (go_simp;done) | rfl,fun X hX => by have cX := hX.2;go_simp⟩) hHeld ?_
    try simp only [Act.put,zsA,zsB,zsC]
    refine' wpAnyH_take (i := 12) (oi := _) (v := .bool true) rfl (by kernel_rfl) (by kernel_rfl) (by kernel_rfl) (fun _ _ _ h => h) (Or.inl ⟨by first | (go_simp;done) | rfl,fun X _ => by go_simp⟩) hHeld ?_
    try simp only [Act.put,zsA,zsB,zsC]
    refine' wpAnyH_take (i := 13) (oi := _) (v := .bool true) rfl (by kernel_rfl) (by kernel_rfl) (by kernel_rfl) (fun _ _ _ h => h) (Or.inl ⟨by first | (go_simp;done) | rfl,fun X _ => by go_simp⟩) hHeld ?_
    try simp only [Act.put,zsA,zsB,zsC]
    refine wpAnyH_done (by kernel_rfl) ?_ _
    go_simp
    clear hHeld
    go_wp2
    go_ret
    exact ⟨rfl,Bel.to B5 (Below.drewSelf _)⟩
   ·have hdb : ((ser.size : Int) != dg) = false := by simpa using hd
    rw [if_neg (by simpa using hd)] at hT2
    replace hd := hide hd
    replace hT2 := hide hT2
    go_upto_region 7 with (fail)
    refine wp_region_held_drew (S := fun X => (X.cell? ⟨w.heap.size + 1,4,none⟩ = some (.string ser) ∧ X.cell? ⟨w.heap.size,20,none⟩ = some (.slice (some ⟨b9,o9,none⟩) M ac)) ∧ X.cell? ⟨b9,o9 + j * 6 + 4,none⟩ = some (.int .i64 dg)) (by kernel_rfl) (⟨⟨x4,x20⟩,c4⟩) (fun hHeld => ?_)
    refine' wpAnyH_take (i := 0) (oi := _) (v := .int .i64 (j : Int)) rfl (by kernel_rfl) (by kernel_rfl) (by kernel_rfl) (fun _ _ _ h => h) (Or.inl ⟨by first | (go_simp;done) | rfl,fun X _ => by go_simp⟩) hHeld ?_
    try simp only [Act.put,zsA,zsB,zsC]
    refine' wpAnyH_take (i := 1) (oi := _) (v := .bool false) rfl (by kernel_rfl) (by kernel_rfl) (by kernel_rfl) (fun _ _ _ h => h) (Or.inl ⟨by first | (go_simp;done) | rfl,fun X _ => by go_simp⟩) hHeld ?_
    try simp only [Act.put,zsA,zsB,zsC]
    refine' wpAnyH_take (i := 2) (oi := _) (v := .bool false) rfl (by kernel_rfl) (by kernel_rfl) (by kernel_rfl) (fun _ _ _ h => h) (Or.inl ⟨by first | (go_simp;done) | rfl,fun X _ => by go_simp⟩) hHeld ?_
    try simp only [Act.put,zsA,zsB,zsC]
    refine' wpAnyH_take (i := 3) (oi := _) (v := .pointer (some ⟨w.heap.size + 1,4,none⟩)) rfl (by kernel_rfl) (by kernel_rfl) (by kernel_rfl) (fun _ _ _ h => h) (Or.inl ⟨by first | (go_simp;done) | rfl,fun X _ => by go_simp⟩) hHeld ?_
    try simp only [Act.put,zsA,zsB,zsC]
    refine' wpAnyH_take (i := 4) (oi := _) (v := .string ser) rfl (by kernel_rfl) (by kernel_rfl) (by kernel_rfl) (fun _ _ _ h => h) (Or.inl ⟨by first | (go_simp;done) | rfl,fun X hX => by have cX := hX.1.1;go_simp⟩) hHeld ?_
    try simp only [Act.put,zsA,zsB,zsC]
    refine' wpAnyH_take (i := 5) (oi := _) (v := .int .i64 (ser.size : Int)) rfl (by kernel_rfl) (by kernel_rfl) (by kernel_rfl) (fun _ _ _ h => h) (Or.inl ⟨by first | (go_simp;done) | rfl,fun X _ => by go_simp⟩) hHeld ?_
    try simp only [Act.put,zsA,zsB,zsC]
    refine' wpAnyH_take (i := 6) (oi := _) (v := .pointer (some ⟨w.heap.size,20,none⟩)) rfl (by kernel_rfl) (by kernel_rfl) (by kernel_rfl) (fun _ _ _ h => h) (Or.inl ⟨by first | (go_simp;done) | rfl,fun X _ => by go_simp⟩) hHeld ?_
    try simp only [Act.put,zsA,zsB,zsC]
    refine' wpAnyH_take (i := 7) (oi := _) (v := .slice (some ⟨b9,o9,none⟩) M ac) rfl (by kernel_rfl) (by kernel_rfl) (by kernel_rfl) (fun _ _ _ h => h) (Or.inl ⟨by first | (go_simp;done) | rfl,fun X hX => by have cX := hX.1.2;go_simp⟩) hHeld ?_
    try simp only [Act.put,zsA,zsB,zsC]
    refine' wpAnyH_take (i := 8) (oi := _) (v := .int .i64 (j : Int)) rfl (by kernel_rfl) (by kernel_rfl) (by kernel_rfl) (fun _ _ _ h => h) (Or.inl ⟨by first | (go_simp;done) | rfl,fun X _ => by go_simp⟩) hHeld ?_
    try simp only [Act.put,zsA,zsB,zsC]
    refine' wpAnyH_take (i := 9) (oi := _) (v := .pointer (some ⟨b9,o9 + j * 6,none⟩)) rfl (by kernel_rfl) (by kernel_rfl) (by kernel_rfl) (fun _ _ _ h => h) (Or.inl ⟨by first | (go_simp;done) | rfl,fun X _ => by go_simp⟩) hHeld ?_
    try simp only [Act.put,zsA,zsB,zsC]
    refine' wpAnyH_take (i := 10) (oi := _) (v := .pointer (some ⟨b9,o9 + j * 6 + 4,none⟩)) rfl (by kernel_rfl) (by kernel_rfl) (by kernel_rfl) (fun _ _ _ h => h) (Or.inl ⟨by first | (go_simp;done) | rfl,fun X _ => by go_simp⟩) hHeld ?_
    try simp only [Act.put,zsA,zsB,zsC]
    refine' wpAnyH_take (i := 11) (oi := _) (v := .int .i64 dg) rfl (by kernel_rfl) (by kernel_rfl) (by kernel_rfl) (fun _ _ _ h => h) (Or.inl ⟨by first | (go_simp;done) | rfl,fun X hX => by have cX := hX.2;go_simp⟩) hHeld ?_
    try simp only [Act.put,zsA,zsB,zsC]
    refine' wpAnyH_take (i := 12) (oi := _) (v := .bool false) rfl (by kernel_rfl) (by kernel_rfl) (by kernel_rfl) (fun _ _ _ h => h) (Or.inl ⟨by first | (go_simp;done) | rfl,fun X _ => by go_simp⟩) hHeld ?_
    try simp only [Act.put,zsA,zsB,zsC]
    refine' wpAnyH_take (i := 13) (oi := _) (v := .bool false) rfl (by kernel_rfl) (by kernel_rfl) (by kernel_rfl) (fun _ _ _ h => h) (Or.inl ⟨by first | (go_simp;done) | rfl,fun X _ => by go_simp⟩) hHeld ?_
    try simp only [Act.put,zsA,zsB,zsC]
    refine wpAnyH_done (by kernel_rfl) ?_ _
    go_simp
    clear hHeld
    have x4 : w5.drew.cell? ⟨w.heap.size + 1,4,none⟩ = some (.string ser) := x4
    have B6 : Below w.heap.size w w5.drew := Bel.to B5 (Below.drewSelf _)
    obtain ⟨W6,hW6⟩ : ∃ W6,W6 = w5.drew := ⟨_,rfl⟩
    rw [← hW6] at x4 B6 ⊢
    clear hW6 r0 r1 x20 c4
    go_wp2
    go_loopg [7] ser.size (fun gh t wr => ∃ (i : Nat),gh = ser.size - i ∧ i ≤ ser.size ∧ t = .int .i64 (i : Int) ∧ Hid (∀ j,j < i → 48 ≤ byteN ser j ∧ byteN ser j ≤ 57) ∧ W6 = wr)
    case atStart => exact ⟨0,rfl,Nat.zero_le _,rfl,fun j hj => absurd hj (Nat.not_lt_zero _),rfl⟩
    case round =>
     obtain ⟨i,hgh,hi,rfl,hall,rfl⟩ := hrel
     replace hgh := hide hgh
     by_cases hlt : i < ser.size
     ·have hlt2 := hide hlt
      have hb := byteN_eq hlt
      obtain ⟨d,hdd⟩ : ∃ d,d = (ser[i]'hlt).toNat := ⟨_,rfl⟩
      rw [← hdd] at hb
      by_cases h1 : d < 48
      ·have hP2 := hT2.out
       rw [serial_bad hlt (.inl (by omega)),if_neg (by simp)] at hP2
       subst hP2
       have d1 : (d : Int) < 48 := by omega
       clear hb h1
       subst hdd
       go_wp2
       go_ret
       exact ⟨rfl,B6⟩
      ·by_cases h2 : 57 < d
       ·have hP2 := hT2.out
        rw [serial_bad hlt (.inr (by omega)),if_neg (by simp)] at hP2
        subst hP2
        have d1 : ¬ (d : Int) < 48 := by omega
        have d2 : (57 : Int) < (d : Int) := by omega
        clear hb h1 h2
        subst hdd
        go_wp2
        go_ret
        exact ⟨rfl,B6⟩
       ·have hnext : Hid (∀ j,j < i + 1 → 48 ≤ byteN ser j ∧ byteN ser j ≤ 57) := by
         intro j hj
         rcases Nat.lt_succ_iff_lt_or_eq.1 hj with h | rfl
         ·exact hall.out j h
         ·omega
        have d1 : ¬ (d : Int) < 48 := by omega
        have d2 : ¬ (57 : Int) < (d : Int) := by omega
        clear hb h1 h2
        subst hdd
        go_wp2
        go_roundg (ser.size - (i + 1))
        case measure => have := hgh.out;have := hlt2.out;omega
        case rel => exact ⟨i + 1,rfl,by have := hlt2.out;omega,by go_num,hnext,rfl⟩
     ·have his : i = ser.size := by omega
      have hP2 := hT2.out
      rw [serial_ok (by rw [← his];exact hall.out),if_pos rfl] at hP2
      subst hP2
      replace his := hide his
      have i2 : ¬ (i : Int) < (ser.size : Int) := by omega
      go_wp2
      go_ret
      exact ⟨rfl,B6⟩
 ·have hfb : (fac != 0) = true := by simpa using hf0
  rcases hsp1.out with ⟨hi1,hf1⟩ | ⟨j,hj,hi1,hf1⟩
  ·rw [hi1]
   have hP1 := hP.out
   rw [hfm.out,hf1,if_pos ⟨hf0,by simp⟩] at hP1
   subst hP1
   replace hf0 := hide hf0
   replace hi1 := hide hi1
   replace hf1 := hide hf1
   clear hP
   go_upto_region 2 with (fail)
   go_quiet (fail)
   go_wp2
   go_ret
   exact ⟨rfl,Bel.drN B1 _⟩
  ·rw [hi1,Nat.zero_add]
   obtain ⟨b9,o9,rfl,hb9,hcell⟩ := (hAd.out w1 B1).1.at_ hj
   obtain ⟨m,hm⟩ : ∃ m,m = ms[j] := ⟨_,rfl⟩
   have hmi : ms[j]? = some m := by rw [hm];exact List.getElem?_eq_getElem hj
   have hAm := ((hAd.out w1.drew B2).2 j m hmi).1
   have c3 : w1.cell? ⟨b9,o9 + j * 6 + 3,none⟩ = some m.fv := hcell j m hmi 3 _ rfl
   obtain ⟨fa,fn,fc,hfv⟩ := Rd.shape hAm
   rw [hfv] at hAm c3
   have cH := hide (has28_any _ m.d.factors fac _ hAm)
   have hP1 := hP.out
   rw [hfm.out,hf1,← hm] at hP1
   simp only [Option.map_some,Option.getD_some] at hP1
   have i1 : (0 : Int) ≤ (j : Int) := by omega
   have i2 : (j : Int) < (M : Int) := by have := hM.out;omega
   have i3 : decide ((j : Int) < 0) = false := decide_eq_false (by omega)
   have hf0h := hide hf0
   replace hi1 := hide hi1
   replace hf1 := hide hf1
   clear hcell hmi hm hfv hAm
   by_cases hin : fac ∈ m.d.factors
   ·rw [decide_eq_true hin] at cH
    rw [if_neg (fun e => e.2 hin)] at hP1
    subst hP1
    replace hin := hide hin
    clear hP hf0
    replace hT := hT.out
    go_upto_region 2 with (fail)
    refine wp_region_held_drew (S := fun X => (X.cell? ⟨w.heap.size + 1,3,none⟩ = some (.int .i64 fac) ∧ X.cell? ⟨w.heap.size,20,none⟩ = some (.slice (some ⟨b9,o9,none⟩) M ac)) ∧ X.cell? ⟨b9,o9 + j * 6 + 3,none⟩ = some (.slice fa fn fc)) (by kernel_rfl) (⟨⟨x3,x20⟩,c3⟩) (fun hHeld => ?_)
    refine' wpAnyH_take (i := 0) (oi := _) (v := .pointer (some ⟨w.heap.size + 1,3,none⟩)) rfl (by kernel_rfl) (by kernel_rfl) (by kernel_rfl) (fun _ _ _ h => h) (Or.inl ⟨by first | (go_simp;done) | rfl,fun X _ => by go_simp⟩) hHeld ?_
    try simp only [Act.put,zsA,zsB,zsC]
    refine' wpAnyH_take (i := 1) (oi := _) (v := .int .i64 fac) rfl (by kernel_rfl) (by kernel_rfl) (by kernel_rfl) (fun _ _ _ h => h) (Or.inl ⟨by first | (go_simp;done) | rfl,fun X hX => by have cX := hX.1.1;go_simp⟩) hHeld ?_
    try simp only [Act.put,zsA,zsB,zsC]
    refine' wpAnyH_take (i := 2) (oi := _) (v := .bool true) rfl (by kernel_rfl) (by kernel_rfl) (by kernel_rfl) (fun _ _ _ h => h) (Or.inl ⟨by first | (go_simp;done) | rfl,fun X _ => by go_simp⟩) hHeld ?_
    try simp only [Act.put,zsA,zsB,zsC]
    refine' wpAnyH_take (i := 3) (oi := _) (v := .bool true) rfl (by kernel_rfl) (by kernel_rfl) (by kernel_rfl) (fun _ _ _ h => h) (Or.inl ⟨by first | (go_simp;done) | rfl,fun X _ => by go_simp⟩) hHeld ?_
    try simp only [Act.put,zsA,zsB,zsC]
    refine' wpAnyH_take (i := 4) (oi := _) (v := .int .i64 (j : Int)) rfl (by kernel_rfl) (by kernel_rfl) (by kernel_rfl) (fun _ _ _ h => h) (Or.inl ⟨by first | (go_simp;done) | rfl,fun X _ => by go_simp⟩) hHeld ?_
    try simp only [Act.put,zsA,zsB,zsC]
    refine' wpAnyH_take (i := 5) (oi := _) (v := .bool false) rfl (by kernel_rfl) (by kernel_rfl) (by kernel_rfl) (fun _ _ _ h => h) (Or.inl ⟨by first | (go_simp;done) | rfl,fun X _ => by go_simp⟩) hHeld ?_
    try simp only [Act.put,zsA,zsB,zsC]
    refine' wpAnyH_take (i := 6) (oi := _) (v := .bool false) rfl (by kernel_rfl) (by kernel_rfl) (by kernel_rfl) (fun _ _ _ h => h) (Or.inl ⟨by first | (go_simp;done) | rfl,fun X _ => by go_simp⟩) hHeld ?_
    try simp only [Act.put,zsA,zsB,zsC]
    refine' wpAnyH_take (i := 7) (oi := _) (v := .pointer (some ⟨w.heap.size,20,none⟩)) rfl (by kernel_rfl) (by kernel_rfl) (by kernel_rfl) (fun _ _ _ h => h) (Or.inl ⟨by first | (go_simp;done) | rfl,fun X _ => by go_simp⟩) hHeld ?_
    try simp only [Act.put,zsA,zsB,zsC]
    refine' wpAnyH_take (i := 8) (oi := _) (v := .slice (some ⟨b9,o9,none⟩) M ac) rfl (by kernel_rfl) (by kernel_rfl) (by kernel_rfl) (fun _ _ _ h => h) (Or.inl ⟨by first | (go_simp;done) | rfl,fun X hX => by have cX := hX.1.2;go_simp⟩) hHeld ?_
    try simp only [Act.put,zsA,zsB,zsC]
    refine' wpAnyH_take (i := 9) (oi := _) (v := .int .i64 (j : Int)) rfl (by kernel_rfl) (by kernel_rfl) (by kernel_rfl) (fun _ _ _ h => h) (Or.inl ⟨by first | (go_simp;done) | rfl,fun X _ => by go_simp⟩) hHeld ?_
    try simp only [Act.put,zsA,zsB,zsC]
    refine' wpAnyH_take (i := 10) (oi := _) (v := .pointer (some ⟨b9,o9 + j * 6,none⟩)) rfl (by kernel_rfl) (by kernel_rfl) (by kernel_rfl) (fun _ _ _ h => h) (Or.inl ⟨by first | (go_simp;done) | rfl,fun X _ => by go_simp⟩) hHeld ?_
    try simp only [Act.put,zsA,zsB,zsC]
    refine' wpAnyH_take (i := 11) (oi := _) (v := .pointer (some ⟨b9,o9 + j * 6 + 3,none⟩)) rfl (by kernel_rfl) (by kernel_rfl) (by kernel_rfl) (fun _ _ _ h => h) (Or.inl ⟨by first | (go_simp;done) | rfl,fun X _ => by go_simp⟩) hHeld ?_
    try simp only [Act.put,zsA,zsB,zsC]
    refine' wpAnyH_take (i := 12) (oi := _) (v := .slice fa fn fc) rfl (by kernel_rfl) (by kernel_rfl) (by kernel_rfl) (fun _ _ _ h => h) (Or.inl ⟨by first | (go_simp;done) | rfl,fun X hX => by have cX := hX.2;go_simp⟩) hHeld ?_
    try simp only [Act.put,zsA,zsB,zsC]
    refine' wpAnyH_take (i := 13) (oi := _) (v := .pointer (some ⟨w.heap.size + 1,3,none⟩)) rfl (by kernel_rfl) (by kernel_rfl) (by kernel_rfl) (fun _ _ _ h => h) (Or.inl ⟨by first | (go_simp;done) | rfl,fun X _ => by go_simp⟩) hHeld ?_
    try simp only [Act.put,zsA,zsB,zsC]
    refine' wpAnyH_take (i := 14) (oi := _) (v := .int .i64 fac) rfl (by kernel_rfl) (by kernel_rfl) (by kernel_rfl) (fun _ _ _ h => h) (Or.inl ⟨by first | (go_simp;done) | rfl,fun X hX => by have cX := hX.1.1;go_simp⟩) hHeld ?_
    try simp only [Act.put,zsA,zsB,zsC]
    refine wpAnyH_ready (rs := [15]) (by kernel_rfl) (by simp) ?_
    refine AllReadyH.cons (o := _) rfl (fun K hK => ?_) AllReadyH.nil
    go_simp
    refine (cH.out).mono ?_
    rintro e w9 ⟨rfl,rfl⟩
    go_wp2_with fail
    refine hK.out _ _ hHeld (fun hHeld => ?_)
    clear hK K
    try simp only [Act.put,zsA,zsB,zsC]
    refine' wpAnyH_take (i := 16) (oi := _) (v := .bool false) rfl (by kernel_rfl) (by kernel_rfl) (by kernel_rfl) (fun _ _ _ h => h) (Or.inl ⟨by first | (go_simp;done) | rfl,fun X _ => by go_simp⟩) hHeld ?_
    try simp only [Act.put,zsA,zsB,zsC]
    refine' wpAnyH_take (i := 17) (oi := _) (v := .bool false) rfl (by kernel_rfl) (by kernel_rfl) (by kernel_rfl) (fun _ _ _ h => h) (Or.inl ⟨by first | (go_simp;done) | rfl,fun X _ => by go_simp⟩) hHeld ?_
    try simp only [Act.put,zsA,zsB,zsC]
    refine' wpAnyH_take (i := 18) (oi := _) (v := .bool false) rfl (by kernel_rfl) (by kernel_rfl) (by kernel_rfl) (fun _ _ _ h => h) (Or.inl ⟨by first | (go_simp;done) | rfl,fun X _ => by go_simp⟩) hHeld ?_
    try simp only [Act.put,zsA,zsB,zsC]
    refine wpAnyH_done (by kernel_rfl) ?_ _
    go_simp
    clear hHeld
    have r0 := GameAt.drew r0
    have r1 := Row.drew r1
    clear hsp1 x3 x20 c3 cH
    obtain ⟨aa,haa⟩ : ∃ q,q = some (⟨b9,o9,none⟩ : Addr) := ⟨_,rfl⟩
    rw [← haa] at r0 cA2 hAd ⊢
    clear haa i1 i2 i3 hb9
    have hr0 := r0.keep (Below.refl _ _)
    have x4 : w1.drew.cell? ⟨w.heap.size + 1,4,none⟩ = some (.string ser) := (r1.cell? 4).trans rfl
    by_cases hse : ser = ⟨#[]⟩
    ·have hz : ser.size = 0 := by rw [hse];rfl
     rw [if_pos hz] at hT
     subst hse
     subst hT
     replace hz := hide hz
     go_wp2
     go_ret
     exact ⟨rfl,B2⟩
    have hsz : ser.size ≠ 0 := fun h => hse (ByteArray.ext (Array.eq_empty_of_size_eq_zero h))
    have hnb := str_ne _ hse
    rw [if_neg hsz] at hT
    replace hse := hide hse
    replace hsz := hide hsz
    replace hT := hide hT
    go_wp2_with (first | (refine wpList_load_row rfl 25 _ rfl _ rfl _ _ _ _ r0 Tryz.underlying25 rfl (by kernel_rfl) ?_) | fail)
    refine (cA2.out w1.drew (B2)).mono ?_
    rintro e w5 ⟨rfl,hb5⟩
    have B5 := Bel.to (B2) hb5
    have r0 := r0.keep hb5
    have r1 := Row.keep r1 hb5
    have x4 : w5.cell? ⟨w.heap.size + 1,4,none⟩ = some (.string ser) := (r1.cell? 4).trans rfl
    have x20 : w5.cell? ⟨w.heap.size,20,none⟩ = some (.slice aa M ac) := r0.addons
    rcases hsp2.out with ⟨hi2,hf2⟩ | ⟨j,hj,hi2,hf2⟩
    ·rw [hi2]
     have hT2 := hT.out
     unfold serialE at hT2
     rw [hfd2.out,hf2] at hT2
     have hT3 : P = 3 := hT2
     subst hT3
     replace hi2 := hide hi2
     replace hf2 := hide hf2
     clear hT hT2
     go_upto_region 7 with (fail)
     go_quiet (fail)
     go_wp2
     go_ret
     exact ⟨rfl,Bel.drN B5 _⟩
    ·rw [hi2,Nat.zero_add]
     obtain ⟨b9,o9,rfl,hb9,hcell⟩ := (hAd.out w5 B5).1.at_ hj
     obtain ⟨m,hm⟩ : ∃ m,m = ms[j] := ⟨_,rfl⟩
     have hmi : ms[j]? = some m := by rw [hm];exact List.getElem?_eq_getElem hj
     have c4 : w5.cell? ⟨b9,o9 + j * 6 + 4,none⟩ = some (.int .i64 m.d.digits) := hcell j m hmi 4 _ rfl
     have hT2 := hT.out
     unfold serialE at hT2
     rw [hfd2.out,hf2,← hm] at hT2
     simp only [Option.map_some] at hT2
     obtain ⟨dg,hdg⟩ : ∃ q,q = m.d.digits := ⟨_,rfl⟩
     rw [← hdg] at c4 hT2
     have i1 : (0 : Int) ≤ (j : Int) := by omega
     have i2 : (j : Int) < (M : Int) := by have := hM.out;omega
     have i3 : decide ((j : Int) < 0) = false := decide_eq_false (by omega)
     replace hi2 := hide hi2
     replace hf2 := hide hf2
     clear hcell hmi hm hdg hT hr0
     by_cases hd : (ser.size : Int) = dg
     rotate_left
     ·have hdb : ((ser.size : Int) != dg) = true := by simpa using hd
      rw [if_pos hd] at hT2
      subst hT2
      replace hd := hide hd
      go_upto_region 7 with (fail)
      refine wp_region_held_drew (S := fun X => (X.cell? ⟨w.heap.size + 1,4,none⟩ = some (.string ser) ∧ X.cell? ⟨w.heap.size,20,none⟩ = some (.slice (some ⟨b9,o9,none⟩) M ac)) ∧ X.cell? ⟨b9,o9 + j * 6 + 4,none⟩ = some (.int .i64 dg)) (by kernel_rfl) (⟨⟨x4,x20⟩,c4⟩) (fun hHeld => ?_)
      refine' wpAnyH_take (i := 0) (oi := _) (v := .int .i64 (j : Int)) rfl (by kernel_rfl) (by kernel_rfl) (by kernel_rfl) (fun _ _ _ h => h) (Or.inl ⟨by first | (go_simp;done) | rfl,fun X _ => by go_simp⟩) hHeld ?_
      try simp only [Act.put,zsA,zsB,zsC]
      refine' wpAnyH_take (i := 1) (oi := _) (v := .bool false) rfl (by kernel_rfl) (by kernel_rfl) (by kernel_rfl) (fun _ _ _ h => h) (Or.inl ⟨by first | (go_simp;done) | rfl,fun X _ => by go_simp⟩) hHeld ?_
      try simp only [Act.put,zsA,zsB,zsC]
      refine' wpAnyH_take (i := 2) (oi := _) (v := .bool false) rfl (by kernel_rfl) (by kernel_rfl) (by kernel_rfl) (fun _ _ _ h => h) (Or.inl ⟨by first | (go_simp;done) | rfl,fun X _ => by go_simp⟩) hHeld ?_
      try simp only [Act.put,zsA,zsB,zsC]
      refine' wpAnyH_take (i := 3) (oi := _) (v := .pointer (some ⟨w.heap.size + 1,4,none⟩)) rfl (by kernel_rfl) (by kernel_rfl) (by kernel_rfl) (fun _ _ _ h => h) (Or.inl ⟨by first | (go_simp;done) | rfl,fun X _ => by go_simp⟩) hHeld ?_
      try simp only [Act.put,zsA,zsB,zsC]
      refine' wpAnyH_take (i := 4) (oi := _) (v := .string ser) rfl (by kernel_rfl) (by kernel_rfl) (by kernel_rfl) (fun _ _ _ h => h) (Or.inl ⟨by first | (go_simp;done) | rfl,fun X hX => by have cX := hX.1.1;go_simp⟩) hHeld ?_
      try simp only [Act.put,zsA,zsB,zsC]
      refine' wpAnyH_take (i := 5) (oi := _) (v := .int .i64 (ser.size : Int)) rfl (by kernel_rfl) (by kernel_rfl) (by kernel_rfl) (fun _ _ _ h => h) (Or.inl ⟨by first | (go_simp;done) | rfl,fun X _ => by go_simp⟩) hHeld ?_
      try simp only [Act.put,zsA,zsB,zsC]
      refine' wpAnyH_take (i := 6) (oi := _) (v := .pointer (some ⟨w.heap.size,20,none⟩)) rfl (by kernel_rfl) (by kernel_rfl) (by kernel_rfl) (fun _ _ _ h => h) (Or.inl ⟨by first | (go_simp;done) | rfl,fun X _ => by go_simp⟩) hHeld ?_
      try simp only [Act.put,zsA,zsB,zsC]
      refine' wpAnyH_take (i := 7) (oi := _) (v := .slice (some ⟨b9,o9,none⟩) M ac) rfl (by kernel_rfl) (by kernel_rfl) (by kernel_rfl) (fun _ _ _ h => h) (Or.inl ⟨by first | (go_simp;done) | rfl,fun X hX => by have cX := hX.1.2;go_simp⟩) hHeld ?_
      try simp only [Act.put,zsA,zsB,zsC]
      refine' wpAnyH_take (i := 8) (oi := _) (v := .int .i64 (j : Int)) rfl (by kernel_rfl) (by kernel_rfl) (by kernel_rfl) (fun _ _ _ h => h) (Or.inl ⟨by first | (go_simp;done) | rfl,fun X _ => by go_simp⟩) hHeld ?_
      try simp only [Act.put,zsA,zsB,zsC]
      refine' wpAnyH_take (i := 9) (oi := _) (v := .pointer (some ⟨b9,o9 + j * 6,none⟩)) rfl (by kernel_rfl) (by kernel_rfl) (by kernel_rfl) (fun _ _ _ h => h) (Or.inl ⟨by first | (go_simp;done) | rfl,fun X _ => by go_simp⟩) hHeld ?_
      try simp only [Act.put,zsA,zsB,zsC]
      refine' wpAnyH_take (i := 10) (oi := _) (v := .pointer (some ⟨b9,o9 + j * 6 + 4,none⟩)) rfl (by kernel_rfl) (by kernel_rfl) (by kernel_rfl) (fun _ _ _ h => h) (Or.inl ⟨by first | (go_simp;done) | rfl,fun X _ => by go_simp⟩) hHeld ?_
      try simp only [Act.put,zsA,zsB,zsC]
      refine' wpAnyH_take (i := 11) (oi := _) (v := .int .i64 dg) rfl (by kernel_rfl) (by kernel_rfl) (by kernel_rfl) (fun _ _ _ h => h) (Or.inl ⟨by first | (go_simp;done) | rfl,fun X hX => by have cX := hX.2;go_simp⟩) hHeld ?_
      try simp only [Act.put,zsA,zsB,zsC]
      refine' wpAnyH_take (i := 12) (oi := _) (v := .bool true) rfl (by kernel_rfl) (by kernel_rfl) (by kernel_rfl) (fun _ _ _ h => h) (Or.inl ⟨by first | (go_simp;done) | rfl,fun X _ => by go_simp⟩) hHeld ?_
      try simp only [Act.put,zsA,zsB,zsC]
      refine' wpAnyH_take (i := 13) (oi := _) (v := .bool true) rfl (by kernel_rfl) (by kernel_rfl) (by kernel_rfl) (fun _ _ _ h => h) (Or.inl ⟨by first | (go_simp;done) | rfl,fun X _ => by go_simp⟩) hHeld ?_
      try simp only [Act.put,zsA,zsB,zsC]
      refine wpAnyH_done (by kernel_rfl) ?_ _
      go_simp
      clear hHeld
      go_wp2
      go_ret
      exact ⟨rfl,Bel.to B5 (Below.drewSelf _)⟩
     ·have hdb : ((ser.size : Int) != dg) = false := by simpa using hd
      rw [if_neg (by simpa using hd)] at hT2
      replace hd := hide hd
      replace hT2 := hide hT2
      go_upto_region 7 with (fail)
      refine wp_region_held_drew (S := fun X => (X.cell? ⟨w.heap.size + 1,4,none⟩ = some (.string ser) ∧ X.cell? ⟨w.heap.size,20,none⟩ = some (.slice (some ⟨b9,o9,none⟩) M ac)) ∧ X.cell? ⟨b9,o9 + j * 6 + 4,none⟩ = some (.int .i64 dg)) (by kernel_rfl) (⟨⟨x4,x20⟩,c4⟩) (fun hHeld => ?_)
      refine' wpAnyH_take (i := 0) (oi := _) (v := .int .i64 (j : Int)) rfl (by kernel_rfl) (by kernel_rfl) (by kernel_rfl) (fun _ _ _ h => h) (Or.inl ⟨by first | (go_simp;done) | rfl,fun X _ => by go_simp⟩) hHeld ?_
      try simp only [Act.put,zsA,zsB,zsC]
      refine' wpAnyH_take (i := 1) (oi := _) (v := .bool false) rfl (by kernel_rfl) (by kernel_rfl) (by kernel_rfl) (fun _ _ _ h => h) (Or.inl ⟨by first | (go_simp;done) | rfl,fun X _ => by go_simp⟩) hHeld ?_
      try simp only [Act.put,zsA,zsB,zsC]
      refine' wpAnyH_take (i := 2) (oi := _) (v := .bool false) rfl (by kernel_rfl) (by kernel_rfl) (by kernel_rfl) (fun _ _ _ h => h) (Or.inl ⟨by first | (go_simp;done) | rfl,fun X _ => by go_simp⟩) hHeld ?_
      try simp only [Act.put,zsA,zsB,zsC]
      refine' wpAnyH_take (i := 3) (oi := _) (v := .pointer (some ⟨w.heap.size + 1,4,none⟩)) rfl (by kernel_rfl) (by kernel_rfl) (by kernel_rfl) (fun _ _ _ h => h) (Or.inl ⟨by first | (go_simp;done) | rfl,fun X _ => by go_simp⟩) hHeld ?_
      try simp only [Act.put,zsA,zsB,zsC]
      refine' wpAnyH_take (i := 4) (oi := _) (v := .string ser) rfl (by kernel_rfl) (by kernel_rfl) (by kernel_rfl) (fun _ _ _ h => h) (Or.inl ⟨by first | (go_simp;done) | rfl,fun X hX => by have cX := hX.1.1;go_simp⟩) hHeld ?_
      try simp only [Act.put,zsA,zsB,zsC]
      refine' wpAnyH_take (i := 5) (oi := _) (v := .int .i64 (ser.size : Int)) rfl (by kernel_rfl) (by kernel_rfl) (by kernel_rfl) (fun _ _ _ h => h) (Or.inl ⟨by first | (go_simp;done) | rfl,fun X _ => by go_simp⟩) hHeld ?_
      try simp only [Act.put,zsA,zsB,zsC]
      refine' wpAnyH_take (i := 6) (oi := _) (v := .pointer (some ⟨w.heap.size,20,none⟩)) rfl (by kernel_rfl) (by kernel_rfl) (by kernel_rfl) (fun _ _ _ h => h) (Or.inl ⟨by first | (go_simp;done) | rfl,fun X _ => by go_simp⟩) hHeld ?_
      try simp only [Act.put,zsA,zsB,zsC]
      refine' wpAnyH_take (i := 7) (oi := _) (v := .slice (some ⟨b9,o9,none⟩) M ac) rfl (by kernel_rfl) (by kernel_rfl) (by kernel_rfl) (fun _ _ _ h => h) (Or.inl ⟨by first | (go_simp;done) | rfl,fun X hX => by have cX := hX.1.2;go_simp⟩) hHeld ?_
      try simp only [Act.put,zsA,zsB,zsC]
      refine' wpAnyH_take (i := 8) (oi := _) (v := .int .i64 (j : Int)) rfl (by kernel_rfl) (by kernel_rfl) (by kernel_rfl) (fun _ _ _ h => h) (Or.inl ⟨by first | (go_simp;done) | rfl,fun X _ => by go_simp⟩) hHeld ?_
      try simp only [Act.put,zsA,zsB,zsC]
      refine' wpAnyH_take (i := 9) (oi := _) (v := .pointer (some ⟨b9,o9 + j * 6,none⟩)) rfl (by kernel_rfl) (by kernel_rfl) (by kernel_rfl) (fun _ _ _ h => h) (Or.inl ⟨by first | (go_simp;done) | rfl,fun X _ => by go_simp⟩) hHeld ?_
      try simp only [Act.put,zsA,zsB,zsC]
      refine' wpAnyH_take (i := 10) (oi := _) (v := .pointer (some ⟨b9,o9 + j * 6 + 4,none⟩)) rfl (by kernel_rfl) (by kernel_rfl) (by kernel_rfl) (fun _ _ _ h => h) (Or.inl ⟨by first | (go_simp;done) | rfl,fun X _ => by go_simp⟩) hHeld ?_
      try simp only [Act.put,zsA,zsB,zsC]
      refine' wpAnyH_take (i := 11) (oi := _) (v := .int .i64 dg) rfl (by kernel_rfl) (by kernel_rfl) (by kernel_rfl) (fun _ _ _ h => h) (Or.inl ⟨by first | (go_simp;done) | rfl,fun X hX => by have cX := hX.2;go_simp⟩) hHeld ?_
      try simp only [Act.put,zsA,zsB,zsC]
      refine' wpAnyH_take (i := 12) (oi := _) (v := .bool false) rfl (by kernel_rfl) (by kernel_rfl) (by kernel_rfl) (fun _ _ _ h => h) (Or.inl ⟨by first | (go_simp;done) | rfl,fun X _ => by go_simp⟩) hHeld ?_
      try simp only [Act.put,zsA,zsB,zsC]
      refine' wpAnyH_take (i := 13) (oi := _) (v := .bool false) rfl (by kernel_rfl) (by kernel_rfl) (by kernel_rfl) (fun _ _ _ h => h) (Or.inl ⟨by first | (go_simp;done) | rfl,fun X _ => by go_simp⟩) hHeld ?_
      try simp only [Act.put,zsA,zsB,zsC]
      refine wpAnyH_done (by kernel_rfl) ?_ _
      go_simp
      clear hHeld
      have x4 : w5.drew.cell? ⟨w.heap.size + 1,4,none⟩ = some (.string ser) := x4
      have B6 : Below w.heap.size w w5.drew := Bel.to B5 (Below.drewSelf _)
      obtain ⟨W6,hW6⟩ : ∃ W6,W6 = w5.drew := ⟨_,rfl⟩
      rw [← hW6] at x4 B6 ⊢
      clear hW6 r0 r1 x20 c4
      go_wp2
      go_loopg [7] ser.size (fun gh t wr => ∃ (i : Nat),gh = ser.size - i ∧ i ≤ ser.size ∧ t = .int .i64 (i : Int) ∧ Hid (∀ j,j < i → 48 ≤ byteN ser j ∧ byteN ser j ≤ 57) ∧ W6 = wr)
      case atStart => exact ⟨0,rfl,Nat.zero_le _,rfl,fun j hj => absurd hj (Nat.not_lt_zero _),rfl⟩
      case round =>
       obtain ⟨i,hgh,hi,rfl,hall,rfl⟩ := hrel
       replace hgh := hide hgh
       by_cases hlt : i < ser.size
       ·have hlt2 := hide hlt
        have hb := byteN_eq hlt
        obtain ⟨d,hdd⟩ : ∃ d,d = (ser[i]'hlt).toNat := ⟨_,rfl⟩
        rw [← hdd] at hb
        by_cases h1 : d < 48
        ·have hP2 := hT2.out
         rw [serial_bad hlt (.inl (by omega)),if_neg (by simp)] at hP2
         subst hP2
         have d1 : (d : Int) < 48 := by omega
         clear hb h1
         subst hdd
         go_wp2
         go_ret
         exact ⟨rfl,B6⟩
        ·by_cases h2 : 57 < d
         ·have hP2 := hT2.out
          rw [serial_bad hlt (.inr (by omega)),if_neg (by simp)] at hP2
          subst hP2
          have d1 : ¬ (d : Int) < 48 := by omega
          have d2 : (57 : Int) < (d : Int) := by omega
          clear hb h1 h2
          subst hdd
          go_wp2
          go_ret
          exact ⟨rfl,B6⟩
         ·have hnext : Hid (∀ j,j < i + 1 → 48 ≤ byteN ser j ∧ byteN ser j ≤ 57) := by
           intro j hj
           rcases Nat.lt_succ_iff_lt_or_eq.1 hj with h | rfl
           ·exact hall.out j h
           ·omega
          have d1 : ¬ (d : Int) < 48 := by omega
          have d2 : ¬ (57 : Int) < (d : Int) := by omega
          clear hb h1 h2
          subst hdd
          go_wp2
          go_roundg (ser.size - (i + 1))
          case measure => have := hgh.out;have := hlt2.out;omega
          case rel => exact ⟨i + 1,rfl,by have := hlt2.out;omega,by go_num,hnext,rfl⟩
       ·have his : i = ser.size := by omega
        have hP2 := hT2.out
        rw [serial_ok (by rw [← his];exact hall.out),if_pos rfl] at hP2
        subst hP2
        replace his := hide his
        have i2 : ¬ (i : Int) < (ser.size : Int) := by omega
        go_wp2
        go_ret
        exact ⟨rfl,B6⟩
   ·rw [decide_eq_false hin] at cH
    rw [if_pos ⟨hf0,hin⟩] at hP1
    subst hP1
    replace hin := hide hin
    clear hP hf0
    go_upto_region 2 with (fail)
    refine wp_region_held_drew (S := fun X => (X.cell? ⟨w.heap.size + 1,3,none⟩ = some (.int .i64 fac) ∧ X.cell? ⟨w.heap.size,20,none⟩ = some (.slice (some ⟨b9,o9,none⟩) M ac)) ∧ X.cell? ⟨b9,o9 + j * 6 + 3,none⟩ = some (.slice fa fn fc)) (by kernel_rfl) (⟨⟨x3,x20⟩,c3⟩) (fun hHeld => ?_)
    refine' wpAnyH_take (i := 0) (oi := _) (v := .pointer (some ⟨w.heap.size + 1,3,none⟩)) rfl (by kernel_rfl) (by kernel_rfl) (by kernel_rfl) (fun _ _ _ h => h) (Or.inl ⟨by first | (go_simp;done) | rfl,fun X _ => by go_simp⟩) hHeld ?_
    try simp only [Act.put,zsA,zsB,zsC]
    refine' wpAnyH_take (i := 1) (oi := _) (v := .int .i64 fac) rfl (by kernel_rfl) (by kernel_rfl) (by kernel_rfl) (fun _ _ _ h => h) (Or.inl ⟨by first | (go_simp;done) | rfl,fun X hX => by have cX := hX.1.1;go_simp⟩) hHeld ?_
    try simp only [Act.put,zsA,zsB,zsC]
    refine' wpAnyH_take (i := 2) (oi := _) (v := .bool true) rfl (by kernel_rfl) (by kernel_rfl) (by kernel_rfl) (fun _ _ _ h => h) (Or.inl ⟨by first | (go_simp;done) | rfl,fun X _ => by go_simp⟩) hHeld ?_
    try simp only [Act.put,zsA,zsB,zsC]
    refine' wpAnyH_take (i := 3) (oi := _) (v := .bool true) rfl (by kernel_rfl) (by kernel_rfl) (by kernel_rfl) (fun _ _ _ h => h) (Or.inl ⟨by first | (go_simp;done) | rfl,fun X _ => by go_simp⟩) hHeld ?_
    try simp only [Act.put,zsA,zsB,zsC]
    refine' wpAnyH_take (i := 4) (oi := _) (v := .int .i64 (j : Int)) rfl (by kernel_rfl) (by kernel_rfl) (by kernel_rfl) (fun _ _ _ h => h) (Or.inl ⟨by first | (go_simp;done) | rfl,fun X _ => by go_simp⟩) hHeld ?_
    try simp only [Act.put,zsA,zsB,zsC]
    refine' wpAnyH_take (i := 5) (oi := _) (v := .bool false) rfl (by kernel_rfl) (by kernel_rfl) (by kernel_rfl) (fun _ _ _ h => h) (Or.inl ⟨by first | (go_simp;done) | rfl,fun X _ => by go_simp⟩) hHeld ?_
    try simp only [Act.put,zsA,zsB,zsC]
    refine' wpAnyH_take (i := 6) (oi := _) (v := .bool false) rfl (by kernel_rfl) (by kernel_rfl) (by kernel_rfl) (fun _ _ _ h => h) (Or.inl ⟨by first | (go_simp;done) | rfl,fun X _ => by go_simp⟩) hHeld ?_
    try simp only [Act.put,zsA,zsB,zsC]
    refine' wpAnyH_take (i := 7) (oi := _) (v := .pointer (some ⟨w.heap.size,20,none⟩)) rfl (by kernel_rfl) (by kernel_rfl) (by kernel_rfl) (fun _ _ _ h => h) (Or.inl ⟨by first | (go_simp;done) | rfl,fun X _ => by go_simp⟩) hHeld ?_
    try simp only [Act.put,zsA,zsB,zsC]
    refine' wpAnyH_take (i := 8) (oi := _) (v := .slice (some ⟨b9,o9,none⟩) M ac) rfl (by kernel_rfl) (by kernel_rfl) (by kernel_rfl) (fun _ _ _ h => h) (Or.inl ⟨by first | (go_simp;done) | rfl,fun X hX => by have cX := hX.1.2;go_simp⟩) hHeld ?_
    try simp only [Act.put,zsA,zsB,zsC]
    refine' wpAnyH_take (i := 9) (oi := _) (v := .int .i64 (j : Int)) rfl (by kernel_rfl) (by kernel_rfl) (by kernel_rfl) (fun _ _ _ h => h) (Or.inl ⟨by first | (go_simp;done) | rfl,fun X _ => by go_simp⟩) hHeld ?_
    try simp only [Act.put,zsA,zsB,zsC]
    refine' wpAnyH_take (i := 10) (oi := _) (v := .pointer (some ⟨b9,o9 + j * 6,none⟩)) rfl (by kernel_rfl) (by kernel_rfl) (by kernel_rfl) (fun _ _ _ h => h) (Or.inl ⟨by first | (go_simp;done) | rfl,fun X _ => by go_simp⟩) hHeld ?_
    try simp only [Act.put,zsA,zsB,zsC]
    refine' wpAnyH_take (i := 11) (oi := _) (v := .pointer (some ⟨b9,o9 + j * 6 + 3,none⟩)) rfl (by kernel_rfl) (by kernel_rfl) (by kernel_rfl) (fun _ _ _ h => h) (Or.inl ⟨by first | (go_simp;done) | rfl,fun X _ => by go_simp⟩) hHeld ?_
    try simp only [Act.put,zsA,zsB,zsC]
    refine' wpAnyH_take (i := 12) (oi := _) (v := .slice fa fn fc) rfl (by kernel_rfl) (by kernel_rfl) (by kernel_rfl) (fun _ _ _ h => h) (Or.inl ⟨by first | (go_simp;done) | rfl,fun X hX => by have cX := hX.2;go_simp⟩) hHeld ?_
    try simp only [Act.put,zsA,zsB,zsC]
    refine' wpAnyH_take (i := 13) (oi := _) (v := .pointer (some ⟨w.heap.size + 1,3,none⟩)) rfl (by kernel_rfl) (by kernel_rfl) (by kernel_rfl) (fun _ _ _ h => h) (Or.inl ⟨by first | (go_simp;done) | rfl,fun X _ => by go_simp⟩) hHeld ?_
    try simp only [Act.put,zsA,zsB,zsC]
    refine' wpAnyH_take (i := 14) (oi := _) (v := .int .i64 fac) rfl (by kernel_rfl) (by kernel_rfl) (by kernel_rfl) (fun _ _ _ h => h) (Or.inl ⟨by first | (go_simp;done) | rfl,fun X hX => by have cX := hX.1.1;go_simp⟩) hHeld ?_
    try simp only [Act.put,zsA,zsB,zsC]
    refine wpAnyH_ready (rs := [15]) (by kernel_rfl) (by simp) ?_
    refine AllReadyH.cons (o := _) rfl (fun K hK => ?_) AllReadyH.nil
    go_simp
    refine (cH.out).mono ?_
    rintro e w9 ⟨rfl,rfl⟩
    go_wp2_with fail
    refine hK.out _ _ hHeld (fun hHeld => ?_)
    clear hK K
    try simp only [Act.put,zsA,zsB,zsC]
    refine' wpAnyH_take (i := 16) (oi := _) (v := .bool true) rfl (by kernel_rfl) (by kernel_rfl) (by kernel_rfl) (fun _ _ _ h => h) (Or.inl ⟨by first | (go_simp;done) | rfl,fun X _ => by go_simp⟩) hHeld ?_
    try simp only [Act.put,zsA,zsB,zsC]
    refine' wpAnyH_take (i := 17) (oi := _) (v := .bool true) rfl (by kernel_rfl) (by kernel_rfl) (by kernel_rfl) (fun _ _ _ h => h) (Or.inl ⟨by first | (go_simp;done) | rfl,fun X _ => by go_simp⟩) hHeld ?_
    try simp only [Act.put,zsA,zsB,zsC]
    refine' wpAnyH_take (i := 18) (oi := _) (v := .bool true) rfl (by kernel_rfl) (by kernel_rfl) (by kernel_rfl) (fun _ _ _ h => h) (Or.inl ⟨by first | (go_simp;done) | rfl,fun X _ => by go_simp⟩) hHeld ?_
    try simp only [Act.put,zsA,zsB,zsC]
    refine wpAnyH_done (by kernel_rfl) ?_ _
    go_simp
    clear hHeld
    go_wp2
    go_ret
    exact ⟨rfl,B2⟩
theorem resE_extra {g : GameD} {r : ResD} : resE g r = if gameE g ≠ 0 then gameE g else if numE g r ≠ 0 then numE g r else extraE g r := rfl
set_option maxHeartbeats 8000000 in
set_option maxRecDepth 100000 in
theorem rcheck28_any (g : GameD) (av tv mv bv xv : Value) (ms : List AddonM) (r : ResD) (w : World) (hg : GameR w av tv ms g) (hr : ResR w mv bv xv r) (hs : r.serial.size ≤ 9223372036854775807) :
  Calls Tryz.prog 140 #[gameVal g av tv,resVal mv bv xv r] w (IntB (resE g r) w) := by
 have cC := hide (fun X (hX : Below w.heap.size w X) => rcheck_any g av tv ms X (hg.below hX))
 have cN := hide (fun X (hX : Below w.heap.size w X) (he : gameE g = 0) => numbers28_any g av tv mv bv xv ms r X (hg.below hX) (hr.below hX) he)
 have cE := hide (fun X (hX : Below w.heap.size w X) => extras28_any g av tv mv bv xv ms r X (hg.below hX) (hr.below hX) hs)
 rw [resE_extra]
 obtain ⟨P,hP⟩ : ∃ P,P = if gameE g ≠ 0 then gameE g else if numE g r ≠ 0 then numE g r else extraE g r := ⟨_,rfl⟩
 rw [← hP]
 obtain ⟨aa,ac,rfl,hal,ham⟩ := hg.1.1.shape
 obtain ⟨ta,tc,rfl,htl,htm⟩ := hg.2.2.shape
 obtain ⟨ma,mc,rfl,-,-,-⟩ := hr.1.form
 obtain ⟨ba,bc,rfl,-,-,-⟩ := hr.2.1.form
 obtain ⟨xa,xc,rfl,-,-,-⟩ := hr.2.2.form
 clear hg hr hal ham htl htm
 unfold gameVal at cC
 unfold gameVal resVal at cN cE
 unfold gameVal resVal
 by_cases he : gameE g = 0
 rotate_left
 ·rw [if_pos he] at hP
  obtain ⟨c,hc⟩ : ∃ c,c = gameE g := ⟨_,rfl⟩
  rw [← hc] at hP cC he
  subst hP
  have hcb : (P == 0) = false := by simpa using he
  replace he := hide he
  clear hc cN cE
  go_enter Tryz.func140,Tryz.ntmps140
  go_upto_region 1 with (fail)
  obtain ⟨W,hW⟩ : ∃ W,W = ((w.alloc (Obj.cells #[.string g.name,.int .i64 g.kind,.int .i64 g.price,.int .i64 g.main,.int .i64 g.of,.int .i64 g.bonus,.int .i64 g.bonusOf,.int .i64 g.extra,.int .i64 g.draws,.int .i64 g.system,.int .i64 g.days,.int .i64 g.at_,.int .i64 g.close,.int .i64 g.cancel,.int .i64 g.expiry,.int .i64 g.pool,.int .i64 g.reserve,.int .i64 g.round,.int .i64 g.cap,.int .i64 g.rolls,(.slice aa ms.length ac),(.slice ta g.tiers.length tc)] 25)).alloc (Obj.cells #[.slice ma r.main.length mc,.slice ba r.bonus.length bc,.slice xa r.extra.length xc,.int .i64 r.factor,.string r.serial] 29)) := ⟨_,rfl⟩
  have bW : Below w.heap.size w W := by rw [hW];exact Bel.al (Bel.al (Below.refl _ _) _) _
  have r0 : GameAt W (w.heap.size) g ((.slice aa ms.length ac)) ((.slice ta g.tiers.length tc)) := by rw [hW];exact Row.alloc (Row.new _ _ _) _
  have r1 : Row W ((w.heap.size + 1)) 29 [.slice ma r.main.length mc,.slice ba r.bonus.length bc,.slice xa r.extra.length xc,.int .i64 r.factor,.string r.serial] := by rw [hW];exact Row.at2 _ _ _ _
  have sW : w.heap.size + 1 < W.heap.size := by rw [hW];simp
  rw [← hW]
  clear hW
  go_wp2_with (first | (refine wpList_load_row rfl 25 _ rfl _ rfl _ _ _ _ r0 Tryz.underlying25 rfl (by kernel_rfl) ?_) | fail)
  refine (cC.out _ bW).mono ?_
  rintro e w1 ⟨s,rfl,hb1⟩
  go_wp2
  go_ret
  exact ⟨rfl,Bel.to bW hb1⟩
 rw [if_neg (by simpa using he)] at hP
 rw [he] at cC
 by_cases hn : numE g r = 0
 rotate_left
 ·rw [if_pos hn] at hP
  have cN1 := hide (fun X hX => cN.out X hX he)
  obtain ⟨c,hc⟩ : ∃ c,c = numE g r := ⟨_,rfl⟩
  rw [← hc] at hP cN1 hn
  subst hP
  have hcb : (P == 0) = false := by simpa using hn
  replace he := hide he
  replace hn := hide hn
  clear hc cN cE
  go_enter Tryz.func140,Tryz.ntmps140
  go_upto_region 1 with (fail)
  obtain ⟨W,hW⟩ : ∃ W,W = ((w.alloc (Obj.cells #[.string g.name,.int .i64 g.kind,.int .i64 g.price,.int .i64 g.main,.int .i64 g.of,.int .i64 g.bonus,.int .i64 g.bonusOf,.int .i64 g.extra,.int .i64 g.draws,.int .i64 g.system,.int .i64 g.days,.int .i64 g.at_,.int .i64 g.close,.int .i64 g.cancel,.int .i64 g.expiry,.int .i64 g.pool,.int .i64 g.reserve,.int .i64 g.round,.int .i64 g.cap,.int .i64 g.rolls,(.slice aa ms.length ac),(.slice ta g.tiers.length tc)] 25)).alloc (Obj.cells #[.slice ma r.main.length mc,.slice ba r.bonus.length bc,.slice xa r.extra.length xc,.int .i64 r.factor,.string r.serial] 29)) := ⟨_,rfl⟩
  have bW : Below w.heap.size w W := by rw [hW];exact Bel.al (Bel.al (Below.refl _ _) _) _
  have r0 : GameAt W (w.heap.size) g ((.slice aa ms.length ac)) ((.slice ta g.tiers.length tc)) := by rw [hW];exact Row.alloc (Row.new _ _ _) _
  have r1 : Row W ((w.heap.size + 1)) 29 [.slice ma r.main.length mc,.slice ba r.bonus.length bc,.slice xa r.extra.length xc,.int .i64 r.factor,.string r.serial] := by rw [hW];exact Row.at2 _ _ _ _
  have sW : w.heap.size + 1 < W.heap.size := by rw [hW];simp
  rw [← hW]
  clear hW
  go_wp2_with (first | (refine wpList_load_row rfl 25 _ rfl _ rfl _ _ _ _ r0 Tryz.underlying25 rfl (by kernel_rfl) ?_) | fail)
  refine (cC.out _ bW).mono ?_
  rintro e w1 ⟨s,rfl,hb1⟩
  have B1 := Bel.to bW hb1
  have r0 := r0.keep hb1
  have r1 := Row.keep r1 hb1
  go_wp2_with (first | (refine wpList_load_row rfl 25 _ rfl _ rfl _ _ _ _ r0 Tryz.underlying25 rfl (by kernel_rfl) ?_) | (refine wpList_load_row rfl 29 _ rfl _ rfl _ _ _ _ r1 Tryz.underlying29 rfl (by kernel_rfl) ?_) | fail)
  refine (cN1.out _ B1).mono ?_
  rintro e w2 ⟨rfl,hb2⟩
  go_wp2
  go_ret
  exact ⟨rfl,Bel.to B1 hb2⟩
 ·rw [if_neg (by simpa using hn)] at hP
  have cN1 := hide (fun X hX => cN.out X hX he)
  rw [hn] at cN1
  rw [← hP] at cE
  replace hP := hide hP
  replace he := hide he
  replace hn := hide hn
  clear cN
  go_enter Tryz.func140,Tryz.ntmps140
  go_upto_region 1 with (fail)
  obtain ⟨W,hW⟩ : ∃ W,W = ((w.alloc (Obj.cells #[.string g.name,.int .i64 g.kind,.int .i64 g.price,.int .i64 g.main,.int .i64 g.of,.int .i64 g.bonus,.int .i64 g.bonusOf,.int .i64 g.extra,.int .i64 g.draws,.int .i64 g.system,.int .i64 g.days,.int .i64 g.at_,.int .i64 g.close,.int .i64 g.cancel,.int .i64 g.expiry,.int .i64 g.pool,.int .i64 g.reserve,.int .i64 g.round,.int .i64 g.cap,.int .i64 g.rolls,(.slice aa ms.length ac),(.slice ta g.tiers.length tc)] 25)).alloc (Obj.cells #[.slice ma r.main.length mc,.slice ba r.bonus.length bc,.slice xa r.extra.length xc,.int .i64 r.factor,.string r.serial] 29)) := ⟨_,rfl⟩
  have bW : Below w.heap.size w W := by rw [hW];exact Bel.al (Bel.al (Below.refl _ _) _) _
  have r0 : GameAt W (w.heap.size) g ((.slice aa ms.length ac)) ((.slice ta g.tiers.length tc)) := by rw [hW];exact Row.alloc (Row.new _ _ _) _
  have r1 : Row W ((w.heap.size + 1)) 29 [.slice ma r.main.length mc,.slice ba r.bonus.length bc,.slice xa r.extra.length xc,.int .i64 r.factor,.string r.serial] := by rw [hW];exact Row.at2 _ _ _ _
  have sW : w.heap.size + 1 < W.heap.size := by rw [hW];simp
  rw [← hW]
  clear hW
  go_wp2_with (first | (refine wpList_load_row rfl 25 _ rfl _ rfl _ _ _ _ r0 Tryz.underlying25 rfl (by kernel_rfl) ?_) | fail)
  refine (cC.out _ bW).mono ?_
  rintro e w1 ⟨s,rfl,hb1⟩
  have B1 := Bel.to bW hb1
  have r0 := r0.keep hb1
  have r1 := Row.keep r1 hb1
  go_wp2_with (first | (refine wpList_load_row rfl 25 _ rfl _ rfl _ _ _ _ r0 Tryz.underlying25 rfl (by kernel_rfl) ?_) | (refine wpList_load_row rfl 29 _ rfl _ rfl _ _ _ _ r1 Tryz.underlying29 rfl (by kernel_rfl) ?_) | fail)
  refine (cN1.out _ B1).mono ?_
  rintro e w2 ⟨rfl,hb2⟩
  have B2 := Bel.to B1 hb2
  have r0 := r0.keep hb2
  have r1 := Row.keep r1 hb2
  go_wp2_with (first | (refine wpList_load_row rfl 25 _ rfl _ rfl _ _ _ _ r0 Tryz.underlying25 rfl (by kernel_rfl) ?_) | (refine wpList_load_row rfl 29 _ rfl _ rfl _ _ _ _ r1 Tryz.underlying29 rfl (by kernel_rfl) ?_) | fail)
  refine (cE.out _ B2).mono ?_
  rintro e w3 ⟨rfl,hb3⟩
  go_wp2
  go_ret
  exact ⟨rfl,Bel.to B2 hb3⟩
end Go.Proofs.YtmocomkobbiflaaGreat
end

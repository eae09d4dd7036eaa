/- Lemmas, merged out of smaller texts (wip/tools/mergedce.py). No condition. -/
import Derived.Deep.Cut
import Derived.Deep.DeepCutAuto
import Derived.Outline
import Derived.Test.YtfggjlekcdpmmaaGreatHLine
import Derived.Test.YtfggjlekcdpmmaaGreatHRef
import Derived.Test.YtfggjlekcdpmmaaGreatHCore
import Derived.Test.YtfggjlekcdpmmaaGreatHNat
section
open Go.RowKit
set_option linter.unusedVariables false
set_option linter.unusedSimpArgs false
namespace Go.Proofs.YtfggjlekcdpmmaaGreat
set_option maxHeartbeats 1000000 in
theorem inside15_any (v : Value) (l : List Int) (hi : Int) (w : World) (h : Rd I64 w v l) :
  Calls Tryz.prog 125 #[v,.int .i64 hi] w (Pure (.bool (allB l 1 hi)) w) := by
 obtain ⟨ao,cap,rfl,hle,hmax,hrd⟩ := Rd.form h
 have hmax2 : cap ≤ 9223372036854775807 := by unfold maxLen at hmax;omega
 go_enter Tryz.func125,Tryz.ntmps125
 go_wp2
 go_loopg [9] l.length (fun g t wr => ∃ (i : Nat),g = l.length - i ∧ i ≤ l.length ∧ t = .int .i64 i ∧ w = wr ∧ ∀ k (hk : k < l.length),k < i → inB l[k] 1 hi = true)
 case atStart => exact ⟨0,rfl,Nat.zero_le _,rfl,rfl,fun k hk hki => absurd hki (Nat.not_lt_zero _)⟩
 case round =>
  obtain ⟨i,hg,hi',rfl,rfl,hall⟩ := hrel
  replace hg := hide hg
  replace hall := hide hall
  by_cases hlt : i < l.length
  ·have hlt2 := hide hlt
   obtain ⟨b,off,rfl,hbb,hcell⟩ := hrd.at_ hlt
   have i1 : (0 : Int) ≤ (i : Int) := by omega
   have i2 : (i : Int) < (l.length : Int) := by omega
   obtain ⟨x,hx,c1⟩ : ∃ x,x = l[i] ∧ w.cell? ⟨b,off + i,none⟩ = some (.int .i64 x) := ⟨_,rfl,hcell _ hlt⟩
   clear hcell
   by_cases hlo : x < 1
   ·have hr := hide (allB_at hlt (by have h9 := inB_lo (hi := hi) hlo;rw [hx] at h9;exact h9) : allB l 1 hi = false)
    replace hx := hide hx
    go_wp2
    go_ret
    rw [hr.out]
    exact ⟨rfl,rfl⟩
   ·by_cases hhi : hi < x
    ·have hr := hide (allB_at hlt (by have h9 := inB_hi (lo := 1) hhi;rw [hx] at h9;exact h9) : allB l 1 hi = false)
     replace hx := hide hx
     go_wp2
     go_ret
     rw [hr.out]
     exact ⟨rfl,rfl⟩
    ·have hnext : ∀ k (hk : k < l.length),k < i + 1 → inB l[k] 1 hi = true := by
      intro k hk hki
      rcases Nat.lt_succ_iff_lt_or_eq.1 hki with h | rfl
      ·exact hall.out k hk h
      ·have h9 := inB_yes (x := x) (lo := 1) (hi := hi) (by omega) (by omega);rw [hx] at h9;exact h9
     replace hnext := hide hnext
     replace hx := hide hx
     go_wp2
     go_roundg (l.length - (i + 1))
     case measure => have := hg.out;omega
     case rel => exact ⟨i + 1,rfl,by have := hlt2.out;omega,by go_num,rfl,hnext.out⟩
  ·have hr := hide (allB_yes (lo := 1) (hi := hi) (fun k hk => hall.out k hk (by omega)))
   go_wp2
   go_ret
   rw [hr.out]
   exact ⟨rfl,rfl⟩
set_option maxHeartbeats 1000000 in
theorem in15_any (v : Value) (l : List Int) (hi : Int) (w : World) (h : Rd I64 w v l) :
  Calls Tryz.prog 149 #[v,.int .i64 hi] w (Pure (.bool (allB l 1 hi)) w) := by
 obtain ⟨ao,cap,rfl,hle,hmax,hrd⟩ := Rd.form h
 have hmax2 : cap ≤ 9223372036854775807 := by unfold maxLen at hmax;omega
 go_enter Tryz.func149,Tryz.ntmps149
 go_wp2
 go_loopg [5] l.length (fun g t wr => ∃ (i : Nat),g = l.length - i ∧ i ≤ l.length ∧ t = .int .i64 i ∧ w = wr ∧ ∀ k (hk : k < l.length),k < i → inB l[k] 1 hi = true)
 case atStart => exact ⟨0,rfl,Nat.zero_le _,rfl,rfl,fun k hk hki => absurd hki (Nat.not_lt_zero _)⟩
 case round =>
  obtain ⟨i,hg,hi',rfl,rfl,hall⟩ := hrel
  replace hg := hide hg
  replace hall := hide hall
  by_cases hlt : i < l.length
  ·have hlt2 := hide hlt
   obtain ⟨b,off,rfl,hbb,hcell⟩ := hrd.at_ hlt
   have i1 : (0 : Int) ≤ (i : Int) := by omega
   have i2 : (i : Int) < (l.length : Int) := by omega
   obtain ⟨x,hx,c1⟩ : ∃ x,x = l[i] ∧ w.cell? ⟨b,off + i,none⟩ = some (.int .i64 x) := ⟨_,rfl,hcell _ hlt⟩
   clear hcell
   by_cases hlo : x < 1
   ·have hr := hide (allB_at hlt (by have h9 := inB_lo (hi := hi) hlo;rw [hx] at h9;exact h9) : allB l 1 hi = false)
    replace hx := hide hx
    go_wp2
    go_ret
    rw [hr.out]
    exact ⟨rfl,rfl⟩
   ·by_cases hhi : hi < x
    ·have hr := hide (allB_at hlt (by have h9 := inB_hi (lo := 1) hhi;rw [hx] at h9;exact h9) : allB l 1 hi = false)
     replace hx := hide hx
     go_wp2
     go_ret
     rw [hr.out]
     exact ⟨rfl,rfl⟩
    ·have hnext : ∀ k (hk : k < l.length),k < i + 1 → inB l[k] 1 hi = true := by
      intro k hk hki
      rcases Nat.lt_succ_iff_lt_or_eq.1 hki with h | rfl
      ·exact hall.out k hk h
      ·have h9 := inB_yes (x := x) (lo := 1) (hi := hi) (by omega) (by omega);rw [hx] at h9;exact h9
     replace hnext := hide hnext
     replace hx := hide hx
     go_wp2
     go_roundg (l.length - (i + 1))
     case measure => have := hg.out;omega
     case rel => exact ⟨i + 1,rfl,by have := hlt2.out;omega,by go_num,rfl,hnext.out⟩
  ·have hr := hide (allB_yes (lo := 1) (hi := hi) (fun k hk => hall.out k hk (by omega)))
   go_wp2
   go_ret
   rw [hr.out]
   exact ⟨rfl,rfl⟩
set_option maxHeartbeats 2000000 in
set_option maxRecDepth 100000 in
theorem twice15_any (v : Value) (l : List Int) (w : World) (h : Rd I64 w v l) :
  Calls Tryz.prog 150 #[v] w (BoolB (dupB l) w) := by
 obtain ⟨ao,cap,rfl,hle,hmax,hrd⟩ := Rd.form h
 have hmax2 : cap ≤ 9223372036854775807 := by unfold maxLen at hmax;omega
 go_enter Tryz.func150,Tryz.ntmps150
 go_wp2
 go_loopg [3,4] l.length (fun g t t4 wr => ∃ (i d : Nat),g = l.length - i ∧ i ≤ l.length ∧ t = .int .i64 i ∧ wr = w.drewN d ∧ ∀ p (hp : p < l.length),p < i → ∀ q (hq : q < p),l[p] ≠ l[q])
 case atStart => exact ⟨0,0,rfl,Nat.zero_le _,rfl,rfl,fun p hp hpi => absurd hpi (Nat.not_lt_zero _)⟩
 case round =>
  obtain ⟨i,d,hg,hi',rfl,rfl,hall⟩ := hrel
  replace hg := hide hg
  replace hall := hide hall
  by_cases hlt : i < l.length
  ·have hlt2 := hide hlt
   obtain ⟨b,off,rfl,hbb,hcell⟩ := hrd.at_ hlt
   have i1 : (0 : Int) ≤ (i : Int) := by omega
   have i2 : (i : Int) < (l.length : Int) := by omega
   obtain ⟨x,hx,c1⟩ : ∃ x,x = l[i] ∧ w.cell? ⟨b,off + i,none⟩ = some (.int .i64 x) := ⟨_,rfl,hcell _ hlt⟩
   replace hx := hide hx
   replace hcell := hide hcell
   go_wp2
   obtain ⟨wo,hwo⟩ : ∃ wo,wo = w.drewN d := ⟨_,rfl⟩
   rw [← hwo]
   replace hwo := hide hwo
   go_loopg [4] i (fun g t wr => ∃ (k e : Nat),g = i - k ∧ k ≤ i ∧ t = .int .i64 k ∧ wr = w.drewN e ∧ ∀ q (hq : q < k) (hl : q < l.length),x ≠ l[q])
   case atStart => exact ⟨0,d,rfl,Nat.zero_le _,rfl,hwo.out,fun q hq => absurd hq (Nat.not_lt_zero _)⟩
   case round =>
    obtain ⟨k,e,hg2,hk',rfl,rfl,hall2⟩ := hrel
    replace hg2 := hide hg2
    replace hall2 := hide hall2
    by_cases hki : k < i
    ·have hki2 := hide hki
     have j1 : (0 : Int) ≤ (k : Int) := by omega
     have j2 : (k : Int) < (l.length : Int) := by omega
     obtain ⟨y,hy,c2⟩ : ∃ y,y = l[k] ∧ w.cell? ⟨b,off + k,none⟩ = some (.int .i64 y) := ⟨_,rfl,hcell.out _ (by omega)⟩
     by_cases he : x = y
     ·have hb : (y == x) = true := by simpa using he.symm
      have hr := hide (dupB_at hlt hki (by have h9 := he;rw [hx.out,hy] at h9;exact h9))
      replace hy := hide hy
      replace he := hide he
      go_wp2
      go_quiet (fail)
      go_wp2
      go_ret
      rw [hr.out]
      exact ⟨rfl,Bel.drN (Bel.drN (Below.refl _ _) _) _⟩
     ·have hb : (y == x) = false := by simpa using fun e => he (by rw [e])
      have hnext : ∀ q (hq : q < k + 1) (hl : q < l.length),x ≠ l[q] := by
       intro q hq hl
       rcases Nat.lt_succ_iff_lt_or_eq.1 hq with h | rfl
       ·exact hall2.out q h hl
       ·rw [← hy];exact he
      replace hnext := hide hnext
      replace hy := hide hy
      replace he := hide he
      go_wp2
      go_quiet (fail)
      go_wp2
      go_roundg (i - (k + 1))
      case measure => have := hg2.out;have := hki2.out;omega
      case rel => exact ⟨k + 1,_,rfl,by have := hki2.out;omega,by go_num,rfl,hnext.out⟩
    ·have hnext : ∀ p (hp : p < l.length),p < i + 1 → ∀ q (hq : q < p),l[p] ≠ l[q] := by
      intro p hp hpi q hq
      rcases Nat.lt_succ_iff_lt_or_eq.1 hpi with h | rfl
      ·exact hall.out p hp h q hq
      ·have h9 := hall2.out q (by omega) (by omega);rw [hx.out] at h9;exact h9
     replace hnext := hide hnext
     go_wp2
     go_roundg (l.length - (i + 1))
     case measure => have := hg.out;have := hlt2.out;omega
     case rel => exact ⟨i + 1,_,rfl,by have := hlt2.out;omega,by go_num,rfl,hnext.out⟩
  ·have hr := hide (dupB_none (l := l) (fun i hi k hk => hall.out i hi (by omega) k hk))
   go_wp2
   go_ret
   rw [hr.out]
   exact ⟨rfl,Bel.drN (Below.refl _ _) _⟩
def seenL (l : List Int) (i : Nat) : List Bool := (List.range 81).map fun (j : Nat) => decide ((j : Int) ∈ l.take i)
theorem seenL_len (l : List Int) (i : Nat) : (seenL l i).length = 81 := by unfold seenL;simp
theorem seenL_at (l : List Int) (i j : Nat) (h : j < (seenL l i).length) : (seenL l i)[j] = decide ((j : Int) ∈ l.take i) := by
 have e : (seenL l i)[j]? = some (decide ((j : Int) ∈ l.take i)) := by
  have : j < 81 := by rw [seenL_len] at h;exact h
  unfold seenL
  rw [List.getElem?_map,List.getElem?_range this];rfl
 rw [List.getElem?_eq_getElem h] at e
 injection e
theorem seenL_zero (l : List Int) : seenL l 0 = List.replicate 81 false := by
 apply List.ext_getElem
 ·rw [seenL_len,List.length_replicate]
 ·intro i h1 h2
  rw [seenL_at,List.getElem_replicate,List.take_zero]
  exact decide_eq_false (by simp)
theorem seenL_set {l : List Int} {i x : Nat} (hi : i < l.length) (hx : l[i] = (x : Int)) : (seenL l i).set x true = seenL l (i + 1) := by
 apply List.ext_getElem
 ·rw [List.length_set,seenL_len,seenL_len]
 ·intro j h1 h2
  rw [List.getElem_set,seenL_at,seenL_at,List.take_succ_eq_append_getElem hi]
  by_cases hj : x = j
  ·subst hj
   rw [if_pos rfl,hx]
   symm
   simp
  ·rw [if_neg hj,hx]
   have : ((j : Int) ∈ l.take i ++ [(x : Int)]) ↔ (j : Int) ∈ l.take i := by
    rw [List.mem_append,List.mem_singleton]
    constructor
    ·rintro (h | h)
     ·exact h
     ·omega
    ·exact .inl
   rw [decide_eq_decide]
   exact this.symm
theorem dup_seen {l : List Int} {i : Nat} (hi : i < l.length) (h : l[i] ∈ l.take i) : dupB l = true := by
 obtain ⟨k,hk,e⟩ := List.getElem_of_mem h
 rw [List.length_take] at hk
 rw [List.getElem_take] at e
 exact dupB_at hi (by omega) e.symm
theorem dup_unseen {l : List Int} (h : ∀ i (hi : i < l.length),l[i] ∉ l.take i) : dupB l = false := by
 refine dupB_none (fun i hi k hk e => h i hi ?_)
 rw [e]
 exact List.mem_iff_getElem.2 ⟨k,by rw [List.length_take];omega,by rw [List.getElem_take]⟩
theorem zero81 : Tryz.zeroCells122.toList = List.replicate 81 (.bool false) := by kernel_rfl
set_option maxHeartbeats 2000000 in
set_option maxRecDepth 100000 in
theorem repeated15_any (v : Value) (l : List Int) (w : World) (h : Rd I64 w v l) (hall : ∀ x ∈ l,1 ≤ x ∧ x ≤ 80) :
  Calls Tryz.prog 126 #[v] w (BoolB (dupB l) w) := by
 obtain ⟨ao,cap,rfl,hle,hmax,hrd⟩ := Rd.form h
 have hmax2 : cap ≤ 9223372036854775807 := by unfold maxLen at hmax;omega
 replace hall := hide hall
 clear h
 go_enter Tryz.func126,Tryz.ntmps126
 go_upto_region 2 with (fail)
 obtain ⟨W,hW⟩ : ∃ W,W = w.alloc (.cells Tryz.zeroCells122 122) := ⟨_,rfl⟩
 have bW : Below w.heap.size w W := by rw [hW];exact Bel.al (Below.refl _ _) _
 have r0 : Row W w.heap.size 122 ((seenL l 0).map Value.bool) := by
  rw [hW,seenL_zero,List.map_replicate]
  exact Row.newOf _ zero81
 rw [← hW]
 clear hW
 go_wp2
 go_loopg [8] l.length (fun gh t wr => ∃ i : Nat,gh = l.length - i ∧ i ≤ l.length ∧ t = .int .i64 (i : Int) ∧ Row wr w.heap.size 122 ((seenL l i).map Value.bool) ∧ Below w.heap.size w wr ∧ Hid (∀ k (hk : k < l.length),k < i → l[k] ∉ l.take k))
 case atStart => exact ⟨0,rfl,Nat.zero_le _,rfl,r0,bW,fun k hk h => absurd h (Nat.not_lt_zero _)⟩
 case round =>
  obtain ⟨i,hg,hi,rfl,hR,hB,hno⟩ := hrel
  replace hg := hide hg
  by_cases hlt : i < l.length
  ·have hlt2 := hide hlt
   obtain ⟨b,off,rfl,hbb,hcell⟩ := hrd.at_ hlt
   have i1 : (0 : Int) ≤ (i : Int) := by omega
   have i2 : (i : Int) < (l.length : Int) := by omega
   obtain ⟨y,hy,c0⟩ : ∃ y,y = l[i] ∧ w.cell? ⟨b,off + i,none⟩ = some (.int .i64 y) := ⟨_,rfl,hcell _ hlt⟩
   obtain ⟨x1,x2⟩ := hall.out y (by rw [hy];exact List.getElem_mem _)
   obtain ⟨x,rfl⟩ := Int.eq_ofNat_of_zero_le (show 0 ≤ y by omega)
   have hx : l[i] = (x : Int) := hy.symm
   have c1 := Bel.cellOf hB c0
   have x3 : x < (seenL l i).length := by rw [seenL_len];omega
   have c2 := hR.cellV x3
   rw [seenL_at,hy] at c2
   have f2 := Row.frozen hR x
   have j1 : (0 : Int) ≤ (x : Int) := by omega
   have j2 : (x : Int) < 81 := by omega
   clear hcell c0
   by_cases hin : l[i] ∈ l.take i
   ·rw [decide_eq_true hin] at c2
    have hd := hide (dup_seen hlt hin)
    replace hin := hide hin
    replace hx := hide hx
    replace hy := hide hy
    clear hlt
    go_wp2
    go_ret
    rw [hd.out]
    exact ⟨rfl,hB⟩
   ·rw [decide_eq_false hin] at c2
    have hset := seenL_set hlt hx
    have hR2 := hR.setV x true
    rw [hset] at hR2
    have hB2 := Bel.st hB (p := ⟨w.heap.size,x,none⟩) (Nat.le_refl _) (.bool true)
    have hno2 : Hid (∀ k (hk : k < l.length),k < i + 1 → l[k] ∉ l.take k) := by
     intro k hk hki
     rcases Nat.lt_succ_iff_lt_or_eq.1 hki with h | rfl
     ·exact hno.out k hk h
     ·exact hin
    replace hR2 := hide hR2
    replace hin := hide hin
    replace hx := hide hx
    replace hy := hide hy
    clear hset hB hlt x3
    go_wp2
    go_roundg (l.length - (i + 1))
    case measure => have := hg.out;have := hlt2.out;omega
    case rel => exact ⟨i + 1,rfl,by have := hlt2.out;omega,by go_num,hR2.out,hB2,hno2⟩
  ·have hd := hide (dup_unseen (l := l) (fun k hk => hno.out k hk (by omega)))
   go_wp2
   go_ret
   rw [hd.out]
   exact ⟨rfl,hB⟩
def gameS (g : GameD) : Int := if gameE g ≠ 0 then gameE g else if g.kind ≠ 1 then 7 else 0
set_option maxHeartbeats 2000000 in
set_option maxRecDepth 100000 in
theorem valid_any (g : GameD) (av tv : Value) (ms : List AddonM) (w : World) (h : GameR w av tv ms g) :
  Calls Tryz.prog 124 #[gameVal g av tv] w (IntB (gameS g) w) := by
 have hc := hide (fun X (hX : GameR X av tv ms g) => show Calls Tryz.prog 38 #[gameVal g av tv] X (IntC (if gameE g = 0 then (countG g : Int) else 0) (gameE g) X) from by
  by_cases he : gameE g = 0
  ·rw [if_pos he,he];exact mcount_ok g av tv ms X hX he
  ·rw [if_neg he];exact mcount_bad g av tv ms X hX he)
 obtain ⟨cn,hcn⟩ : ∃ c,c = (if gameE g = 0 then (countG g : Int) else 0) := ⟨_,rfl⟩
 rw [← hcn] at hc
 clear hcn
 have hh := hide h
 obtain ⟨aa,ac,rfl,hal,ham⟩ := h.1.1.shape
 obtain ⟨ta,tc,rfl,htl,htm⟩ := h.2.2.shape
 clear h
 obtain ⟨r,hr⟩ : ∃ r,r = gameS g := ⟨_,rfl⟩
 rw [← hr]
 unfold gameS at hr
 obtain ⟨c,hcc⟩ : ∃ c,c = gameE g := ⟨_,rfl⟩
 rw [← hcc] at hc hr
 clear hcc
 obtain ⟨gname,gkind,gprice,gmain,gof,gbonus,gbonusOf,gextra,gdraws,gsystem,gdays,gat,gclose,gcancel,gexpiry,gpool,greserve,ground,gcap,grolls,ga,gt⟩ := g
 unfold gameVal at hc ⊢
 (try simp only [] at hc hr ⊢)
 replace hr := hide hr
 have hbel := hide (fun W (bW : Below w.heap.size w W) => hc.out W (hh.out.below bW))
 clear hc hh
 go_enter Tryz.func124,Tryz.ntmps124
 go_upto_region 1 with (fail)
 obtain ⟨W,hW⟩ : ∃ W,W = (w.alloc (Obj.cells #[.string gname,.int .i64 gkind,.int .i64 gprice,.int .i64 gmain,.int .i64 gof,.int .i64 gbonus,.int .i64 gbonusOf,.int .i64 gextra,.int .i64 gdraws,.int .i64 gsystem,.int .i64 gdays,.int .i64 gat,.int .i64 gclose,.int .i64 gcancel,.int .i64 gexpiry,.int .i64 gpool,.int .i64 greserve,.int .i64 ground,.int .i64 gcap,.int .i64 grolls,(.slice aa ms.length ac),(.slice ta gt.length tc)] 25)) := ⟨_,rfl⟩
 have bW : Below w.heap.size w W := by rw [hW];exact Bel.al (Below.refl _ _) _
 have r0 : Row W (w.heap.size) 25 [.string gname,.int .i64 gkind,.int .i64 gprice,.int .i64 gmain,.int .i64 gof,.int .i64 gbonus,.int .i64 gbonusOf,.int .i64 gextra,.int .i64 gdraws,.int .i64 gsystem,.int .i64 gdays,.int .i64 gat,.int .i64 gclose,.int .i64 gcancel,.int .i64 gexpiry,.int .i64 gpool,.int .i64 greserve,.int .i64 ground,.int .i64 gcap,.int .i64 grolls,(.slice aa ms.length ac),(.slice ta gt.length tc)] := by rw [hW];exact Row.new _ _ _
 have c0_1 : W.cell? ⟨w.heap.size,1,none⟩ = some (.int .i64 gkind) := Row.cell r0 (i := 1) (by simp)
 have sW : w.heap.size < W.heap.size := by rw [hW];simp
 rw [← hW]
 clear hW
 go_wp2_with (first | (refine wpList_load_row rfl 25 _ rfl _ rfl _ _ _ _ r0 Tryz.underlying25 rfl (by kernel_rfl) ?_) | fail)
 refine (hbel.out _ bW).mono ?_
 rintro e w1 ⟨rfl,hb1⟩
 have d1 := Bel.cellOf hb1 c0_1
 have B1 := Bel.to bW hb1
 clear c0_1 r0 hb1 hbel
 by_cases hc0 : c = 0
 ·subst hc0
  by_cases hk : gkind = 1
  ·have hr2 : r = 0 := by rw [hr.out,if_neg (by simp),if_neg (by simpa using hk)]
   replace hr2 := hide hr2
   subst hk
   clear hr
   go_wp2
   go_ret
   rw [hr2.out]
   exact ⟨rfl,B1⟩
  ·have hr2 : r = 7 := by rw [hr.out,if_neg (by simp),if_pos hk]
   have hkb : (gkind != 1) = true := by simpa using hk
   replace hr2 := hide hr2
   replace hk := hide hk
   clear hr
   go_wp2
   go_ret
   rw [hr2.out]
   exact ⟨rfl,B1⟩
 ·have hr2 : r = c := by rw [hr.out,if_pos hc0]
  have hcb : (c != 0) = true := by simpa using hc0
  have hcb2 : (c == 0) = false := by simpa using hc0
  replace hr2 := hide hr2
  replace hc0 := hide hc0
  clear hr
  go_wp2
  go_ret
  rw [hr2.out]
  exact ⟨rfl,B1⟩
set_option maxHeartbeats 2000000 in
set_option maxRecDepth 100000 in
theorem rgame_any (g : GameD) (av tv : Value) (ms : List AddonM) (w : World) (h : GameR w av tv ms g) :
  Calls Tryz.prog 148 #[gameVal g av tv] w (IntB (gameS g) w) := by
 have hc := hide (fun X (hX : GameR X av tv ms g) => rcheck_any g av tv ms X hX)
 have hh := hide h
 obtain ⟨aa,ac,rfl,hal,ham⟩ := h.1.1.shape
 obtain ⟨ta,tc,rfl,htl,htm⟩ := h.2.2.shape
 clear h
 obtain ⟨r,hr⟩ : ∃ r,r = gameS g := ⟨_,rfl⟩
 rw [← hr]
 unfold gameS at hr
 obtain ⟨c,hcc⟩ : ∃ c,c = gameE g := ⟨_,rfl⟩
 rw [← hcc] at hc hr
 clear hcc
 obtain ⟨gname,gkind,gprice,gmain,gof,gbonus,gbonusOf,gextra,gdraws,gsystem,gdays,gat,gclose,gcancel,gexpiry,gpool,greserve,ground,gcap,grolls,ga,gt⟩ := g
 unfold gameVal at hc ⊢
 (try simp only [] at hc hr ⊢)
 replace hr := hide hr
 have hbel := hide (fun W (bW : Below w.heap.size w W) => hc.out W (hh.out.below bW))
 clear hc hh
 go_enter Tryz.func148,Tryz.ntmps148
 go_upto_region 1 with (fail)
 obtain ⟨W,hW⟩ : ∃ W,W = (w.alloc (Obj.cells #[.string gname,.int .i64 gkind,.int .i64 gprice,.int .i64 gmain,.int .i64 gof,.int .i64 gbonus,.int .i64 gbonusOf,.int .i64 gextra,.int .i64 gdraws,.int .i64 gsystem,.int .i64 gdays,.int .i64 gat,.int .i64 gclose,.int .i64 gcancel,.int .i64 gexpiry,.int .i64 gpool,.int .i64 greserve,.int .i64 ground,.int .i64 gcap,.int .i64 grolls,(.slice aa ms.length ac),(.slice ta gt.length tc)] 25)) := ⟨_,rfl⟩
 have bW : Below w.heap.size w W := by rw [hW];exact Bel.al (Below.refl _ _) _
 have r0 : Row W (w.heap.size) 25 [.string gname,.int .i64 gkind,.int .i64 gprice,.int .i64 gmain,.int .i64 gof,.int .i64 gbonus,.int .i64 gbonusOf,.int .i64 gextra,.int .i64 gdraws,.int .i64 gsystem,.int .i64 gdays,.int .i64 gat,.int .i64 gclose,.int .i64 gcancel,.int .i64 gexpiry,.int .i64 gpool,.int .i64 greserve,.int .i64 ground,.int .i64 gcap,.int .i64 grolls,(.slice aa ms.length ac),(.slice ta gt.length tc)] := by rw [hW];exact Row.new _ _ _
 have c0_1 : W.cell? ⟨w.heap.size,1,none⟩ = some (.int .i64 gkind) := Row.cell r0 (i := 1) (by simp)
 have sW : w.heap.size < W.heap.size := by rw [hW];simp
 rw [← hW]
 clear hW
 go_wp2_with (first | (refine wpList_load_row rfl 25 _ rfl _ rfl _ _ _ _ r0 Tryz.underlying25 rfl (by kernel_rfl) ?_) | fail)
 refine (hbel.out _ bW).mono ?_
 rintro e w1 ⟨s,rfl,hb1⟩
 have d1 := Bel.cellOf hb1 c0_1
 have B1 := Bel.to bW hb1
 clear c0_1 r0 hb1 hbel
 by_cases hc0 : c = 0
 ·subst hc0
  by_cases hk : gkind = 1
  ·have hr2 : r = 0 := by rw [hr.out,if_neg (by simp),if_neg (by simpa using hk)]
   replace hr2 := hide hr2
   subst hk
   clear hr
   go_wp2
   go_ret
   rw [hr2.out]
   exact ⟨rfl,B1⟩
  ·have hr2 : r = 7 := by rw [hr.out,if_neg (by simp),if_pos hk]
   have hkb : (gkind != 1) = true := by simpa using hk
   replace hr2 := hide hr2
   replace hk := hide hk
   clear hr
   go_wp2
   go_ret
   rw [hr2.out]
   exact ⟨rfl,B1⟩
 ·have hr2 : r = c := by rw [hr.out,if_pos hc0]
  have hcb : (c != 0) = true := by simpa using hc0
  have hcb2 : (c == 0) = false := by simpa using hc0
  replace hr2 := hide hr2
  replace hc0 := hide hc0
  clear hr
  go_wp2
  go_ret
  rw [hr2.out]
  exact ⟨rfl,B1⟩
theorem wp_append_rd {P : Program} {w : World} {α : Type} {V : α → Value} {o : Oper} {a : Act} {K : Act → World → Prop} {Q : Exit → Act → World → Prop} (s x : Operand) (t : TypeId)
  (ho : o.op = .call { callee := .builtin .append,args := #[s,x],argTypes := #[t,t] })
  (hone : ∀ x,(V x).oneCell' = true) (base : Nat) (e : TypeId) (z : Value) (bytes : Nat) (ht : P.underlying t = some (.slice e)) (hi : (P.info? e).map (fun i => (i.zero,i.size,i.bytes)) = some (some z,1,bytes)) (hzs : z.cells.size = 1)
  (v : Value) (l : List α) (hs : a.eval s = v) (hown : Own V w base e v l) (u : Value) (l2 : List α) (hx : a.eval x = u) (hr : Rd V w u l2)
  (h63 : l.length + l2.length ≤ 9223372036854775807) (hbytes : (l.length + l2.length) * bytes ≤ 140737488355328) (hbase : base ≤ w.heap.size)
  (h : ∀ v' w',Own V w' base e v' (l ++ l2) → w.grownBy w' v.ownBlock → K (a.put o.dst v') w') : o.wp P a w K Q := by
 obtain ⟨v',w',hr,h2,h3,h4⟩ := run_append_rd (P := P) w hone base t o.type e z bytes ht hi hzs v l hown u l2 hr h63 hbytes hbase
 unfold Oper.wp execOp
 simp only [ho,resolve,invoke,builtin,Sem.run_bind,Sem.run_pure,Result.andThen_ok,List.map_toArray,List.map_cons,List.map_nil,hs,hx,hr]
 exact h v' w' h2 h3
def rowL (i : Nat) : List Int := (List.range (i + 1)).map fun k => ((choose i k : Nat) : Int)
theorem rowL_len (i : Nat) : (rowL i).length = i + 1 := by unfold rowL;simp
theorem rowL_at {i k : Nat} (h : k < i + 1) : (rowL i)[k]? = some ((choose i k : Nat) : Int) := by
 unfold rowL
 rw [List.getElem?_map,List.getElem?_range h];rfl
theorem rowL_get {i k : Nat} (h : k < (rowL i).length) : (rowL i)[k] = ((choose i k : Nat) : Int) := by
 have h1 := rowL_at (i := i) (k := k) (by rw [rowL_len] at h;exact h)
 rw [List.getElem?_eq_getElem h] at h1
 injection h1
theorem rowL_take {i k : Nat} (h : k < i + 1) : (rowL i).take (k + 1) = (rowL i).take k ++ [((choose i k : Nat) : Int)] := by
 rw [List.take_succ_eq_append_getElem (by rw [rowL_len];exact h),rowL_get]
theorem rowL_zero : rowL 0 = [1] := by unfold rowL;simp [choose_zero]
theorem rowL_one (i : Nat) : (rowL i).take 1 = [1] := by
 have := rowL_take (i := i) (k := 0) (by omega)
 rw [this,choose_zero];rfl
theorem rowL_all (i : Nat) : (rowL (i + 1)).take (i + 1) ++ [1] = rowL (i + 1) := by
 have := rowL_take (i := i + 1) (k := i + 1) (by omega)
 rw [choose_self] at this
 have e : (rowL (i + 1)).take (i + 1 + 1) = rowL (i + 1) := List.take_of_length_le (by rw [rowL_len];omega)
 rw [e] at this
 exact this.symm
theorem choose_small {n k : Nat} (h : n ≤ 14) : choose n k ≤ 3432 := by
 refine Nat.le_trans (choose_mono_n h) ?_
 rw [choose_fast]
 rcases Nat.lt_or_ge 14 k with h | h
 ·rw [← choose_fast,choose_gt h];omega
 ·have : k = 0 ∨ k = 1 ∨ k = 2 ∨ k = 3 ∨ k = 4 ∨ k = 5 ∨ k = 6 ∨ k = 7 ∨ k = 8 ∨ k = 9 ∨ k = 10 ∨ k = 11 ∨ k = 12 ∨ k = 13 ∨ k = 14 := by omega
  rcases this with rfl | rfl | rfl | rfl | rfl | rfl | rfl | rfl | rfl | rfl | rfl | rfl | rfl | rfl | rfl <;> decide
set_option maxHeartbeats 4000000 in
set_option maxRecDepth 100000 in
theorem choose15_in (n k : Nat) (w : World) (hn : n ≤ 14) (hk : k ≤ n) : Calls Tryz.prog 119 #[.int .i64 (n : Int),.int .i64 (k : Int)] w (IntB ((choose n k : Nat) : Int) w) := by
 have k1 : ¬ (n : Int) < (k : Int) := by omega
 obtain ⟨r,hr⟩ : ∃ r,r = choose n k := ⟨_,rfl⟩
 rw [← hr]
 replace hr := hide hr
 go_enter Tryz.func119,Tryz.ntmps119
 go_wp2
 obtain ⟨W,hW⟩ : ∃ W,W = w.alloc (.cells #[.int .i64 1] 3) := ⟨_,rfl⟩
 have B0 : Below w.heap.size w W := by rw [hW];exact Bel.al (Below.refl _ _) _
 have h0 : Rd I64 W (.slice (some ⟨w.heap.size,0,none⟩) 1 1) [1] := by rw [hW];exact Rd.new [1] rfl rfl (Nat.le_refl _) (by decide) rfl
 rw [← hW]
 clear hW
 go_loopg [5,6] n (fun gh rv t wr => ∃ (i : Nat) (so : Option Addr) (sc : Nat),gh = n - i ∧ i ≤ n ∧ rv = .slice so (i + 1) sc ∧ t = .int .i64 i ∧ Rd I64 wr (.slice so (i + 1) sc) (rowL i) ∧ Below w.heap.size w wr)
 case atStart => exact ⟨0,some ⟨w.heap.size,0,none⟩,1,rfl,Nat.zero_le _,rfl,rfl,by rw [rowL_zero];exact h0,B0⟩
 case round =>
  obtain ⟨i,so,sc,hg,hi,rfl,rfl,hrow,hB⟩ := hrel
  replace hg := hide hg
  obtain ⟨so',sc',e,hsc1,hsc2,hrow'⟩ := Rd.form hrow
  rw [rowL_len] at e hsc1
  injection e with e1 _ e3
  subst e1 e3
  have hsc3 : sc ≤ 9223372036854775807 := by unfold maxLen at hsc2;omega
  clear hrow'
  by_cases hlt : i < n
  ·have hlt2 := hide hlt
   obtain ⟨b,off,rfl,hbb,hcell⟩ := Rd.at_ hrow (k := i) (by rw [rowL_len];omega)
   go_wp2
   obtain ⟨wo,hwo⟩ : ∃ wo,wo = wr := ⟨_,rfl⟩
   rw [← hwo] at hrow hB hbb hcell ⊢
   obtain ⟨Z,hZ⟩ : ∃ Z,Z = wo.alloc (.cells #[.int .i64 1] 3) := ⟨_,rfl⟩
   have bZ : Below wo.heap.size wo Z := by rw [hZ];exact Bel.al (Below.refl _ _) _
   have oZ : Own I64 Z wo.heap.size 3 (.slice (some ⟨wo.heap.size,0,none⟩) 1 1) [1] := by
    rw [hZ]
    exact ⟨rfl,.inr ⟨wo.heap.size,1,_,rfl,Nat.le_refl _,Row.newOf (cs := [.int .i64 1]) _ rfl,Nat.le_refl _,by unfold maxLen;omega,rfl,rfl⟩⟩
   rw [← hZ]
   clear hwo hZ
   replace hcell := hide hcell
   go_loopg [7,8] i (fun gh nv t wr => ∃ (k : Nat) (A : List Int) (ao : Option Addr) (m cap : Nat),gh = i - k ∧ k ≤ i ∧ nv = .slice ao m cap ∧ t = .int .i64 ((k : Int) + 1) ∧ Own I64 wr wo.heap.size 3 (.slice ao m cap) A ∧ Below wo.heap.size wo wr ∧ Hid (A = (rowL (i + 1)).take (k + 1)))
   case atStart => exact ⟨0,[1],some ⟨wo.heap.size,0,none⟩,1,1,rfl,Nat.zero_le _,rfl,rfl,oZ,bZ,(rowL_one _).symm⟩
   case round =>
    obtain ⟨k,A,ao,m,cap,hg2,hk2,rfl,rfl,hown,hbel,hA⟩ := hrel
    replace hg2 := hide hg2
    have hAl : A.length = k + 1 := by rw [hA.out,List.length_take,rowL_len];omega
    by_cases hki : k < i
    ·have hki2 := hide hki
     obtain ⟨x,hx⟩ : ∃ x : Int,x = ((choose i k : Nat) : Int) := ⟨_,rfl⟩
     obtain ⟨y,hy⟩ : ∃ y : Int,y = ((choose i (k + 1) : Nat) : Int) := ⟨_,rfl⟩
     have c1o : wo.cell? ⟨b,off + k,none⟩ = some (.int .i64 x) := by have := hcell.out k (by rw [rowL_len];omega);rw [this,rowL_get,hx]
     have c2o : wo.cell? ⟨b,off + (k + 1),none⟩ = some (.int .i64 y) := by have := hcell.out (k + 1) (by rw [rowL_len];omega);rw [this,rowL_get,hy]
     have bx : 0 ≤ x ∧ x ≤ 3432 := by have := choose_small (n := i) (k := k) (by omega);omega
     have by_ : 0 ≤ y ∧ y ≤ 3432 := by have := choose_small (n := i) (k := k + 1) (by omega);omega
     obtain ⟨bx1,bx2⟩ := bx
     obtain ⟨by1,by2⟩ := by_
     have hnext : A ++ [x + y] = (rowL (i + 1)).take (k + 1 + 1) := by
      rw [rowL_take (by omega),← hA.out,choose_succ,hx,hy]
      simp
     have c1 := Bel.cellOf hbel c1o
     have c2 := Bel.cellOf hbel c2o
     have j1 : (0 : Int) ≤ (k : Int) := by omega
     have j0 : (0 : Int) ≤ (k : Int) + 1 := by omega
     have j2 : (k : Int) + 1 < ((i + 1 : Nat) : Int) := by omega
     have j3 : (k : Int) + 1 < (i : Int) + 1 := by omega
     have j4 : (k : Int) < (i : Int) + 1 := by omega
     have kw : IntKind.i64.wrap (k : Int) = (k : Int) := IntWalk.i64_in _ (by omega)
     have kx : IntKind.i64.wrap (x + y) = x + y := IntWalk.i64_in _ (by omega)
     replace hnext := hide hnext
     replace hx := hide hx
     replace hy := hide hy
     replace hAl := hide hAl
     go_upto_region 11 with (fail)
     refine wp_region_held_drew (S := fun X => X.cell? ⟨b,off + k,none⟩ = some (.int .i64 x) ∧ X.cell? ⟨b,off + (k + 1),none⟩ = some (.int .i64 y)) (by kernel_rfl) ⟨c1,c2⟩ (fun hHeld => ?_)
     refine' wpAnyH_take (i := 0) (oi := _) (v := .slice ao m cap) rfl (by kernel_rfl) (by kernel_rfl) (by kernel_rfl) (fun _ _ _ h => h) (Or.inl ⟨by rfl,fun X _ => by go_simp⟩) hHeld ?_
     try simp only [Act.put,zsA,zsB,zsC]
     refine' wpAnyH_take (i := 1) (oi := _) (v := .slice (some ⟨b,off,none⟩) (i + 1) sc) rfl (by kernel_rfl) (by kernel_rfl) (by kernel_rfl) (fun _ _ _ h => h) (Or.inl ⟨by rfl,fun X _ => by go_simp⟩) hHeld ?_
     try simp only [Act.put,zsA,zsB,zsC]
     refine' wpAnyH_take (i := 2) (oi := _) (v := .int .i64 ((k : Int) + 1)) rfl (by kernel_rfl) (by kernel_rfl) (by kernel_rfl) (fun _ _ _ h => h) (Or.inl ⟨by rfl,fun X _ => by go_simp⟩) hHeld ?_
     try simp only [Act.put,zsA,zsB,zsC]
     refine' wpAnyH_take (i := 3) (oi := _) (v := .int .i64 (k : Int)) rfl (by kernel_rfl) (by kernel_rfl) (by kernel_rfl) (fun _ _ _ h => h) (Or.inl ⟨by rfl,fun X _ => by go_simp⟩) hHeld ?_
     try simp only [Act.put,zsA,zsB,zsC]
     refine' wpAnyH_take (i := 4) (oi := _) (v := .pointer (some ⟨b,off + k,none⟩)) rfl (by kernel_rfl) (by kernel_rfl) (by kernel_rfl) (fun _ _ _ h => h) (Or.inl ⟨by rfl,fun X _ => by go_simp⟩) hHeld ?_
     try simp only [Act.put,zsA,zsB,zsC]
     refine' wpAnyH_take (i := 5) (oi := _) (v := .int .i64 x) rfl (by kernel_rfl) (by kernel_rfl) (by kernel_rfl) (fun _ _ _ h => h) (Or.inl ⟨by rfl,fun X hX => by obtain ⟨h1,h2⟩ := hX;go_simp⟩) hHeld ?_
     try simp only [Act.put,zsA,zsB,zsC]
     refine' wpAnyH_take (i := 6) (oi := _) (v := .slice (some ⟨b,off,none⟩) (i + 1) sc) rfl (by kernel_rfl) (by kernel_rfl) (by kernel_rfl) (fun _ _ _ h => h) (Or.inl ⟨by rfl,fun X _ => by go_simp⟩) hHeld ?_
     try simp only [Act.put,zsA,zsB,zsC]
     refine' wpAnyH_take (i := 7) (oi := _) (v := .int .i64 ((k : Int) + 1)) rfl (by kernel_rfl) (by kernel_rfl) (by kernel_rfl) (fun _ _ _ h => h) (Or.inl ⟨by rfl,fun X _ => by go_simp⟩) hHeld ?_
     try simp only [Act.put,zsA,zsB,zsC]
     refine' wpAnyH_take (i := 8) (oi := _) (v := .pointer (some ⟨b,off + (k + 1),none⟩)) rfl (by kernel_rfl) (by kernel_rfl) (by kernel_rfl) (fun _ _ _ h => h) (Or.inl ⟨by rfl,fun X _ => by go_simp⟩) hHeld ?_
     try simp only [Act.put,zsA,zsB,zsC]
     refine' wpAnyH_take (i := 9) (oi := _) (v := .int .i64 y) rfl (by kernel_rfl) (by kernel_rfl) (by kernel_rfl) (fun _ _ _ h => h) (Or.inl ⟨by rfl,fun X hX => by obtain ⟨h1,h2⟩ := hX;go_simp⟩) hHeld ?_
     try simp only [Act.put,zsA,zsB,zsC]
     refine' wpAnyH_take (i := 10) (oi := _) (v := .int .i64 (x + y)) rfl (by kernel_rfl) (by kernel_rfl) (by kernel_rfl) (fun _ _ _ h => h) (Or.inl ⟨by rfl,fun X _ => by go_simp⟩) hHeld ?_
     try simp only [Act.put,zsA,zsB,zsC]
     refine wpAnyH_ready (rs := [11]) (by kernel_rfl) (by simp) ?_
     refine AllReadyH.cons (o := _) rfl (fun K hK => ?_) AllReadyH.nil
     go_simp
     obtain ⟨Y,hY⟩ : ∃ Y,Y = (wr.alloc (.cells #[.int .i64 (x + y)] 3)).drew := ⟨_,rfl⟩
     have bY : Below wr.heap.size wr Y := by rw [hY];exact Bel.to (Bel.al (Below.refl _ _) _) (Below.drewSelf _)
     have nY : Rd I64 Y (.slice (some ⟨wr.heap.size,0,none⟩) 1 1) [x + y] := by rw [hY];exact Rd.drew (Rd.new [x + y] rfl rfl (Nat.le_refl _) (by decide) rfl)
     rw [← hY]
     clear hY
     have c1 := Bel.cellOf bY c1
     have c2 := Bel.cellOf bY c2
     have hown := hown.keep bY
     refine hK.out _ _ ⟨c1,c2⟩ (fun hHeld => ?_)
     clear hK K
     try simp only [Act.put,zsA,zsB,zsC]
     refine wpAnyH_ready (rs := [12]) (by kernel_rfl) (by simp) ?_
     refine AllReadyH.cons (o := _) rfl (fun K hK => ?_) AllReadyH.nil
     refine wp_append_rd _ _ 27 rfl (V := I64) (fun _ => rfl) wo.heap.size 3 (.int .i64 0) 8 Tryz.underlying27 infoInt rfl _ A rfl ?_ _ [x + y] rfl ?_ ?_ ?_ ?_ ?_
     case refine_1 => exact hown
     case refine_2 => exact nY
     case refine_3 => have := hAl.out;simp;omega
     case refine_4 => have := hAl.out;simp;omega
     case refine_5 => have := bY.size;have := hbel.size;omega
     intro v4 w4 hown4 hg4
     have b4 : Below wo.heap.size wo w4 := (Bel.to hbel bY).grown hg4 (Bel.to hbel bY).size (fun g hg => (hown.lt g hg).1)
     have c1 := Bel.cellOf b4 c1o
     have c2 := Bel.cellOf b4 c2o
     obtain ⟨a4,n4,k4,rfl⟩ := Rd.shape hown4.rd
     clear hg4 nY bY
     refine hK.out _ _ ⟨c1,c2⟩ (fun hHeld => ?_)
     clear hK K
     try simp only [Act.put,zsA,zsB,zsC]
     refine' wpAnyH_take (i := 13) (oi := _) (v := .slice a4 n4 k4) rfl (by kernel_rfl) (by kernel_rfl) (by kernel_rfl) (fun _ _ _ h => h) (Or.inl ⟨by rfl,fun X _ => by go_simp⟩) hHeld ?_
     try simp only [Act.put,zsA,zsB,zsC]
     refine wpAnyH_done (by kernel_rfl) ?_ _
     go_simp
     have hAT : A ++ [x + y] = (rowL (i + 1)).take (k + 1 + 1) := hnext.out
     replace hAT := hide hAT
     go_wp2
     go_roundg (i - (k + 1))
     case measure => have := hg2.out;have := hki2.out;omega
     case rel => exact ⟨k + 1,A ++ [x + y],a4,n4,k4,rfl,by have := hki2.out;omega,rfl,by go_num,hown4,b4,hAT⟩
    ·have hki2 : k = i := by omega
     have hA2 := hA.out
     rw [hki2] at hA2
     have hfin : A ++ [1] = rowL (i + 1) := by rw [hA2];exact rowL_all i
     have j3 : ¬ (k : Int) + 1 < (i : Int) + 1 := by omega
     replace hfin := hide hfin
     replace hki2 := hide hki2
     clear hA2
     go_wp2_with (with_reducible refine wpList_append_rd _ rfl _ _ 27 rfl (V := I64) (fun _ => rfl) wo.heap.size 3 (.int .i64 0) 8 Tryz.underlying27 infoInt rfl _ A rfl ?_ _ [1] rfl ?_ ?_ ?_ ?_ ?_)
     case refine_1 => exact Own.alloc hown _
     case refine_2 => exact Rd.new [1] rfl rfl (Nat.le_refl _) (by decide) rfl
     case refine_3 => have := hAl;simp;omega
     case refine_4 => have := hAl;simp;omega
     case refine_5 => have := hbel.size;simp;omega
     intro v5 w5 hown5 hg5 hv5
     have b5 := (Bel.al hbel _).grown hg5 (Bel.al hbel _).size (fun g hg => (hown.lt g hg).1)
     have hrd5 := hown5.rd
     rw [hfin.out] at hrd5
     obtain ⟨a5,n5,k5,rfl⟩ := Rd.shape hrd5
     have hn5 := Rd.len_eq hrd5
     rw [rowL_len] at hn5
     subst hn5
     clear hown5 hown hg5 hv5
     go_wp2
     go_roundg (n - (i + 1))
     case measure => have := hg.out;have := hlt2.out;omega
     case rel => exact ⟨i + 1,a5,k5,rfl,by have := hlt2.out;omega,rfl,by go_num,hrd5,Bel.to hB b5⟩
  ·have hin : i = n := by omega
   obtain ⟨b,off,rfl,hbb,hcell⟩ := Rd.at_ hrow (k := k) (by rw [rowL_len];omega)
   have c1 : wr.cell? ⟨b,off + k,none⟩ = some (.int .i64 (r : Int)) := by have := hcell k (by rw [rowL_len];omega);rw [this,rowL_get,hr.out,hin]
   have j1 : (0 : Int) ≤ (k : Int) := by omega
   have j2 : (k : Int) < (i : Int) + 1 := by omega
   replace hin := hide hin
   clear hcell
   go_wp2
   go_ret
   exact ⟨rfl,hB⟩
theorem choose15_any (n k : Int) (w : World) (h0 : 0 ≤ n) (hn : n ≤ 14) : Calls Tryz.prog 119 #[.int .i64 n,.int .i64 k] w (IntB ((chooseI n k : Nat) : Int) w) := by
 obtain ⟨n,rfl⟩ := Int.eq_ofNat_of_zero_le h0
 have hz : ∀ X,(k < 0 ∨ (¬ k < 0 ∧ (n : Int) < k)) → Calls Tryz.prog 119 #[.int .i64 (n : Int),.int .i64 k] X (IntB 0 X) := by
  intro X h
  clear h0
  rcases h with h | ⟨h,h2⟩
  all_goals
   go_enter Tryz.func119,Tryz.ntmps119
   go_wp2
   go_ret
   exact ⟨rfl,Below.refl _ _⟩
 by_cases h1 : k < 0
 ·unfold chooseI
  rw [if_pos h1]
  exact hz w (.inl h1)
 ·obtain ⟨k,rfl⟩ := Int.eq_ofNat_of_zero_le (show 0 ≤ k by omega)
  rw [chooseI_nat n k _ _ rfl rfl]
  by_cases h2 : k ≤ n
  ·exact choose15_in n k w (by omega) h2
  ·rw [choose_gt (by omega)]
   exact hz w (.inr ⟨by omega,by omega⟩)
theorem mat_system {g : GameD} (h : matB g = true) : g.system ≤ 14 := by
 unfold matB at h
 simp only [Bool.and_eq_true] at h
 obtain ⟨⟨⟨⟨⟨⟨⟨h1,h2⟩,h3⟩,h4⟩,h5⟩,h6⟩,h7⟩,h8⟩ := h
 have a2 := inB_iff.1 h2
 by_cases hk : g.kind = 2
 ·rw [if_pos hk] at h8
  have := inB_iff.1 h8
  omega
 ·rw [if_neg hk] at h8
  simp only [Bool.and_eq_true] at h8
  have := inB_iff.1 h8.1
  omega
theorem gameS_ok {g : GameD} (h : gameS g = 0) : gameE g = 0 ∧ g.kind = 1 := by
 unfold gameS at h
 split at h
 ·rename_i h1;exact absurd h h1
 ·rename_i h1
  split at h
  ·omega
  ·rename_i h2
   exact ⟨by simpa using h1,by simpa using h2⟩
def sysE (g : GameD) (a b : List Int) : Int :=
 if gameS g ≠ 0 then gameS g
 else if (a.length : Int) < g.main + 1 ∨ g.system < (a.length : Int) ∨ (b.length : Int) ≠ g.bonus then 3
 else if allB a 1 g.of = false ∨ allB b 1 g.bonusOf = false then 2
 else if dupB a = true ∨ dupB b = true then 6
 else 0
theorem sysE_ok {g : GameD} {a b : List Int} (h : sysE g a b = 0) : gameS g = 0 ∧ ¬ (a.length : Int) < g.main + 1 ∧ ¬ g.system < (a.length : Int) ∧ (b.length : Int) = g.bonus ∧ allB a 1 g.of = true ∧ allB b 1 g.bonusOf = true ∧ dupB a = false ∧ dupB b = false := by
 unfold sysE at h
 by_cases h1 : gameS g = 0
 ·rw [if_neg (by simpa using h1)] at h
  by_cases h2 : (a.length : Int) < g.main + 1 ∨ g.system < (a.length : Int) ∨ (b.length : Int) ≠ g.bonus
  ·rw [if_pos h2] at h;omega
  ·rw [if_neg h2] at h
   by_cases h3 : allB a 1 g.of = false ∨ allB b 1 g.bonusOf = false
   ·rw [if_pos h3] at h;omega
   ·rw [if_neg h3] at h
    by_cases h4 : dupB a = true ∨ dupB b = true
    ·rw [if_pos h4] at h;omega
    ·refine ⟨h1,by omega,by omega,by omega,?_,?_,?_,?_⟩
     ·cases hx : allB a 1 g.of
      ·exact absurd (.inl hx) h3
      ·rfl
     ·cases hx : allB b 1 g.bonusOf
      ·exact absurd (.inr hx) h3
      ·rfl
     ·cases hx : dupB a
      ·rfl
      ·exact absurd (.inl hx) h4
     ·cases hx : dupB b
      ·rfl
      ·exact absurd (.inr hx) h4
 ·rw [if_pos (by simpa using h1)] at h;exact absurd h h1
theorem sys_bounds {g : GameD} (h : gameS g = 0) : 1 ≤ g.main ∧ g.main ≤ 10 ∧ 0 ≤ g.of ∧ g.of ≤ 80 ∧ 0 ≤ g.bonusOf ∧ g.bonusOf ≤ 80 ∧ g.system ≤ 14 ∧ 0 ≤ g.bonus ∧ g.bonus ≤ 4 := by
 have hm := game_mat (gameS_ok h).1
 obtain ⟨f1,f2,f3,f4,f5,f6,f7,f8,f9,f10,f11⟩ := mat_facts hm
 exact ⟨f1,f2,f5,f6,f10,f11,mat_system hm,f3,f4⟩
theorem all_80 {l : List Int} {hi : Int} (h : allB l 1 hi = true) (h8 : hi ≤ 80) : ∀ x ∈ l,1 ≤ x ∧ x ≤ 80 := fun x hx => by have := allB_iff.1 h x hx;omega
def sysP (g : GameD) (a b : List Int) : Int × Int := if sysE g a b = 0 then (((choose a.length g.main.toNat : Nat) : Int),0) else (0,sysE g a b)
set_option maxHeartbeats 2000000 in
set_option maxRecDepth 100000 in
theorem scheck15_s1 (g : GameD) (av tv mv bv : Value) (ms : List AddonM) (a b : List Int) (w : World) (h : GameR w av tv ms g) (hl : LineR w mv bv a b) (he : gameS g ≠ 0) :
  Calls Tryz.prog 98 #[gameVal g av tv,lineVal mv bv] w (IntB (gameS g) w) := by
 have cV := hide (fun X (hX : GameR X av tv ms g) => valid_any g av tv ms X hX)
 obtain ⟨c,hcc⟩ : ∃ c,c = gameS g := ⟨_,rfl⟩
 rw [← hcc] at cV he ⊢
 clear hcc
 have hcb : (c != 0) = true := by simpa using he
 replace he := hide he
 have hh := hide h
 have hl' := hide hl
 obtain ⟨aa,ac,rfl,hal,ham⟩ := h.1.1.shape
 obtain ⟨ta,tc,rfl,htl,htm⟩ := h.2.2.shape
 obtain ⟨ma,mc,rfl,hma,hmc,-⟩ := hl.1.form
 obtain ⟨ba,bc,rfl,hba,hbc,-⟩ := hl.2.form
 unfold maxLen at hmc hbc
 clear h hl
 unfold gameVal lineVal
 go_enter Tryz.func98,Tryz.ntmps98
 go_upto_region 1 with (fail)
 obtain ⟨W,hW⟩ : ∃ W,W = ((w.alloc (Obj.cells #[.string g.name,.int .i64 g.kind,.int .i64 g.price,.int .i64 g.main,.int .i64 g.of,.int .i64 g.bonus,.int .i64 g.bonusOf,.int .i64 g.extra,.int .i64 g.draws,.int .i64 g.system,.int .i64 g.days,.int .i64 g.at_,.int .i64 g.close,.int .i64 g.cancel,.int .i64 g.expiry,.int .i64 g.pool,.int .i64 g.reserve,.int .i64 g.round,.int .i64 g.cap,.int .i64 g.rolls,(.slice aa ms.length ac),(.slice ta g.tiers.length tc)] 25)).alloc (Obj.cells #[(.slice ma a.length mc),(.slice ba b.length bc)] 58)) := ⟨_,rfl⟩
 have bW : Below w.heap.size w W := by rw [hW];exact Bel.al (Bel.al (Below.refl _ _) _) _
 have r0 : GameAt W (w.heap.size) g ((.slice aa ms.length ac)) ((.slice ta g.tiers.length tc)) := by rw [hW];exact Row.alloc (Row.new _ _ _) _
 have r1 : LineAt W (w.heap.size + 1) ((.slice ma a.length mc)) ((.slice ba b.length bc)) := by rw [hW];exact Row.at2 _ _ _ _
 have sW : w.heap.size + 1 < W.heap.size := by rw [hW];simp
 rw [← hW]
 clear hW
 go_wp2_with (first | (refine wpList_load_row rfl 25 _ rfl _ rfl _ _ _ _ r0 Tryz.underlying25 rfl (by kernel_rfl) ?_) | fail)
 refine (cV.out _ (hh.out.below bW)).mono ?_
 rintro e w1 ⟨rfl,hb1⟩
 have B1 := Bel.to bW hb1
 have r0 := r0.keep hb1
 have r1 := r1.keep hb1
 have d3 := r0.main
 have d4 := r0.of
 have d5 := r0.bonus
 have d6 := r0.bonusOf
 have d9 := r0.system
 have x0 := r1.main
 have x1 := r1.bonus
 clear hb1 bW sW cV
 go_wp2
 go_ret
 exact ⟨rfl,B1⟩
set_option maxHeartbeats 2000000 in
set_option maxRecDepth 100000 in
theorem scheck15_s2 (g : GameD) (av tv mv bv : Value) (ms : List AddonM) (a b : List Int) (w : World) (h : GameR w av tv ms g) (hl : LineR w mv bv a b) (he : gameS g = 0) (n1 : (a.length : Int) ≤ g.main) :
  Calls Tryz.prog 98 #[gameVal g av tv,lineVal mv bv] w (IntB 3 w) := by
 have cV := hide (fun X (hX : GameR X av tv ms g) => valid_any g av tv ms X hX)
 obtain ⟨f1,f2,f3,f4,f5,f6,f7,f8,f9⟩ := sys_bounds he
 rw [he] at cV
 replace he := hide he
 have hh := hide h
 have hl' := hide hl
 obtain ⟨aa,ac,rfl,hal,ham⟩ := h.1.1.shape
 obtain ⟨ta,tc,rfl,htl,htm⟩ := h.2.2.shape
 obtain ⟨ma,mc,rfl,hma,hmc,-⟩ := hl.1.form
 obtain ⟨ba,bc,rfl,hba,hbc,-⟩ := hl.2.form
 unfold maxLen at hmc hbc
 clear h hl
 unfold gameVal lineVal
 go_enter Tryz.func98,Tryz.ntmps98
 go_upto_region 1 with (fail)
 obtain ⟨W,hW⟩ : ∃ W,W = ((w.alloc (Obj.cells #[.string g.name,.int .i64 g.kind,.int .i64 g.price,.int .i64 g.main,.int .i64 g.of,.int .i64 g.bonus,.int .i64 g.bonusOf,.int .i64 g.extra,.int .i64 g.draws,.int .i64 g.system,.int .i64 g.days,.int .i64 g.at_,.int .i64 g.close,.int .i64 g.cancel,.int .i64 g.expiry,.int .i64 g.pool,.int .i64 g.reserve,.int .i64 g.round,.int .i64 g.cap,.int .i64 g.rolls,(.slice aa ms.length ac),(.slice ta g.tiers.length tc)] 25)).alloc (Obj.cells #[(.slice ma a.length mc),(.slice ba b.length bc)] 58)) := ⟨_,rfl⟩
 have bW : Below w.heap.size w W := by rw [hW];exact Bel.al (Bel.al (Below.refl _ _) _) _
 have r0 : GameAt W (w.heap.size) g ((.slice aa ms.length ac)) ((.slice ta g.tiers.length tc)) := by rw [hW];exact Row.alloc (Row.new _ _ _) _
 have r1 : LineAt W (w.heap.size + 1) ((.slice ma a.length mc)) ((.slice ba b.length bc)) := by rw [hW];exact Row.at2 _ _ _ _
 have sW : w.heap.size + 1 < W.heap.size := by rw [hW];simp
 rw [← hW]
 clear hW
 go_wp2_with (first | (refine wpList_load_row rfl 25 _ rfl _ rfl _ _ _ _ r0 Tryz.underlying25 rfl (by kernel_rfl) ?_) | fail)
 refine (cV.out _ (hh.out.below bW)).mono ?_
 rintro e w1 ⟨rfl,hb1⟩
 have B1 := Bel.to bW hb1
 have r0 := r0.keep hb1
 have r1 := r1.keep hb1
 have d3 := r0.main
 have d4 := r0.of
 have d5 := r0.bonus
 have d6 := r0.bonusOf
 have d9 := r0.system
 have x0 := r1.main
 have x1 := r1.bonus
 clear hb1 bW sW cV
 go_wp2
 go_ret
 exact ⟨rfl,B1⟩
set_option maxHeartbeats 2000000 in
set_option maxRecDepth 100000 in
theorem scheck15_s3 (g : GameD) (av tv mv bv : Value) (ms : List AddonM) (a b : List Int) (w : World) (h : GameR w av tv ms g) (hl : LineR w mv bv a b) (he : gameS g = 0) (n1 : g.main < (a.length : Int)) (n2 : g.system < (a.length : Int)) :
  Calls Tryz.prog 98 #[gameVal g av tv,lineVal mv bv] w (IntB 3 w) := by
 have cV := hide (fun X (hX : GameR X av tv ms g) => valid_any g av tv ms X hX)
 obtain ⟨f1,f2,f3,f4,f5,f6,f7,f8,f9⟩ := sys_bounds he
 rw [he] at cV
 replace he := hide he
 have hh := hide h
 have hl' := hide hl
 obtain ⟨aa,ac,rfl,hal,ham⟩ := h.1.1.shape
 obtain ⟨ta,tc,rfl,htl,htm⟩ := h.2.2.shape
 obtain ⟨ma,mc,rfl,hma,hmc,-⟩ := hl.1.form
 obtain ⟨ba,bc,rfl,hba,hbc,-⟩ := hl.2.form
 unfold maxLen at hmc hbc
 clear h hl
 unfold gameVal lineVal
 go_enter Tryz.func98,Tryz.ntmps98
 go_upto_region 1 with (fail)
 obtain ⟨W,hW⟩ : ∃ W,W = ((w.alloc (Obj.cells #[.string g.name,.int .i64 g.kind,.int .i64 g.price,.int .i64 g.main,.int .i64 g.of,.int .i64 g.bonus,.int .i64 g.bonusOf,.int .i64 g.extra,.int .i64 g.draws,.int .i64 g.system,.int .i64 g.days,.int .i64 g.at_,.int .i64 g.close,.int .i64 g.cancel,.int .i64 g.expiry,.int .i64 g.pool,.int .i64 g.reserve,.int .i64 g.round,.int .i64 g.cap,.int .i64 g.rolls,(.slice aa ms.length ac),(.slice ta g.tiers.length tc)] 25)).alloc (Obj.cells #[(.slice ma a.length mc),(.slice ba b.length bc)] 58)) := ⟨_,rfl⟩
 have bW : Below w.heap.size w W := by rw [hW];exact Bel.al (Bel.al (Below.refl _ _) _) _
 have r0 : GameAt W (w.heap.size) g ((.slice aa ms.length ac)) ((.slice ta g.tiers.length tc)) := by rw [hW];exact Row.alloc (Row.new _ _ _) _
 have r1 : LineAt W (w.heap.size + 1) ((.slice ma a.length mc)) ((.slice ba b.length bc)) := by rw [hW];exact Row.at2 _ _ _ _
 have sW : w.heap.size + 1 < W.heap.size := by rw [hW];simp
 rw [← hW]
 clear hW
 go_wp2_with (first | (refine wpList_load_row rfl 25 _ rfl _ rfl _ _ _ _ r0 Tryz.underlying25 rfl (by kernel_rfl) ?_) | fail)
 refine (cV.out _ (hh.out.below bW)).mono ?_
 rintro e w1 ⟨rfl,hb1⟩
 have B1 := Bel.to bW hb1
 have r0 := r0.keep hb1
 have r1 := r1.keep hb1
 have d3 := r0.main
 have d4 := r0.of
 have d5 := r0.bonus
 have d6 := r0.bonusOf
 have d9 := r0.system
 have x0 := r1.main
 have x1 := r1.bonus
 clear hb1 bW sW cV
 go_wp2
 go_ret
 exact ⟨rfl,B1⟩
set_option maxHeartbeats 2000000 in
set_option maxRecDepth 100000 in
theorem scheck15_s4 (g : GameD) (av tv mv bv : Value) (ms : List AddonM) (a b : List Int) (w : World) (h : GameR w av tv ms g) (hl : LineR w mv bv a b) (he : gameS g = 0) (n1 : g.main < (a.length : Int)) (n2 : (a.length : Int) ≤ g.system) (n3 : (b.length : Int) ≠ g.bonus) :
  Calls Tryz.prog 98 #[gameVal g av tv,lineVal mv bv] w (IntB 3 w) := by
 have cV := hide (fun X (hX : GameR X av tv ms g) => valid_any g av tv ms X hX)
 obtain ⟨f1,f2,f3,f4,f5,f6,f7,f8,f9⟩ := sys_bounds he
 rw [he] at cV
 have n3b : ((b.length : Int) != g.bonus) = true := by simpa using n3
 replace n3 := hide n3
 replace he := hide he
 have hh := hide h
 have hl' := hide hl
 obtain ⟨aa,ac,rfl,hal,ham⟩ := h.1.1.shape
 obtain ⟨ta,tc,rfl,htl,htm⟩ := h.2.2.shape
 obtain ⟨ma,mc,rfl,hma,hmc,-⟩ := hl.1.form
 obtain ⟨ba,bc,rfl,hba,hbc,-⟩ := hl.2.form
 unfold maxLen at hmc hbc
 clear h hl
 unfold gameVal lineVal
 go_enter Tryz.func98,Tryz.ntmps98
 go_upto_region 1 with (fail)
 obtain ⟨W,hW⟩ : ∃ W,W = ((w.alloc (Obj.cells #[.string g.name,.int .i64 g.kind,.int .i64 g.price,.int .i64 g.main,.int .i64 g.of,.int .i64 g.bonus,.int .i64 g.bonusOf,.int .i64 g.extra,.int .i64 g.draws,.int .i64 g.system,.int .i64 g.days,.int .i64 g.at_,.int .i64 g.close,.int .i64 g.cancel,.int .i64 g.expiry,.int .i64 g.pool,.int .i64 g.reserve,.int .i64 g.round,.int .i64 g.cap,.int .i64 g.rolls,(.slice aa ms.length ac),(.slice ta g.tiers.length tc)] 25)).alloc (Obj.cells #[(.slice ma a.length mc),(.slice ba b.length bc)] 58)) := ⟨_,rfl⟩
 have bW : Below w.heap.size w W := by rw [hW];exact Bel.al (Bel.al (Below.refl _ _) _) _
 have r0 : GameAt W (w.heap.size) g ((.slice aa ms.length ac)) ((.slice ta g.tiers.length tc)) := by rw [hW];exact Row.alloc (Row.new _ _ _) _
 have r1 : LineAt W (w.heap.size + 1) ((.slice ma a.length mc)) ((.slice ba b.length bc)) := by rw [hW];exact Row.at2 _ _ _ _
 have sW : w.heap.size + 1 < W.heap.size := by rw [hW];simp
 rw [← hW]
 clear hW
 go_wp2_with (first | (refine wpList_load_row rfl 25 _ rfl _ rfl _ _ _ _ r0 Tryz.underlying25 rfl (by kernel_rfl) ?_) | fail)
 refine (cV.out _ (hh.out.below bW)).mono ?_
 rintro e w1 ⟨rfl,hb1⟩
 have B1 := Bel.to bW hb1
 have r0 := r0.keep hb1
 have r1 := r1.keep hb1
 have d3 := r0.main
 have d4 := r0.of
 have d5 := r0.bonus
 have d6 := r0.bonusOf
 have d9 := r0.system
 have x0 := r1.main
 have x1 := r1.bonus
 clear hb1 bW sW cV
 go_wp2
 go_ret
 exact ⟨rfl,B1⟩
set_option maxHeartbeats 2000000 in
set_option maxRecDepth 100000 in
theorem scheck15_s5 (g : GameD) (av tv mv bv : Value) (ms : List AddonM) (a b : List Int) (w : World) (h : GameR w av tv ms g) (hl : LineR w mv bv a b) (he : gameS g = 0) (n1 : g.main < (a.length : Int)) (n2 : (a.length : Int) ≤ g.system) (n3 : (b.length : Int) = g.bonus) (ia : allB a 1 g.of = false) :
  Calls Tryz.prog 98 #[gameVal g av tv,lineVal mv bv] w (IntB 2 w) := by
 have cV := hide (fun X (hX : GameR X av tv ms g) => valid_any g av tv ms X hX)
 obtain ⟨f1,f2,f3,f4,f5,f6,f7,f8,f9⟩ := sys_bounds he
 rw [he] at cV
 have cIA := hide (fun X (hX : Below w.heap.size w X) => inside15_any mv a g.of X (hl.1.below hX))
 rw [ia] at cIA
 have n3b : ((b.length : Int) != g.bonus) = false := by simpa using n3
 replace n3 := hide n3
 replace ia := hide ia
 replace he := hide he
 have hh := hide h
 have hl' := hide hl
 obtain ⟨aa,ac,rfl,hal,ham⟩ := h.1.1.shape
 obtain ⟨ta,tc,rfl,htl,htm⟩ := h.2.2.shape
 obtain ⟨ma,mc,rfl,hma,hmc,-⟩ := hl.1.form
 obtain ⟨ba,bc,rfl,hba,hbc,-⟩ := hl.2.form
 unfold maxLen at hmc hbc
 clear h hl
 unfold gameVal lineVal
 go_enter Tryz.func98,Tryz.ntmps98
 go_upto_region 1 with (fail)
 obtain ⟨W,hW⟩ : ∃ W,W = ((w.alloc (Obj.cells #[.string g.name,.int .i64 g.kind,.int .i64 g.price,.int .i64 g.main,.int .i64 g.of,.int .i64 g.bonus,.int .i64 g.bonusOf,.int .i64 g.extra,.int .i64 g.draws,.int .i64 g.system,.int .i64 g.days,.int .i64 g.at_,.int .i64 g.close,.int .i64 g.cancel,.int .i64 g.expiry,.int .i64 g.pool,.int .i64 g.reserve,.int .i64 g.round,.int .i64 g.cap,.int .i64 g.rolls,(.slice aa ms.length ac),(.slice ta g.tiers.length tc)] 25)).alloc (Obj.cells #[(.slice ma a.length mc),(.slice ba b.length bc)] 58)) := ⟨_,rfl⟩
 have bW : Below w.heap.size w W := by rw [hW];exact Bel.al (Bel.al (Below.refl _ _) _) _
 have r0 : GameAt W (w.heap.size) g ((.slice aa ms.length ac)) ((.slice ta g.tiers.length tc)) := by rw [hW];exact Row.alloc (Row.new _ _ _) _
 have r1 : LineAt W (w.heap.size + 1) ((.slice ma a.length mc)) ((.slice ba b.length bc)) := by rw [hW];exact Row.at2 _ _ _ _
 have sW : w.heap.size + 1 < W.heap.size := by rw [hW];simp
 rw [← hW]
 clear hW
 go_wp2_with (first | (refine wpList_load_row rfl 25 _ rfl _ rfl _ _ _ _ r0 Tryz.underlying25 rfl (by kernel_rfl) ?_) | fail)
 refine (cV.out _ (hh.out.below bW)).mono ?_
 rintro e w1 ⟨rfl,hb1⟩
 have B1 := Bel.to bW hb1
 have r0 := r0.keep hb1
 have r1 := r1.keep hb1
 have d3 := r0.main
 have d4 := r0.of
 have d5 := r0.bonus
 have d6 := r0.bonusOf
 have d9 := r0.system
 have x0 := r1.main
 have x1 := r1.bonus
 clear hb1 bW sW cV
 go_wp2_with fail
 refine (cIA.out _ B1).mono ?_
 rintro e w' ⟨rfl,rfl⟩
 go_wp2
 go_ret
 exact ⟨rfl,B1⟩
set_option maxHeartbeats 2000000 in
set_option maxRecDepth 100000 in
theorem scheck15_s6 (g : GameD) (av tv mv bv : Value) (ms : List AddonM) (a b : List Int) (w : World) (h : GameR w av tv ms g) (hl : LineR w mv bv a b) (he : gameS g = 0) (n1 : g.main < (a.length : Int)) (n2 : (a.length : Int) ≤ g.system) (n3 : (b.length : Int) = g.bonus) (ia : allB a 1 g.of = true) (ib : allB b 1 g.bonusOf = false) :
  Calls Tryz.prog 98 #[gameVal g av tv,lineVal mv bv] w (IntB 2 w) := by
 have cV := hide (fun X (hX : GameR X av tv ms g) => valid_any g av tv ms X hX)
 obtain ⟨f1,f2,f3,f4,f5,f6,f7,f8,f9⟩ := sys_bounds he
 rw [he] at cV
 have cIA := hide (fun X (hX : Below w.heap.size w X) => inside15_any mv a g.of X (hl.1.below hX))
 rw [ia] at cIA
 have cIB := hide (fun X (hX : Below w.heap.size w X) => inside15_any bv b g.bonusOf X (hl.2.below hX))
 rw [ib] at cIB
 have n3b : ((b.length : Int) != g.bonus) = false := by simpa using n3
 replace n3 := hide n3
 replace ia := hide ia
 replace ib := hide ib
 replace he := hide he
 have hh := hide h
 have hl' := hide hl
 obtain ⟨aa,ac,rfl,hal,ham⟩ := h.1.1.shape
 obtain ⟨ta,tc,rfl,htl,htm⟩ := h.2.2.shape
 obtain ⟨ma,mc,rfl,hma,hmc,-⟩ := hl.1.form
 obtain ⟨ba,bc,rfl,hba,hbc,-⟩ := hl.2.form
 unfold maxLen at hmc hbc
 clear h hl
 unfold gameVal lineVal
 go_enter Tryz.func98,Tryz.ntmps98
 go_upto_region 1 with (fail)
 obtain ⟨W,hW⟩ : ∃ W,W = ((w.alloc (Obj.cells #[.string g.name,.int .i64 g.kind,.int .i64 g.price,.int .i64 g.main,.int .i64 g.of,.int .i64 g.bonus,.int .i64 g.bonusOf,.int .i64 g.extra,.int .i64 g.draws,.int .i64 g.system,.int .i64 g.days,.int .i64 g.at_,.int .i64 g.close,.int .i64 g.cancel,.int .i64 g.expiry,.int .i64 g.pool,.int .i64 g.reserve,.int .i64 g.round,.int .i64 g.cap,.int .i64 g.rolls,(.slice aa ms.length ac),(.slice ta g.tiers.length tc)] 25)).alloc (Obj.cells #[(.slice ma a.length mc),(.slice ba b.length bc)] 58)) := ⟨_,rfl⟩
 have bW : Below w.heap.size w W := by rw [hW];exact Bel.al (Bel.al (Below.refl _ _) _) _
 have r0 : GameAt W (w.heap.size) g ((.slice aa ms.length ac)) ((.slice ta g.tiers.length tc)) := by rw [hW];exact Row.alloc (Row.new _ _ _) _
 have r1 : LineAt W (w.heap.size + 1) ((.slice ma a.length mc)) ((.slice ba b.length bc)) := by rw [hW];exact Row.at2 _ _ _ _
 have sW : w.heap.size + 1 < W.heap.size := by rw [hW];simp
 rw [← hW]
 clear hW
 go_wp2_with (first | (refine wpList_load_row rfl 25 _ rfl _ rfl _ _ _ _ r0 Tryz.underlying25 rfl (by kernel_rfl) ?_) | fail)
 refine (cV.out _ (hh.out.below bW)).mono ?_
 rintro e w1 ⟨rfl,hb1⟩
 have B1 := Bel.to bW hb1
 have r0 := r0.keep hb1
 have r1 := r1.keep hb1
 have d3 := r0.main
 have d4 := r0.of
 have d5 := r0.bonus
 have d6 := r0.bonusOf
 have d9 := r0.system
 have x0 := r1.main
 have x1 := r1.bonus
 clear hb1 bW sW cV
 go_wp2_with fail
 refine (cIA.out _ B1).mono ?_
 rintro e w' ⟨rfl,rfl⟩
 go_wp2_with fail
 refine (cIB.out _ B1).mono ?_
 rintro e w' ⟨rfl,rfl⟩
 go_wp2
 go_ret
 exact ⟨rfl,B1⟩
set_option maxHeartbeats 2000000 in
set_option maxRecDepth 100000 in
theorem scheck15_s7 (g : GameD) (av tv mv bv : Value) (ms : List AddonM) (a b : List Int) (w : World) (h : GameR w av tv ms g) (hl : LineR w mv bv a b) (he : gameS g = 0) (n1 : g.main < (a.length : Int)) (n2 : (a.length : Int) ≤ g.system) (n3 : (b.length : Int) = g.bonus) (ia : allB a 1 g.of = true) (ib : allB b 1 g.bonusOf = true) (da : dupB a = true) :
  Calls Tryz.prog 98 #[gameVal g av tv,lineVal mv bv] w (IntB 6 w) := by
 have cV := hide (fun X (hX : GameR X av tv ms g) => valid_any g av tv ms X hX)
 obtain ⟨f1,f2,f3,f4,f5,f6,f7,f8,f9⟩ := sys_bounds he
 rw [he] at cV
 have cIA := hide (fun X (hX : Below w.heap.size w X) => inside15_any mv a g.of X (hl.1.below hX))
 rw [ia] at cIA
 have cIB := hide (fun X (hX : Below w.heap.size w X) => inside15_any bv b g.bonusOf X (hl.2.below hX))
 rw [ib] at cIB
 have cDA := hide (fun X (hX : Below w.heap.size w X) => repeated15_any mv a X (hl.1.below hX) (all_80 ia f4))
 rw [da] at cDA
 have n3b : ((b.length : Int) != g.bonus) = false := by simpa using n3
 replace n3 := hide n3
 replace ia := hide ia
 replace ib := hide ib
 replace da := hide da
 replace he := hide he
 have hh := hide h
 have hl' := hide hl
 obtain ⟨aa,ac,rfl,hal,ham⟩ := h.1.1.shape
 obtain ⟨ta,tc,rfl,htl,htm⟩ := h.2.2.shape
 obtain ⟨ma,mc,rfl,hma,hmc,-⟩ := hl.1.form
 obtain ⟨ba,bc,rfl,hba,hbc,-⟩ := hl.2.form
 unfold maxLen at hmc hbc
 clear h hl
 unfold gameVal lineVal
 go_enter Tryz.func98,Tryz.ntmps98
 go_upto_region 1 with (fail)
 obtain ⟨W,hW⟩ : ∃ W,W = ((w.alloc (Obj.cells #[.string g.name,.int .i64 g.kind,.int .i64 g.price,.int .i64 g.main,.int .i64 g.of,.int .i64 g.bonus,.int .i64 g.bonusOf,.int .i64 g.extra,.int .i64 g.draws,.int .i64 g.system,.int .i64 g.days,.int .i64 g.at_,.int .i64 g.close,.int .i64 g.cancel,.int .i64 g.expiry,.int .i64 g.pool,.int .i64 g.reserve,.int .i64 g.round,.int .i64 g.cap,.int .i64 g.rolls,(.slice aa ms.length ac),(.slice ta g.tiers.length tc)] 25)).alloc (Obj.cells #[(.slice ma a.length mc),(.slice ba b.length bc)] 58)) := ⟨_,rfl⟩
 have bW : Below w.heap.size w W := by rw [hW];exact Bel.al (Bel.al (Below.refl _ _) _) _
 have r0 : GameAt W (w.heap.size) g ((.slice aa ms.length ac)) ((.slice ta g.tiers.length tc)) := by rw [hW];exact Row.alloc (Row.new _ _ _) _
 have r1 : LineAt W (w.heap.size + 1) ((.slice ma a.length mc)) ((.slice ba b.length bc)) := by rw [hW];exact Row.at2 _ _ _ _
 have sW : w.heap.size + 1 < W.heap.size := by rw [hW];simp
 rw [← hW]
 clear hW
 go_wp2_with (first | (refine wpList_load_row rfl 25 _ rfl _ rfl _ _ _ _ r0 Tryz.underlying25 rfl (by kernel_rfl) ?_) | fail)
 refine (cV.out _ (hh.out.below bW)).mono ?_
 rintro e w1 ⟨rfl,hb1⟩
 have B1 := Bel.to bW hb1
 have r0 := r0.keep hb1
 have r1 := r1.keep hb1
 have d3 := r0.main
 have d4 := r0.of
 have d5 := r0.bonus
 have d6 := r0.bonusOf
 have d9 := r0.system
 have x0 := r1.main
 have x1 := r1.bonus
 clear hb1 bW sW cV
 go_wp2_with fail
 refine (cIA.out _ B1).mono ?_
 rintro e w' ⟨rfl,rfl⟩
 go_wp2_with fail
 refine (cIB.out _ B1).mono ?_
 rintro e w' ⟨rfl,rfl⟩
 go_wp2_with fail
 refine (cDA.out _ B1).mono ?_
 rintro e w2 ⟨rfl,hb2⟩
 have B2 := Bel.to B1 hb2
 replace r1 := r1.keep hb2
 have x1 := r1.bonus
 clear hb2
 go_wp2
 go_ret
 exact ⟨rfl,B2⟩
set_option maxHeartbeats 2000000 in
set_option maxRecDepth 100000 in
theorem scheck15_s8 (g : GameD) (av tv mv bv : Value) (ms : List AddonM) (a b : List Int) (w : World) (h : GameR w av tv ms g) (hl : LineR w mv bv a b) (he : gameS g = 0) (n1 : g.main < (a.length : Int)) (n2 : (a.length : Int) ≤ g.system) (n3 : (b.length : Int) = g.bonus) (ia : allB a 1 g.of = true) (ib : allB b 1 g.bonusOf = true) (da : dupB a = false) (db : dupB b = true) :
  Calls Tryz.prog 98 #[gameVal g av tv,lineVal mv bv] w (IntB 6 w) := by
 have cV := hide (fun X (hX : GameR X av tv ms g) => valid_any g av tv ms X hX)
 obtain ⟨f1,f2,f3,f4,f5,f6,f7,f8,f9⟩ := sys_bounds he
 rw [he] at cV
 have cIA := hide (fun X (hX : Below w.heap.size w X) => inside15_any mv a g.of X (hl.1.below hX))
 rw [ia] at cIA
 have cIB := hide (fun X (hX : Below w.heap.size w X) => inside15_any bv b g.bonusOf X (hl.2.below hX))
 rw [ib] at cIB
 have cDA := hide (fun X (hX : Below w.heap.size w X) => repeated15_any mv a X (hl.1.below hX) (all_80 ia f4))
 rw [da] at cDA
 have cDB := hide (fun X (hX : Below w.heap.size w X) => repeated15_any bv b X (hl.2.below hX) (all_80 ib f6))
 rw [db] at cDB
 have n3b : ((b.length : Int) != g.bonus) = false := by simpa using n3
 replace n3 := hide n3
 replace ia := hide ia
 replace ib := hide ib
 replace da := hide da
 replace db := hide db
 replace he := hide he
 have hh := hide h
 have hl' := hide hl
 obtain ⟨aa,ac,rfl,hal,ham⟩ := h.1.1.shape
 obtain ⟨ta,tc,rfl,htl,htm⟩ := h.2.2.shape
 obtain ⟨ma,mc,rfl,hma,hmc,-⟩ := hl.1.form
 obtain ⟨ba,bc,rfl,hba,hbc,-⟩ := hl.2.form
 unfold maxLen at hmc hbc
 clear h hl
 unfold gameVal lineVal
 go_enter Tryz.func98,Tryz.ntmps98
 go_upto_region 1 with (fail)
 obtain ⟨W,hW⟩ : ∃ W,W = ((w.alloc (Obj.cells #[.string g.name,.int .i64 g.kind,.int .i64 g.price,.int .i64 g.main,.int .i64 g.of,.int .i64 g.bonus,.int .i64 g.bonusOf,.int .i64 g.extra,.int .i64 g.draws,.int .i64 g.system,.int .i64 g.days,.int .i64 g.at_,.int .i64 g.close,.int .i64 g.cancel,.int .i64 g.expiry,.int .i64 g.pool,.int .i64 g.reserve,.int .i64 g.round,.int .i64 g.cap,.int .i64 g.rolls,(.slice aa ms.length ac),(.slice ta g.tiers.length tc)] 25)).alloc (Obj.cells #[(.slice ma a.length mc),(.slice ba b.length bc)] 58)) := ⟨_,rfl⟩
 have bW : Below w.heap.size w W := by rw [hW];exact Bel.al (Bel.al (Below.refl _ _) _) _
 have r0 : GameAt W (w.heap.size) g ((.slice aa ms.length ac)) ((.slice ta g.tiers.length tc)) := by rw [hW];exact Row.alloc (Row.new _ _ _) _
 have r1 : LineAt W (w.heap.size + 1) ((.slice ma a.length mc)) ((.slice ba b.length bc)) := by rw [hW];exact Row.at2 _ _ _ _
 have sW : w.heap.size + 1 < W.heap.size := by rw [hW];simp
 rw [← hW]
 clear hW
 go_wp2_with (first | (refine wpList_load_row rfl 25 _ rfl _ rfl _ _ _ _ r0 Tryz.underlying25 rfl (by kernel_rfl) ?_) | fail)
 refine (cV.out _ (hh.out.below bW)).mono ?_
 rintro e w1 ⟨rfl,hb1⟩
 have B1 := Bel.to bW hb1
 have r0 := r0.keep hb1
 have r1 := r1.keep hb1
 have d3 := r0.main
 have d4 := r0.of
 have d5 := r0.bonus
 have d6 := r0.bonusOf
 have d9 := r0.system
 have x0 := r1.main
 have x1 := r1.bonus
 clear hb1 bW sW cV
 go_wp2_with fail
 refine (cIA.out _ B1).mono ?_
 rintro e w' ⟨rfl,rfl⟩
 go_wp2_with fail
 refine (cIB.out _ B1).mono ?_
 rintro e w' ⟨rfl,rfl⟩
 go_wp2_with fail
 refine (cDA.out _ B1).mono ?_
 rintro e w2 ⟨rfl,hb2⟩
 have B2 := Bel.to B1 hb2
 replace r1 := r1.keep hb2
 have x1 := r1.bonus
 clear hb2
 go_wp2_with fail
 refine (cDB.out _ B2).mono ?_
 rintro e w3 ⟨rfl,hb3⟩
 have B3 := Bel.to B2 hb3
 replace r1 := r1.keep hb3
 have x1 := r1.bonus
 clear hb3
 go_wp2
 go_ret
 exact ⟨rfl,B3⟩
set_option maxHeartbeats 2000000 in
set_option maxRecDepth 100000 in
theorem scheck15_s9 (g : GameD) (av tv mv bv : Value) (ms : List AddonM) (a b : List Int) (w : World) (h : GameR w av tv ms g) (hl : LineR w mv bv a b) (he : gameS g = 0) (n1 : g.main < (a.length : Int)) (n2 : (a.length : Int) ≤ g.system) (n3 : (b.length : Int) = g.bonus) (ia : allB a 1 g.of = true) (ib : allB b 1 g.bonusOf = true) (da : dupB a = false) (db : dupB b = false) :
  Calls Tryz.prog 98 #[gameVal g av tv,lineVal mv bv] w (IntB 0 w) := by
 have cV := hide (fun X (hX : GameR X av tv ms g) => valid_any g av tv ms X hX)
 obtain ⟨f1,f2,f3,f4,f5,f6,f7,f8,f9⟩ := sys_bounds he
 rw [he] at cV
 have cIA := hide (fun X (hX : Below w.heap.size w X) => inside15_any mv a g.of X (hl.1.below hX))
 rw [ia] at cIA
 have cIB := hide (fun X (hX : Below w.heap.size w X) => inside15_any bv b g.bonusOf X (hl.2.below hX))
 rw [ib] at cIB
 have cDA := hide (fun X (hX : Below w.heap.size w X) => repeated15_any mv a X (hl.1.below hX) (all_80 ia f4))
 rw [da] at cDA
 have cDB := hide (fun X (hX : Below w.heap.size w X) => repeated15_any bv b X (hl.2.below hX) (all_80 ib f6))
 rw [db] at cDB
 have n3b : ((b.length : Int) != g.bonus) = false := by simpa using n3
 replace n3 := hide n3
 replace ia := hide ia
 replace ib := hide ib
 replace da := hide da
 replace db := hide db
 replace he := hide he
 have hh := hide h
 have hl' := hide hl
 obtain ⟨aa,ac,rfl,hal,ham⟩ := h.1.1.shape
 obtain ⟨ta,tc,rfl,htl,htm⟩ := h.2.2.shape
 obtain ⟨ma,mc,rfl,hma,hmc,-⟩ := hl.1.form
 obtain ⟨ba,bc,rfl,hba,hbc,-⟩ := hl.2.form
 unfold maxLen at hmc hbc
 clear h hl
 unfold gameVal lineVal
 go_enter Tryz.func98,Tryz.ntmps98
 go_upto_region 1 with (fail)
 obtain ⟨W,hW⟩ : ∃ W,W = ((w.alloc (Obj.cells #[.string g.name,.int .i64 g.kind,.int .i64 g.price,.int .i64 g.main,.int .i64 g.of,.int .i64 g.bonus,.int .i64 g.bonusOf,.int .i64 g.extra,.int .i64 g.draws,.int .i64 g.system,.int .i64 g.days,.int .i64 g.at_,.int .i64 g.close,.int .i64 g.cancel,.int .i64 g.expiry,.int .i64 g.pool,.int .i64 g.reserve,.int .i64 g.round,.int .i64 g.cap,.int .i64 g.rolls,(.slice aa ms.length ac),(.slice ta g.tiers.length tc)] 25)).alloc (Obj.cells #[(.slice ma a.length mc),(.slice ba b.length bc)] 58)) := ⟨_,rfl⟩
 have bW : Below w.heap.size w W := by rw [hW];exact Bel.al (Bel.al (Below.refl _ _) _) _
 have r0 : GameAt W (w.heap.size) g ((.slice aa ms.length ac)) ((.slice ta g.tiers.length tc)) := by rw [hW];exact Row.alloc (Row.new _ _ _) _
 have r1 : LineAt W (w.heap.size + 1) ((.slice ma a.length mc)) ((.slice ba b.length bc)) := by rw [hW];exact Row.at2 _ _ _ _
 have sW : w.heap.size + 1 < W.heap.size := by rw [hW];simp
 rw [← hW]
 clear hW
 go_wp2_with (first | (refine wpList_load_row rfl 25 _ rfl _ rfl _ _ _ _ r0 Tryz.underlying25 rfl (by kernel_rfl) ?_) | fail)
 refine (cV.out _ (hh.out.below bW)).mono ?_
 rintro e w1 ⟨rfl,hb1⟩
 have B1 := Bel.to bW hb1
 have r0 := r0.keep hb1
 have r1 := r1.keep hb1
 have d3 := r0.main
 have d4 := r0.of
 have d5 := r0.bonus
 have d6 := r0.bonusOf
 have d9 := r0.system
 have x0 := r1.main
 have x1 := r1.bonus
 clear hb1 bW sW cV
 go_wp2_with fail
 refine (cIA.out _ B1).mono ?_
 rintro e w' ⟨rfl,rfl⟩
 go_wp2_with fail
 refine (cIB.out _ B1).mono ?_
 rintro e w' ⟨rfl,rfl⟩
 go_wp2_with fail
 refine (cDA.out _ B1).mono ?_
 rintro e w2 ⟨rfl,hb2⟩
 have B2 := Bel.to B1 hb2
 replace r1 := r1.keep hb2
 have x1 := r1.bonus
 clear hb2
 go_wp2_with fail
 refine (cDB.out _ B2).mono ?_
 rintro e w3 ⟨rfl,hb3⟩
 have B3 := Bel.to B2 hb3
 replace r1 := r1.keep hb3
 have x1 := r1.bonus
 clear hb3
 go_wp2
 go_ret
 exact ⟨rfl,B3⟩
theorem scheck15_any (g : GameD) (av tv mv bv : Value) (ms : List AddonM) (a b : List Int) (w : World) (h : GameR w av tv ms g) (hl : LineR w mv bv a b) :
  Calls Tryz.prog 98 #[gameVal g av tv,lineVal mv bv] w (IntB (sysE g a b) w) := by
 unfold sysE
 by_cases he : gameS g = 0
 ·rw [if_neg (by simpa using he)]
  by_cases n1 : (a.length : Int) ≤ g.main
  ·rw [if_pos (by omega)];exact scheck15_s2 g av tv mv bv ms a b w h hl he n1
  ·by_cases n2 : g.system < (a.length : Int)
   ·rw [if_pos (by omega)];exact scheck15_s3 g av tv mv bv ms a b w h hl he (by omega) n2
   ·by_cases n3 : (b.length : Int) = g.bonus
    ·rw [if_neg (by omega)]
     cases ia : allB a 1 g.of
     ·rw [if_pos (.inl rfl)];exact scheck15_s5 g av tv mv bv ms a b w h hl he (by omega) (by omega) n3 ia
     ·cases ib : allB b 1 g.bonusOf
      ·rw [if_pos (.inr rfl)];exact scheck15_s6 g av tv mv bv ms a b w h hl he (by omega) (by omega) n3 ia ib
      ·rw [if_neg (by simp)]
       cases da : dupB a
       ·cases db : dupB b
        ·rw [if_neg (by simp)];exact scheck15_s9 g av tv mv bv ms a b w h hl he (by omega) (by omega) n3 ia ib da db
        ·rw [if_pos (.inr rfl)];exact scheck15_s8 g av tv mv bv ms a b w h hl he (by omega) (by omega) n3 ia ib da db
       ·rw [if_pos (.inl rfl)];exact scheck15_s7 g av tv mv bv ms a b w h hl he (by omega) (by omega) n3 ia ib da
    ·rw [if_pos (by omega)];exact scheck15_s4 g av tv mv bv ms a b w h hl he (by omega) (by omega) n3
 ·rw [if_pos (by simpa using he)];exact scheck15_s1 g av tv mv bv ms a b w h hl he
set_option maxHeartbeats 2000000 in
set_option maxRecDepth 100000 in
theorem rcheck15_s1 (g : GameD) (av tv mv bv : Value) (ms : List AddonM) (a b : List Int) (w : World) (h : GameR w av tv ms g) (hl : LineR w mv bv a b) (he : gameS g ≠ 0) :
  Calls Tryz.prog 116 #[gameVal g av tv,lineVal mv bv] w (IntB (gameS g) w) := by
 have cV := hide (fun X (hX : GameR X av tv ms g) => rgame_any g av tv ms X hX)
 obtain ⟨c,hcc⟩ : ∃ c,c = gameS g := ⟨_,rfl⟩
 rw [← hcc] at cV he ⊢
 clear hcc
 have hcb : (c != 0) = true := by simpa using he
 replace he := hide he
 have hh := hide h
 have hl' := hide hl
 obtain ⟨aa,ac,rfl,hal,ham⟩ := h.1.1.shape
 obtain ⟨ta,tc,rfl,htl,htm⟩ := h.2.2.shape
 obtain ⟨ma,mc,rfl,hma,hmc,-⟩ := hl.1.form
 obtain ⟨ba,bc,rfl,hba,hbc,-⟩ := hl.2.form
 unfold maxLen at hmc hbc
 clear h hl
 unfold gameVal lineVal
 go_enter Tryz.func116,Tryz.ntmps116
 go_upto_region 1 with (fail)
 obtain ⟨W,hW⟩ : ∃ W,W = ((w.alloc (Obj.cells #[.string g.name,.int .i64 g.kind,.int .i64 g.price,.int .i64 g.main,.int .i64 g.of,.int .i64 g.bonus,.int .i64 g.bonusOf,.int .i64 g.extra,.int .i64 g.draws,.int .i64 g.system,.int .i64 g.days,.int .i64 g.at_,.int .i64 g.close,.int .i64 g.cancel,.int .i64 g.expiry,.int .i64 g.pool,.int .i64 g.reserve,.int .i64 g.round,.int .i64 g.cap,.int .i64 g.rolls,(.slice aa ms.length ac),(.slice ta g.tiers.length tc)] 25)).alloc (Obj.cells #[(.slice ma a.length mc),(.slice ba b.length bc)] 58)) := ⟨_,rfl⟩
 have bW : Below w.heap.size w W := by rw [hW];exact Bel.al (Bel.al (Below.refl _ _) _) _
 have r0 : GameAt W (w.heap.size) g ((.slice aa ms.length ac)) ((.slice ta g.tiers.length tc)) := by rw [hW];exact Row.alloc (Row.new _ _ _) _
 have r1 : LineAt W (w.heap.size + 1) ((.slice ma a.length mc)) ((.slice ba b.length bc)) := by rw [hW];exact Row.at2 _ _ _ _
 have sW : w.heap.size + 1 < W.heap.size := by rw [hW];simp
 rw [← hW]
 clear hW
 go_wp2_with (first | (refine wpList_load_row rfl 25 _ rfl _ rfl _ _ _ _ r0 Tryz.underlying25 rfl (by kernel_rfl) ?_) | fail)
 refine (cV.out _ (hh.out.below bW)).mono ?_
 rintro e w1 ⟨rfl,hb1⟩
 have B1 := Bel.to bW hb1
 have r0 := r0.keep hb1
 have r1 := r1.keep hb1
 have d3 := r0.main
 have d4 := r0.of
 have d5 := r0.bonus
 have d6 := r0.bonusOf
 have d9 := r0.system
 have x0 := r1.main
 have x1 := r1.bonus
 clear hb1 bW sW cV
 go_wp2
 go_ret
 exact ⟨rfl,B1⟩
set_option maxHeartbeats 2000000 in
set_option maxRecDepth 100000 in
theorem rcheck15_s2 (g : GameD) (av tv mv bv : Value) (ms : List AddonM) (a b : List Int) (w : World) (h : GameR w av tv ms g) (hl : LineR w mv bv a b) (he : gameS g = 0) (n1 : (a.length : Int) ≤ g.main) :
  Calls Tryz.prog 116 #[gameVal g av tv,lineVal mv bv] w (IntB 3 w) := by
 have cV := hide (fun X (hX : GameR X av tv ms g) => rgame_any g av tv ms X hX)
 obtain ⟨f1,f2,f3,f4,f5,f6,f7,f8,f9⟩ := sys_bounds he
 rw [he] at cV
 replace he := hide he
 have hh := hide h
 have hl' := hide hl
 obtain ⟨aa,ac,rfl,hal,ham⟩ := h.1.1.shape
 obtain ⟨ta,tc,rfl,htl,htm⟩ := h.2.2.shape
 obtain ⟨ma,mc,rfl,hma,hmc,-⟩ := hl.1.form
 obtain ⟨ba,bc,rfl,hba,hbc,-⟩ := hl.2.form
 unfold maxLen at hmc hbc
 clear h hl
 unfold gameVal lineVal
 go_enter Tryz.func116,Tryz.ntmps116
 go_upto_region 1 with (fail)
 obtain ⟨W,hW⟩ : ∃ W,W = ((w.alloc (Obj.cells #[.string g.name,.int .i64 g.kind,.int .i64 g.price,.int .i64 g.main,.int .i64 g.of,.int .i64 g.bonus,.int .i64 g.bonusOf,.int .i64 g.extra,.int .i64 g.draws,.int .i64 g.system,.int .i64 g.days,.int .i64 g.at_,.int .i64 g.close,.int .i64 g.cancel,.int .i64 g.expiry,.int .i64 g.pool,.int .i64 g.reserve,.int .i64 g.round,.int .i64 g.cap,.int .i64 g.rolls,(.slice aa ms.length ac),(.slice ta g.tiers.length tc)] 25)).alloc (Obj.cells #[(.slice ma a.length mc),(.slice ba b.length bc)] 58)) := ⟨_,rfl⟩
 have bW : Below w.heap.size w W := by rw [hW];exact Bel.al (Bel.al (Below.refl _ _) _) _
 have r0 : GameAt W (w.heap.size) g ((.slice aa ms.length ac)) ((.slice ta g.tiers.length tc)) := by rw [hW];exact Row.alloc (Row.new _ _ _) _
 have r1 : LineAt W (w.heap.size + 1) ((.slice ma a.length mc)) ((.slice ba b.length bc)) := by rw [hW];exact Row.at2 _ _ _ _
 have sW : w.heap.size + 1 < W.heap.size := by rw [hW];simp
 rw [← hW]
 clear hW
 go_wp2_with (first | (refine wpList_load_row rfl 25 _ rfl _ rfl _ _ _ _ r0 Tryz.underlying25 rfl (by kernel_rfl) ?_) | fail)
 refine (cV.out _ (hh.out.below bW)).mono ?_
 rintro e w1 ⟨rfl,hb1⟩
 have B1 := Bel.to bW hb1
 have r0 := r0.keep hb1
 have r1 := r1.keep hb1
 have d3 := r0.main
 have d4 := r0.of
 have d5 := r0.bonus
 have d6 := r0.bonusOf
 have d9 := r0.system
 have x0 := r1.main
 have x1 := r1.bonus
 clear hb1 bW sW cV
 go_wp2
 go_ret
 exact ⟨rfl,B1⟩
set_option maxHeartbeats 2000000 in
set_option maxRecDepth 100000 in
theorem rcheck15_s3 (g : GameD) (av tv mv bv : Value) (ms : List AddonM) (a b : List Int) (w : World) (h : GameR w av tv ms g) (hl : LineR w mv bv a b) (he : gameS g = 0) (n1 : g.main < (a.length : Int)) (n2 : g.system < (a.length : Int)) :
  Calls Tryz.prog 116 #[gameVal g av tv,lineVal mv bv] w (IntB 3 w) := by
 have cV := hide (fun X (hX : GameR X av tv ms g) => rgame_any g av tv ms X hX)
 obtain ⟨f1,f2,f3,f4,f5,f6,f7,f8,f9⟩ := sys_bounds he
 rw [he] at cV
 replace he := hide he
 have hh := hide h
 have hl' := hide hl
 obtain ⟨aa,ac,rfl,hal,ham⟩ := h.1.1.shape
 obtain ⟨ta,tc,rfl,htl,htm⟩ := h.2.2.shape
 obtain ⟨ma,mc,rfl,hma,hmc,-⟩ := hl.1.form
 obtain ⟨ba,bc,rfl,hba,hbc,-⟩ := hl.2.form
 unfold maxLen at hmc hbc
 clear h hl
 unfold gameVal lineVal
 go_enter Tryz.func116,Tryz.ntmps116
 go_upto_region 1 with (fail)
 obtain ⟨W,hW⟩ : ∃ W,W = ((w.alloc (Obj.cells #[.string g.name,.int .i64 g.kind,.int .i64 g.price,.int .i64 g.main,.int .i64 g.of,.int .i64 g.bonus,.int .i64 g.bonusOf,.int .i64 g.extra,.int .i64 g.draws,.int .i64 g.system,.int .i64 g.days,.int .i64 g.at_,.int .i64 g.close,.int .i64 g.cancel,.int .i64 g.expiry,.int .i64 g.pool,.int .i64 g.reserve,.int .i64 g.round,.int .i64 g.cap,.int .i64 g.rolls,(.slice aa ms.length ac),(.slice ta g.tiers.length tc)] 25)).alloc (Obj.cells #[(.slice ma a.length mc),(.slice ba b.length bc)] 58)) := ⟨_,rfl⟩
 have bW : Below w.heap.size w W := by rw [hW];exact Bel.al (Bel.al (Below.refl _ _) _) _
 have r0 : GameAt W (w.heap.size) g ((.slice aa ms.length ac)) ((.slice ta g.tiers.length tc)) := by rw [hW];exact Row.alloc (Row.new _ _ _) _
 have r1 : LineAt W (w.heap.size + 1) ((.slice ma a.length mc)) ((.slice ba b.length bc)) := by rw [hW];exact Row.at2 _ _ _ _
 have sW : w.heap.size + 1 < W.heap.size := by rw [hW];simp
 rw [← hW]
 clear hW
 go_wp2_with (first | (refine wpList_load_row rfl 25 _ rfl _ rfl _ _ _ _ r0 Tryz.underlying25 rfl (by kernel_rfl) ?_) | fail)
 refine (cV.out _ (hh.out.below bW)).mono ?_
 rintro e w1 ⟨rfl,hb1⟩
 have B1 := Bel.to bW hb1
 have r0 := r0.keep hb1
 have r1 := r1.keep hb1
 have d3 := r0.main
 have d4 := r0.of
 have d5 := r0.bonus
 have d6 := r0.bonusOf
 have d9 := r0.system
 have x0 := r1.main
 have x1 := r1.bonus
 clear hb1 bW sW cV
 go_wp2
 go_ret
 exact ⟨rfl,B1⟩
set_option maxHeartbeats 2000000 in
set_option maxRecDepth 100000 in
theorem rcheck15_s4 (g : GameD) (av tv mv bv : Value) (ms : List AddonM) (a b : List Int) (w : World) (h : GameR w av tv ms g) (hl : LineR w mv bv a b) (he : gameS g = 0) (n1 : g.main < (a.length : Int)) (n2 : (a.length : Int) ≤ g.system) (n3 : (b.length : Int) ≠ g.bonus) :
  Calls Tryz.prog 116 #[gameVal g av tv,lineVal mv bv] w (IntB 3 w) := by
 have cV := hide (fun X (hX : GameR X av tv ms g) => rgame_any g av tv ms X hX)
 obtain ⟨f1,f2,f3,f4,f5,f6,f7,f8,f9⟩ := sys_bounds he
 rw [he] at cV
 have n3b : ((b.length : Int) != g.bonus) = true := by simpa using n3
 replace n3 := hide n3
 replace he := hide he
 have hh := hide h
 have hl' := hide hl
 obtain ⟨aa,ac,rfl,hal,ham⟩ := h.1.1.shape
 obtain ⟨ta,tc,rfl,htl,htm⟩ := h.2.2.shape
 obtain ⟨ma,mc,rfl,hma,hmc,-⟩ := hl.1.form
 obtain ⟨ba,bc,rfl,hba,hbc,-⟩ := hl.2.form
 unfold maxLen at hmc hbc
 clear h hl
 unfold gameVal lineVal
 go_enter Tryz.func116,Tryz.ntmps116
 go_upto_region 1 with (fail)
 obtain ⟨W,hW⟩ : ∃ W,W = ((w.alloc (Obj.cells #[.string g.name,.int .i64 g.kind,.int .i64 g.price,.int .i64 g.main,.int .i64 g.of,.int .i64 g.bonus,.int .i64 g.bonusOf,.int .i64 g.extra,.int .i64 g.draws,.int .i64 g.system,.int .i64 g.days,.int .i64 g.at_,.int .i64 g.close,.int .i64 g.cancel,.int .i64 g.expiry,.int .i64 g.pool,.int .i64 g.reserve,.int .i64 g.round,.int .i64 g.cap,.int .i64 g.rolls,(.slice aa ms.length ac),(.slice ta g.tiers.length tc)] 25)).alloc (Obj.cells #[(.slice ma a.length mc),(.slice ba b.length bc)] 58)) := ⟨_,rfl⟩
 have bW : Below w.heap.size w W := by rw [hW];exact Bel.al (Bel.al (Below.refl _ _) _) _
 have r0 : GameAt W (w.heap.size) g ((.slice aa ms.length ac)) ((.slice ta g.tiers.length tc)) := by rw [hW];exact Row.alloc (Row.new _ _ _) _
 have r1 : LineAt W (w.heap.size + 1) ((.slice ma a.length mc)) ((.slice ba b.length bc)) := by rw [hW];exact Row.at2 _ _ _ _
 have sW : w.heap.size + 1 < W.heap.size := by rw [hW];simp
 rw [← hW]
 clear hW
 go_wp2_with (first | (refine wpList_load_row rfl 25 _ rfl _ rfl _ _ _ _ r0 Tryz.underlying25 rfl (by kernel_rfl) ?_) | fail)
 refine (cV.out _ (hh.out.below bW)).mono ?_
 rintro e w1 ⟨rfl,hb1⟩
 have B1 := Bel.to bW hb1
 have r0 := r0.keep hb1
 have r1 := r1.keep hb1
 have d3 := r0.main
 have d4 := r0.of
 have d5 := r0.bonus
 have d6 := r0.bonusOf
 have d9 := r0.system
 have x0 := r1.main
 have x1 := r1.bonus
 clear hb1 bW sW cV
 go_wp2
 go_ret
 exact ⟨rfl,B1⟩
set_option maxHeartbeats 2000000 in
set_option maxRecDepth 100000 in
theorem rcheck15_s5 (g : GameD) (av tv mv bv : Value) (ms : List AddonM) (a b : List Int) (w : World) (h : GameR w av tv ms g) (hl : LineR w mv bv a b) (he : gameS g = 0) (n1 : g.main < (a.length : Int)) (n2 : (a.length : Int) ≤ g.system) (n3 : (b.length : Int) = g.bonus) (ia : allB a 1 g.of = false) :
  Calls Tryz.prog 116 #[gameVal g av tv,lineVal mv bv] w (IntB 2 w) := by
 have cV := hide (fun X (hX : GameR X av tv ms g) => rgame_any g av tv ms X hX)
 obtain ⟨f1,f2,f3,f4,f5,f6,f7,f8,f9⟩ := sys_bounds he
 rw [he] at cV
 have cIA := hide (fun X (hX : Below w.heap.size w X) => in15_any mv a g.of X (hl.1.below hX))
 rw [ia] at cIA
 have n3b : ((b.length : Int) != g.bonus) = false := by simpa using n3
 replace n3 := hide n3
 replace ia := hide ia
 replace he := hide he
 have hh := hide h
 have hl' := hide hl
 obtain ⟨aa,ac,rfl,hal,ham⟩ := h.1.1.shape
 obtain ⟨ta,tc,rfl,htl,htm⟩ := h.2.2.shape
 obtain ⟨ma,mc,rfl,hma,hmc,-⟩ := hl.1.form
 obtain ⟨ba,bc,rfl,hba,hbc,-⟩ := hl.2.form
 unfold maxLen at hmc hbc
 clear h hl
 unfold gameVal lineVal
 go_enter Tryz.func116,Tryz.ntmps116
 go_upto_region 1 with (fail)
 obtain ⟨W,hW⟩ : ∃ W,W = ((w.alloc (Obj.cells #[.string g.name,.int .i64 g.kind,.int .i64 g.price,.int .i64 g.main,.int .i64 g.of,.int .i64 g.bonus,.int .i64 g.bonusOf,.int .i64 g.extra,.int .i64 g.draws,.int .i64 g.system,.int .i64 g.days,.int .i64 g.at_,.int .i64 g.close,.int .i64 g.cancel,.int .i64 g.expiry,.int .i64 g.pool,.int .i64 g.reserve,.int .i64 g.round,.int .i64 g.cap,.int .i64 g.rolls,(.slice aa ms.length ac),(.slice ta g.tiers.length tc)] 25)).alloc (Obj.cells #[(.slice ma a.length mc),(.slice ba b.length bc)] 58)) := ⟨_,rfl⟩
 have bW : Below w.heap.size w W := by rw [hW];exact Bel.al (Bel.al (Below.refl _ _) _) _
 have r0 : GameAt W (w.heap.size) g ((.slice aa ms.length ac)) ((.slice ta g.tiers.length tc)) := by rw [hW];exact Row.alloc (Row.new _ _ _) _
 have r1 : LineAt W (w.heap.size + 1) ((.slice ma a.length mc)) ((.slice ba b.length bc)) := by rw [hW];exact Row.at2 _ _ _ _
 have sW : w.heap.size + 1 < W.heap.size := by rw [hW];simp
 rw [← hW]
 clear hW
 go_wp2_with (first | (refine wpList_load_row rfl 25 _ rfl _ rfl _ _ _ _ r0 Tryz.underlying25 rfl (by kernel_rfl) ?_) | fail)
 refine (cV.out _ (hh.out.below bW)).mono ?_
 rintro e w1 ⟨rfl,hb1⟩
 have B1 := Bel.to bW hb1
 have r0 := r0.keep hb1
 have r1 := r1.keep hb1
 have d3 := r0.main
 have d4 := r0.of
 have d5 := r0.bonus
 have d6 := r0.bonusOf
 have d9 := r0.system
 have x0 := r1.main
 have x1 := r1.bonus
 clear hb1 bW sW cV
 go_wp2_with fail
 refine (cIA.out _ B1).mono ?_
 rintro e w' ⟨rfl,rfl⟩
 go_wp2
 go_ret
 exact ⟨rfl,B1⟩
set_option maxHeartbeats 2000000 in
set_option maxRecDepth 100000 in
theorem rcheck15_s6 (g : GameD) (av tv mv bv : Value) (ms : List AddonM) (a b : List Int) (w : World) (h : GameR w av tv ms g) (hl : LineR w mv bv a b) (he : gameS g = 0) (n1 : g.main < (a.length : Int)) (n2 : (a.length : Int) ≤ g.system) (n3 : (b.length : Int) = g.bonus) (ia : allB a 1 g.of = true) (ib : allB b 1 g.bonusOf = false) :
  Calls Tryz.prog 116 #[gameVal g av tv,lineVal mv bv] w (IntB 2 w) := by
 have cV := hide (fun X (hX : GameR X av tv ms g) => rgame_any g av tv ms X hX)
 obtain ⟨f1,f2,f3,f4,f5,f6,f7,f8,f9⟩ := sys_bounds he
 rw [he] at cV
 have cIA := hide (fun X (hX : Below w.heap.size w X) => in15_any mv a g.of X (hl.1.below hX))
 rw [ia] at cIA
 have cIB := hide (fun X (hX : Below w.heap.size w X) => in15_any bv b g.bonusOf X (hl.2.below hX))
 rw [ib] at cIB
 have n3b : ((b.length : Int) != g.bonus) = false := by simpa using n3
 replace n3 := hide n3
 replace ia := hide ia
 replace ib := hide ib
 replace he := hide he
 have hh := hide h
 have hl' := hide hl
 obtain ⟨aa,ac,rfl,hal,ham⟩ := h.1.1.shape
 obtain ⟨ta,tc,rfl,htl,htm⟩ := h.2.2.shape
 obtain ⟨ma,mc,rfl,hma,hmc,-⟩ := hl.1.form
 obtain ⟨ba,bc,rfl,hba,hbc,-⟩ := hl.2.form
 unfold maxLen at hmc hbc
 clear h hl
 unfold gameVal lineVal
 go_enter Tryz.func116,Tryz.ntmps116
 go_upto_region 1 with (fail)
 obtain ⟨W,hW⟩ : ∃ W,W = ((w.alloc (Obj.cells #[.string g.name,.int .i64 g.kind,.int .i64 g.price,.int .i64 g.main,.int .i64 g.of,.int .i64 g.bonus,.int .i64 g.bonusOf,.int .i64 g.extra,.int .i64 g.draws,.int .i64 g.system,.int .i64 g.days,.int .i64 g.at_,.int .i64 g.close,.int .i64 g.cancel,.int .i64 g.expiry,.int .i64 g.pool,.int .i64 g.reserve,.int .i64 g.round,.int .i64 g.cap,.int .i64 g.rolls,(.slice aa ms.length ac),(.slice ta g.tiers.length tc)] 25)).alloc (Obj.cells #[(.slice ma a.length mc),(.slice ba b.length bc)] 58)) := ⟨_,rfl⟩
 have bW : Below w.heap.size w W := by rw [hW];exact Bel.al (Bel.al (Below.refl _ _) _) _
 have r0 : GameAt W (w.heap.size) g ((.slice aa ms.length ac)) ((.slice ta g.tiers.length tc)) := by rw [hW];exact Row.alloc (Row.new _ _ _) _
 have r1 : LineAt W (w.heap.size + 1) ((.slice ma a.length mc)) ((.slice ba b.length bc)) := by rw [hW];exact Row.at2 _ _ _ _
 have sW : w.heap.size + 1 < W.heap.size := by rw [hW];simp
 rw [← hW]
 clear hW
 go_wp2_with (first | (refine wpList_load_row rfl 25 _ rfl _ rfl _ _ _ _ r0 Tryz.underlying25 rfl (by kernel_rfl) ?_) | fail)
 refine (cV.out _ (hh.out.below bW)).mono ?_
 rintro e w1 ⟨rfl,hb1⟩
 have B1 := Bel.to bW hb1
 have r0 := r0.keep hb1
 have r1 := r1.keep hb1
 have d3 := r0.main
 have d4 := r0.of
 have d5 := r0.bonus
 have d6 := r0.bonusOf
 have d9 := r0.system
 have x0 := r1.main
 have x1 := r1.bonus
 clear hb1 bW sW cV
 go_wp2_with fail
 refine (cIA.out _ B1).mono ?_
 rintro e w' ⟨rfl,rfl⟩
 go_wp2_with fail
 refine (cIB.out _ B1).mono ?_
 rintro e w' ⟨rfl,rfl⟩
 go_wp2
 go_ret
 exact ⟨rfl,B1⟩
set_option maxHeartbeats 2000000 in
set_option maxRecDepth 100000 in
theorem rcheck15_s7 (g : GameD) (av tv mv bv : Value) (ms : List AddonM) (a b : List Int) (w : World) (h : GameR w av tv ms g) (hl : LineR w mv bv a b) (he : gameS g = 0) (n1 : g.main < (a.length : Int)) (n2 : (a.length : Int) ≤ g.system) (n3 : (b.length : Int) = g.bonus) (ia : allB a 1 g.of = true) (ib : allB b 1 g.bonusOf = true) (da : dupB a = true) :
  Calls Tryz.prog 116 #[gameVal g av tv,lineVal mv bv] w (IntB 6 w) := by
 have cV := hide (fun X (hX : GameR X av tv ms g) => rgame_any g av tv ms X hX)
 obtain ⟨f1,f2,f3,f4,f5,f6,f7,f8,f9⟩ := sys_bounds he
 rw [he] at cV
 have cIA := hide (fun X (hX : Below w.heap.size w X) => in15_any mv a g.of X (hl.1.below hX))
 rw [ia] at cIA
 have cIB := hide (fun X (hX : Below w.heap.size w X) => in15_any bv b g.bonusOf X (hl.2.below hX))
 rw [ib] at cIB
 have cDA := hide (fun X (hX : Below w.heap.size w X) => twice15_any mv a X (hl.1.below hX))
 rw [da] at cDA
 have n3b : ((b.length : Int) != g.bonus) = false := by simpa using n3
 replace n3 := hide n3
 replace ia := hide ia
 replace ib := hide ib
 replace da := hide da
 replace he := hide he
 have hh := hide h
 have hl' := hide hl
 obtain ⟨aa,ac,rfl,hal,ham⟩ := h.1.1.shape
 obtain ⟨ta,tc,rfl,htl,htm⟩ := h.2.2.shape
 obtain ⟨ma,mc,rfl,hma,hmc,-⟩ := hl.1.form
 obtain ⟨ba,bc,rfl,hba,hbc,-⟩ := hl.2.form
 unfold maxLen at hmc hbc
 clear h hl
 unfold gameVal lineVal
 go_enter Tryz.func116,Tryz.ntmps116
 go_upto_region 1 with (fail)
 obtain ⟨W,hW⟩ : ∃ W,W = ((w.alloc (Obj.cells #[.string g.name,.int .i64 g.kind,.int .i64 g.price,.int .i64 g.main,.int .i64 g.of,.int .i64 g.bonus,.int .i64 g.bonusOf,.int .i64 g.extra,.int .i64 g.draws,.int .i64 g.system,.int .i64 g.days,.int .i64 g.at_,.int .i64 g.close,.int .i64 g.cancel,.int .i64 g.expiry,.int .i64 g.pool,.int .i64 g.reserve,.int .i64 g.round,.int .i64 g.cap,.int .i64 g.rolls,(.slice aa ms.length ac),(.slice ta g.tiers.length tc)] 25)).alloc (Obj.cells #[(.slice ma a.length mc),(.slice ba b.length bc)] 58)) := ⟨_,rfl⟩
 have bW : Below w.heap.size w W := by rw [hW];exact Bel.al (Bel.al (Below.refl _ _) _) _
 have r0 : GameAt W (w.heap.size) g ((.slice aa ms.length ac)) ((.slice ta g.tiers.length tc)) := by rw [hW];exact Row.alloc (Row.new _ _ _) _
 have r1 : LineAt W (w.heap.size + 1) ((.slice ma a.length mc)) ((.slice ba b.length bc)) := by rw [hW];exact Row.at2 _ _ _ _
 have sW : w.heap.size + 1 < W.heap.size := by rw [hW];simp
 rw [← hW]
 clear hW
 go_wp2_with (first | (refine wpList_load_row rfl 25 _ rfl _ rfl _ _ _ _ r0 Tryz.underlying25 rfl (by kernel_rfl) ?_) | fail)
 refine (cV.out _ (hh.out.below bW)).mono ?_
 rintro e w1 ⟨rfl,hb1⟩
 have B1 := Bel.to bW hb1
 have r0 := r0.keep hb1
 have r1 := r1.keep hb1
 have d3 := r0.main
 have d4 := r0.of
 have d5 := r0.bonus
 have d6 := r0.bonusOf
 have d9 := r0.system
 have x0 := r1.main
 have x1 := r1.bonus
 clear hb1 bW sW cV
 go_wp2_with fail
 refine (cIA.out _ B1).mono ?_
 rintro e w' ⟨rfl,rfl⟩
 go_wp2_with fail
 refine (cIB.out _ B1).mono ?_
 rintro e w' ⟨rfl,rfl⟩
 go_wp2_with fail
 refine (cDA.out _ B1).mono ?_
 rintro e w2 ⟨rfl,hb2⟩
 have B2 := Bel.to B1 hb2
 replace r1 := r1.keep hb2
 have x1 := r1.bonus
 clear hb2
 go_wp2
 go_ret
 exact ⟨rfl,B2⟩
set_option maxHeartbeats 2000000 in
set_option maxRecDepth 100000 in
theorem rcheck15_s8 (g : GameD) (av tv mv bv : Value) (ms : List AddonM) (a b : List Int) (w : World) (h : GameR w av tv ms g) (hl : LineR w mv bv a b) (he : gameS g = 0) (n1 : g.main < (a.length : Int)) (n2 : (a.length : Int) ≤ g.system) (n3 : (b.length : Int) = g.bonus) (ia : allB a 1 g.of = true) (ib : allB b 1 g.bonusOf = true) (da : dupB a = false) (db : dupB b = true) :
  Calls Tryz.prog 116 #[gameVal g av tv,lineVal mv bv] w (IntB 6 w) := by
 have cV := hide (fun X (hX : GameR X av tv ms g) => rgame_any g av tv ms X hX)
 obtain ⟨f1,f2,f3,f4,f5,f6,f7,f8,f9⟩ := sys_bounds he
 rw [he] at cV
 have cIA := hide (fun X (hX : Below w.heap.size w X) => in15_any mv a g.of X (hl.1.below hX))
 rw [ia] at cIA
 have cIB := hide (fun X (hX : Below w.heap.size w X) => in15_any bv b g.bonusOf X (hl.2.below hX))
 rw [ib] at cIB
 have cDA := hide (fun X (hX : Below w.heap.size w X) => twice15_any mv a X (hl.1.below hX))
 rw [da] at cDA
 have cDB := hide (fun X (hX : Below w.heap.size w X) => twice15_any bv b X (hl.2.below hX))
 rw [db] at cDB
 have n3b : ((b.length : Int) != g.bonus) = false := by simpa using n3
 replace n3 := hide n3
 replace ia := hide ia
 replace ib := hide ib
 replace da := hide da
 replace db := hide db
 replace he := hide he
 have hh := hide h
 have hl' := hide hl
 obtain ⟨aa,ac,rfl,hal,ham⟩ := h.1.1.shape
 obtain ⟨ta,tc,rfl,htl,htm⟩ := h.2.2.shape
 obtain ⟨ma,mc,rfl,hma,hmc,-⟩ := hl.1.form
 obtain ⟨ba,bc,rfl,hba,hbc,-⟩ := hl.2.form
 unfold maxLen at hmc hbc
 clear h hl
 unfold gameVal lineVal
 go_enter Tryz.func116,Tryz.ntmps116
 go_upto_region 1 with (fail)
 obtain ⟨W,hW⟩ : ∃ W,W = ((w.alloc (Obj.cells #[.string g.name,.int .i64 g.kind,.int .i64 g.price,.int .i64 g.main,.int .i64 g.of,.int .i64 g.bonus,.int .i64 g.bonusOf,.int .i64 g.extra,.int .i64 g.draws,.int .i64 g.system,.int .i64 g.days,.int .i64 g.at_,.int .i64 g.close,.int .i64 g.cancel,.int .i64 g.expiry,.int .i64 g.pool,.int .i64 g.reserve,.int .i64 g.round,.int .i64 g.cap,.int .i64 g.rolls,(.slice aa ms.length ac),(.slice ta g.tiers.length tc)] 25)).alloc (Obj.cells #[(.slice ma a.length mc),(.slice ba b.length bc)] 58)) := ⟨_,rfl⟩
 have bW : Below w.heap.size w W := by rw [hW];exact Bel.al (Bel.al (Below.refl _ _) _) _
 have r0 : GameAt W (w.heap.size) g ((.slice aa ms.length ac)) ((.slice ta g.tiers.length tc)) := by rw [hW];exact Row.alloc (Row.new _ _ _) _
 have r1 : LineAt W (w.heap.size + 1) ((.slice ma a.length mc)) ((.slice ba b.length bc)) := by rw [hW];exact Row.at2 _ _ _ _
 have sW : w.heap.size + 1 < W.heap.size := by rw [hW];simp
 rw [← hW]
 clear hW
 go_wp2_with (first | (refine wpList_load_row rfl 25 _ rfl _ rfl _ _ _ _ r0 Tryz.underlying25 rfl (by kernel_rfl) ?_) | fail)
 refine (cV.out _ (hh.out.below bW)).mono ?_
 rintro e w1 ⟨rfl,hb1⟩
 have B1 := Bel.to bW hb1
 have r0 := r0.keep hb1
 have r1 := r1.keep hb1
 have d3 := r0.main
 have d4 := r0.of
 have d5 := r0.bonus
 have d6 := r0.bonusOf
 have d9 := r0.system
 have x0 := r1.main
 have x1 := r1.bonus
 clear hb1 bW sW cV
 go_wp2_with fail
 refine (cIA.out _ B1).mono ?_
 rintro e w' ⟨rfl,rfl⟩
 go_wp2_with fail
 refine (cIB.out _ B1).mono ?_
 rintro e w' ⟨rfl,rfl⟩
 go_wp2_with fail
 refine (cDA.out _ B1).mono ?_
 rintro e w2 ⟨rfl,hb2⟩
 have B2 := Bel.to B1 hb2
 replace r1 := r1.keep hb2
 have x1 := r1.bonus
 clear hb2
 go_wp2_with fail
 refine (cDB.out _ B2).mono ?_
 rintro e w3 ⟨rfl,hb3⟩
 have B3 := Bel.to B2 hb3
 replace r1 := r1.keep hb3
 have x1 := r1.bonus
 clear hb3
 go_wp2
 go_ret
 exact ⟨rfl,B3⟩
set_option maxHeartbeats 2000000 in
set_option maxRecDepth 100000 in
theorem rcheck15_s9 (g : GameD) (av tv mv bv : Value) (ms : List AddonM) (a b : List Int) (w : World) (h : GameR w av tv ms g) (hl : LineR w mv bv a b) (he : gameS g = 0) (n1 : g.main < (a.length : Int)) (n2 : (a.length : Int) ≤ g.system) (n3 : (b.length : Int) = g.bonus) (ia : allB a 1 g.of = true) (ib : allB b 1 g.bonusOf = true) (da : dupB a = false) (db : dupB b = false) :
  Calls Tryz.prog 116 #[gameVal g av tv,lineVal mv bv] w (IntB 0 w) := by
 have cV := hide (fun X (hX : GameR X av tv ms g) => rgame_any g av tv ms X hX)
 obtain ⟨f1,f2,f3,f4,f5,f6,f7,f8,f9⟩ := sys_bounds he
 rw [he] at cV
 have cIA := hide (fun X (hX : Below w.heap.size w X) => in15_any mv a g.of X (hl.1.below hX))
 rw [ia] at cIA
 have cIB := hide (fun X (hX : Below w.heap.size w X) => in15_any bv b g.bonusOf X (hl.2.below hX))
 rw [ib] at cIB
 have cDA := hide (fun X (hX : Below w.heap.size w X) => twice15_any mv a X (hl.1.below hX))
 rw [da] at cDA
 have cDB := hide (fun X (hX : Below w.heap.size w X) => twice15_any bv b X (hl.2.below hX))
 rw [db] at cDB
 have n3b : ((b.length : Int) != g.bonus) = false := by simpa using n3
 replace n3 := hide n3
 replace ia := hide ia
 replace ib := hide ib
 replace da := hide da
 replace db := hide db
 replace he := hide he
 have hh := hide h
 have hl' := hide hl
 obtain ⟨aa,ac,rfl,hal,ham⟩ := h.1.1.shape
 obtain ⟨ta,tc,rfl,htl,htm⟩ := h.2.2.shape
 obtain ⟨ma,mc,rfl,hma,hmc,-⟩ := hl.1.form
 obtain ⟨ba,bc,rfl,hba,hbc,-⟩ := hl.2.form
 unfold maxLen at hmc hbc
 clear h hl
 unfold gameVal lineVal
 go_enter Tryz.func116,Tryz.ntmps116
 go_upto_region 1 with (fail)
 obtain ⟨W,hW⟩ : ∃ W,W = ((w.alloc (Obj.cells #[.string g.name,.int .i64 g.kind,.int .i64 g.price,.int .i64 g.main,.int .i64 g.of,.int .i64 g.bonus,.int .i64 g.bonusOf,.int .i64 g.extra,.int .i64 g.draws,.int .i64 g.system,.int .i64 g.days,.int .i64 g.at_,.int .i64 g.close,.int .i64 g.cancel,.int .i64 g.expiry,.int .i64 g.pool,.int .i64 g.reserve,.int .i64 g.round,.int .i64 g.cap,.int .i64 g.rolls,(.slice aa ms.length ac),(.slice ta g.tiers.length tc)] 25)).alloc (Obj.cells #[(.slice ma a.length mc),(.slice ba b.length bc)] 58)) := ⟨_,rfl⟩
 have bW : Below w.heap.size w W := by rw [hW];exact Bel.al (Bel.al (Below.refl _ _) _) _
 have r0 : GameAt W (w.heap.size) g ((.slice aa ms.length ac)) ((.slice ta g.tiers.length tc)) := by rw [hW];exact Row.alloc (Row.new _ _ _) _
 have r1 : LineAt W (w.heap.size + 1) ((.slice ma a.length mc)) ((.slice ba b.length bc)) := by rw [hW];exact Row.at2 _ _ _ _
 have sW : w.heap.size + 1 < W.heap.size := by rw [hW];simp
 rw [← hW]
 clear hW
 go_wp2_with (first | (refine wpList_load_row rfl 25 _ rfl _ rfl _ _ _ _ r0 Tryz.underlying25 rfl (by kernel_rfl) ?_) | fail)
 refine (cV.out _ (hh.out.below bW)).mono ?_
 rintro e w1 ⟨rfl,hb1⟩
 have B1 := Bel.to bW hb1
 have r0 := r0.keep hb1
 have r1 := r1.keep hb1
 have d3 := r0.main
 have d4 := r0.of
 have d5 := r0.bonus
 have d6 := r0.bonusOf
 have d9 := r0.system
 have x0 := r1.main
 have x1 := r1.bonus
 clear hb1 bW sW cV
 go_wp2_with fail
 refine (cIA.out _ B1).mono ?_
 rintro e w' ⟨rfl,rfl⟩
 go_wp2_with fail
 refine (cIB.out _ B1).mono ?_
 rintro e w' ⟨rfl,rfl⟩
 go_wp2_with fail
 refine (cDA.out _ B1).mono ?_
 rintro e w2 ⟨rfl,hb2⟩
 have B2 := Bel.to B1 hb2
 replace r1 := r1.keep hb2
 have x1 := r1.bonus
 clear hb2
 go_wp2_with fail
 refine (cDB.out _ B2).mono ?_
 rintro e w3 ⟨rfl,hb3⟩
 have B3 := Bel.to B2 hb3
 replace r1 := r1.keep hb3
 have x1 := r1.bonus
 clear hb3
 go_wp2
 go_ret
 exact ⟨rfl,B3⟩
theorem rcheck15_any (g : GameD) (av tv mv bv : Value) (ms : List AddonM) (a b : List Int) (w : World) (h : GameR w av tv ms g) (hl : LineR w mv bv a b) :
  Calls Tryz.prog 116 #[gameVal g av tv,lineVal mv bv] w (IntB (sysE g a b) w) := by
 unfold sysE
 by_cases he : gameS g = 0
 ·rw [if_neg (by simpa using he)]
  by_cases n1 : (a.length : Int) ≤ g.main
  ·rw [if_pos (by omega)];exact rcheck15_s2 g av tv mv bv ms a b w h hl he n1
  ·by_cases n2 : g.system < (a.length : Int)
   ·rw [if_pos (by omega)];exact rcheck15_s3 g av tv mv bv ms a b w h hl he (by omega) n2
   ·by_cases n3 : (b.length : Int) = g.bonus
    ·rw [if_neg (by omega)]
     cases ia : allB a 1 g.of
     ·rw [if_pos (.inl rfl)];exact rcheck15_s5 g av tv mv bv ms a b w h hl he (by omega) (by omega) n3 ia
     ·cases ib : allB b 1 g.bonusOf
      ·rw [if_pos (.inr rfl)];exact rcheck15_s6 g av tv mv bv ms a b w h hl he (by omega) (by omega) n3 ia ib
      ·rw [if_neg (by simp)]
       cases da : dupB a
       ·cases db : dupB b
        ·rw [if_neg (by simp)];exact rcheck15_s9 g av tv mv bv ms a b w h hl he (by omega) (by omega) n3 ia ib da db
        ·rw [if_pos (.inr rfl)];exact rcheck15_s8 g av tv mv bv ms a b w h hl he (by omega) (by omega) n3 ia ib da db
       ·rw [if_pos (.inl rfl)];exact rcheck15_s7 g av tv mv bv ms a b w h hl he (by omega) (by omega) n3 ia ib da
    ·rw [if_pos (by omega)];exact rcheck15_s4 g av tv mv bv ms a b w h hl he (by omega) (by omega) n3
 ·rw [if_pos (by simpa using he)];exact rcheck15_s1 g av tv mv bv ms a b w h hl he
set_option maxHeartbeats 2000000 in
set_option maxRecDepth 100000 in
theorem scount15_any (g : GameD) (av tv mv bv : Value) (ms : List AddonM) (a b : List Int) (w : World) (h : GameR w av tv ms g) (hl : LineR w mv bv a b) :
  Calls Tryz.prog 63 #[gameVal g av tv,lineVal mv bv] w (IntC (sysP g a b).1 (sysP g a b).2 w) := by
 have cV := hide (fun X (hX : Below w.heap.size w X) => scheck15_any g av tv mv bv ms a b X (h.below hX) (hl.below hX))
 unfold sysP
 by_cases he : sysE g a b = 0
 ·rw [if_pos he]
  rw [he] at cV
  obtain ⟨g1,g2,g3,g4,g5,g6,g7,g8⟩ := sysE_ok he
  obtain ⟨f1,f2,f3,f4,f5,f6,f7,f8,f9⟩ := sys_bounds g1
  obtain ⟨K,hK⟩ := Int.eq_ofNat_of_zero_le (show 0 ≤ g.main by omega)
  have hc14 := choose_small (n := a.length) (k := K) (by omega)
  have cC := fun X => count_any (a.length : Int) (K : Int) X
  rw [countV_fit rfl rfl (by omega) (by omega)] at cC
  rw [hK,Int.toNat_natCast]
  obtain ⟨q,hq⟩ : ∃ q,q = choose a.length K := ⟨_,rfl⟩
  rw [← hq] at cC ⊢
  replace cC := hide cC
  clear hq
  replace hK := hide hK
  replace he := hide he
  clear g1 g2 g3 g4 g5 g6 g7 g8 f1 f2 f3 f4 f5 f6 f7 f8 f9 hc14
  have hh := hide h
  have hl' := hide hl
  obtain ⟨aa,ac,rfl,hal,ham⟩ := h.1.1.shape
  obtain ⟨ta,tc,rfl,htl,htm⟩ := h.2.2.shape
  obtain ⟨ma,mc,rfl,hma,hmc,-⟩ := hl.1.form
  obtain ⟨ba,bc,rfl,hba,hbc,-⟩ := hl.2.form
  unfold maxLen at hmc hbc
  clear h hl
  unfold gameVal lineVal
  go_enter Tryz.func63,Tryz.ntmps63
  go_upto_region 1 with (fail)
  obtain ⟨W,hW⟩ : ∃ W,W = ((w.alloc (Obj.cells #[.string g.name,.int .i64 g.kind,.int .i64 g.price,.int .i64 g.main,.int .i64 g.of,.int .i64 g.bonus,.int .i64 g.bonusOf,.int .i64 g.extra,.int .i64 g.draws,.int .i64 g.system,.int .i64 g.days,.int .i64 g.at_,.int .i64 g.close,.int .i64 g.cancel,.int .i64 g.expiry,.int .i64 g.pool,.int .i64 g.reserve,.int .i64 g.round,.int .i64 g.cap,.int .i64 g.rolls,(.slice aa ms.length ac),(.slice ta g.tiers.length tc)] 25)).alloc (Obj.cells #[(.slice ma a.length mc),(.slice ba b.length bc)] 58)) := ⟨_,rfl⟩
  have bW : Below w.heap.size w W := by rw [hW];exact Bel.al (Bel.al (Below.refl _ _) _) _
  have r0 : GameAt W (w.heap.size) g ((.slice aa ms.length ac)) ((.slice ta g.tiers.length tc)) := by rw [hW];exact Row.alloc (Row.new _ _ _) _
  have r1 : LineAt W (w.heap.size + 1) ((.slice ma a.length mc)) ((.slice ba b.length bc)) := by rw [hW];exact Row.at2 _ _ _ _
  have sW : w.heap.size + 1 < W.heap.size := by rw [hW];simp
  rw [← hW]
  clear hW
  go_wp2_with (first | (refine wpList_load_row rfl 25 _ rfl _ rfl _ _ _ _ r0 Tryz.underlying25 rfl (by kernel_rfl) ?_) | (refine wpList_load_row rfl 58 _ rfl _ rfl _ _ _ _ r1 Tryz.underlying58 rfl (by kernel_rfl) ?_) | fail)
  refine (cV.out _ bW).mono ?_
  rintro e w1 ⟨rfl,hb1⟩
  have B1 := Bel.to bW hb1
  have r0 := r0.keep hb1
  have r1 := r1.keep hb1
  have d3 := r0.main
  have x0 := r1.main
  clear hb1 bW sW cV
  rw [hK.out] at d3
  go_wp2_with fail
  refine (cC.out _).mono ?_
  rintro e w2 ⟨rfl,hb2⟩
  go_wp2
  go_ret2
  exact ⟨rfl,Bel.to B1 hb2⟩
 ·rw [if_neg he]
  obtain ⟨c,hcc⟩ : ∃ c,c = sysE g a b := ⟨_,rfl⟩
  rw [← hcc] at cV he ⊢
  clear hcc
  have hcb : (c != 0) = true := by simpa using he
  replace he := hide he
  have hh := hide h
  have hl' := hide hl
  obtain ⟨aa,ac,rfl,hal,ham⟩ := h.1.1.shape
  obtain ⟨ta,tc,rfl,htl,htm⟩ := h.2.2.shape
  obtain ⟨ma,mc,rfl,hma,hmc,-⟩ := hl.1.form
  obtain ⟨ba,bc,rfl,hba,hbc,-⟩ := hl.2.form
  unfold maxLen at hmc hbc
  clear h hl
  unfold gameVal lineVal
  go_enter Tryz.func63,Tryz.ntmps63
  go_upto_region 1 with (fail)
  obtain ⟨W,hW⟩ : ∃ W,W = ((w.alloc (Obj.cells #[.string g.name,.int .i64 g.kind,.int .i64 g.price,.int .i64 g.main,.int .i64 g.of,.int .i64 g.bonus,.int .i64 g.bonusOf,.int .i64 g.extra,.int .i64 g.draws,.int .i64 g.system,.int .i64 g.days,.int .i64 g.at_,.int .i64 g.close,.int .i64 g.cancel,.int .i64 g.expiry,.int .i64 g.pool,.int .i64 g.reserve,.int .i64 g.round,.int .i64 g.cap,.int .i64 g.rolls,(.slice aa ms.length ac),(.slice ta g.tiers.length tc)] 25)).alloc (Obj.cells #[(.slice ma a.length mc),(.slice ba b.length bc)] 58)) := ⟨_,rfl⟩
  have bW : Below w.heap.size w W := by rw [hW];exact Bel.al (Bel.al (Below.refl _ _) _) _
  have r0 : GameAt W (w.heap.size) g ((.slice aa ms.length ac)) ((.slice ta g.tiers.length tc)) := by rw [hW];exact Row.alloc (Row.new _ _ _) _
  have r1 : LineAt W (w.heap.size + 1) ((.slice ma a.length mc)) ((.slice ba b.length bc)) := by rw [hW];exact Row.at2 _ _ _ _
  have sW : w.heap.size + 1 < W.heap.size := by rw [hW];simp
  rw [← hW]
  clear hW
  go_wp2_with (first | (refine wpList_load_row rfl 25 _ rfl _ rfl _ _ _ _ r0 Tryz.underlying25 rfl (by kernel_rfl) ?_) | (refine wpList_load_row rfl 58 _ rfl _ rfl _ _ _ _ r1 Tryz.underlying58 rfl (by kernel_rfl) ?_) | fail)
  refine (cV.out _ bW).mono ?_
  rintro e w1 ⟨rfl,hb1⟩
  have B1 := Bel.to bW hb1
  have r0 := r0.keep hb1
  have r1 := r1.keep hb1
  have d3 := r0.main
  have x0 := r1.main
  clear hb1 bW sW cV
  go_wp2
  go_ret2
  exact ⟨rfl,B1⟩
set_option maxHeartbeats 2000000 in
set_option maxRecDepth 100000 in
theorem rcount15_any (g : GameD) (av tv mv bv : Value) (ms : List AddonM) (a b : List Int) (w : World) (h : GameR w av tv ms g) (hl : LineR w mv bv a b) :
  Calls Tryz.prog 93 #[gameVal g av tv,lineVal mv bv] w (IntC (sysP g a b).1 (sysP g a b).2 w) := by
 have cV := hide (fun X (hX : Below w.heap.size w X) => rcheck15_any g av tv mv bv ms a b X (h.below hX) (hl.below hX))
 unfold sysP
 by_cases he : sysE g a b = 0
 ·rw [if_pos he]
  rw [he] at cV
  obtain ⟨g1,g2,g3,g4,g5,g6,g7,g8⟩ := sysE_ok he
  obtain ⟨f1,f2,f3,f4,f5,f6,f7,f8,f9⟩ := sys_bounds g1
  obtain ⟨K,hK⟩ := Int.eq_ofNat_of_zero_le (show 0 ≤ g.main by omega)
  have hc14 := choose_small (n := a.length) (k := K) (by omega)
  have cC := fun X => choose15_any (a.length : Int) (K : Int) X (by omega) (by omega)
  rw [chooseI_nat a.length K _ _ rfl rfl] at cC
  rw [hK,Int.toNat_natCast]
  obtain ⟨q,hq⟩ : ∃ q,q = choose a.length K := ⟨_,rfl⟩
  rw [← hq] at cC ⊢
  replace cC := hide cC
  clear hq
  replace hK := hide hK
  replace he := hide he
  clear g1 g2 g3 g4 g5 g6 g7 g8 f1 f2 f3 f4 f5 f6 f7 f8 f9 hc14
  have hh := hide h
  have hl' := hide hl
  obtain ⟨aa,ac,rfl,hal,ham⟩ := h.1.1.shape
  obtain ⟨ta,tc,rfl,htl,htm⟩ := h.2.2.shape
  obtain ⟨ma,mc,rfl,hma,hmc,-⟩ := hl.1.form
  obtain ⟨ba,bc,rfl,hba,hbc,-⟩ := hl.2.form
  unfold maxLen at hmc hbc
  clear h hl
  unfold gameVal lineVal
  go_enter Tryz.func93,Tryz.ntmps93
  go_upto_region 1 with (fail)
  obtain ⟨W,hW⟩ : ∃ W,W = ((w.alloc (Obj.cells #[.string g.name,.int .i64 g.kind,.int .i64 g.price,.int .i64 g.main,.int .i64 g.of,.int .i64 g.bonus,.int .i64 g.bonusOf,.int .i64 g.extra,.int .i64 g.draws,.int .i64 g.system,.int .i64 g.days,.int .i64 g.at_,.int .i64 g.close,.int .i64 g.cancel,.int .i64 g.expiry,.int .i64 g.pool,.int .i64 g.reserve,.int .i64 g.round,.int .i64 g.cap,.int .i64 g.rolls,(.slice aa ms.length ac),(.slice ta g.tiers.length tc)] 25)).alloc (Obj.cells #[(.slice ma a.length mc),(.slice ba b.length bc)] 58)) := ⟨_,rfl⟩
  have bW : Below w.heap.size w W := by rw [hW];exact Bel.al (Bel.al (Below.refl _ _) _) _
  have r0 : GameAt W (w.heap.size) g ((.slice aa ms.length ac)) ((.slice ta g.tiers.length tc)) := by rw [hW];exact Row.alloc (Row.new _ _ _) _
  have r1 : LineAt W (w.heap.size + 1) ((.slice ma a.length mc)) ((.slice ba b.length bc)) := by rw [hW];exact Row.at2 _ _ _ _
  have sW : w.heap.size + 1 < W.heap.size := by rw [hW];simp
  rw [← hW]
  clear hW
  go_wp2_with (first | (refine wpList_load_row rfl 25 _ rfl _ rfl _ _ _ _ r0 Tryz.underlying25 rfl (by kernel_rfl) ?_) | (refine wpList_load_row rfl 58 _ rfl _ rfl _ _ _ _ r1 Tryz.underlying58 rfl (by kernel_rfl) ?_) | fail)
  refine (cV.out _ bW).mono ?_
  rintro e w1 ⟨rfl,hb1⟩
  have B1 := Bel.to bW hb1
  have r0 := r0.keep hb1
  have r1 := r1.keep hb1
  have d3 := r0.main
  have x0 := r1.main
  clear hb1 bW sW cV
  rw [hK.out] at d3
  go_wp2_with fail
  refine (cC.out _).mono ?_
  rintro e w2 ⟨rfl,hb2⟩
  go_wp2
  go_ret2
  exact ⟨rfl,Bel.to B1 hb2⟩
 ·rw [if_neg he]
  obtain ⟨c,hcc⟩ : ∃ c,c = sysE g a b := ⟨_,rfl⟩
  rw [← hcc] at cV he ⊢
  clear hcc
  have hcb : (c != 0) = true := by simpa using he
  replace he := hide he
  have hh := hide h
  have hl' := hide hl
  obtain ⟨aa,ac,rfl,hal,ham⟩ := h.1.1.shape
  obtain ⟨ta,tc,rfl,htl,htm⟩ := h.2.2.shape
  obtain ⟨ma,mc,rfl,hma,hmc,-⟩ := hl.1.form
  obtain ⟨ba,bc,rfl,hba,hbc,-⟩ := hl.2.form
  unfold maxLen at hmc hbc
  clear h hl
  unfold gameVal lineVal
  go_enter Tryz.func93,Tryz.ntmps93
  go_upto_region 1 with (fail)
  obtain ⟨W,hW⟩ : ∃ W,W = ((w.alloc (Obj.cells #[.string g.name,.int .i64 g.kind,.int .i64 g.price,.int .i64 g.main,.int .i64 g.of,.int .i64 g.bonus,.int .i64 g.bonusOf,.int .i64 g.extra,.int .i64 g.draws,.int .i64 g.system,.int .i64 g.days,.int .i64 g.at_,.int .i64 g.close,.int .i64 g.cancel,.int .i64 g.expiry,.int .i64 g.pool,.int .i64 g.reserve,.int .i64 g.round,.int .i64 g.cap,.int .i64 g.rolls,(.slice aa ms.length ac),(.slice ta g.tiers.length tc)] 25)).alloc (Obj.cells #[(.slice ma a.length mc),(.slice ba b.length bc)] 58)) := ⟨_,rfl⟩
  have bW : Below w.heap.size w W := by rw [hW];exact Bel.al (Bel.al (Below.refl _ _) _) _
  have r0 : GameAt W (w.heap.size) g ((.slice aa ms.length ac)) ((.slice ta g.tiers.length tc)) := by rw [hW];exact Row.alloc (Row.new _ _ _) _
  have r1 : LineAt W (w.heap.size + 1) ((.slice ma a.length mc)) ((.slice ba b.length bc)) := by rw [hW];exact Row.at2 _ _ _ _
  have sW : w.heap.size + 1 < W.heap.size := by rw [hW];simp
  rw [← hW]
  clear hW
  go_wp2_with (first | (refine wpList_load_row rfl 25 _ rfl _ rfl _ _ _ _ r0 Tryz.underlying25 rfl (by kernel_rfl) ?_) | (refine wpList_load_row rfl 58 _ rfl _ rfl _ _ _ _ r1 Tryz.underlying58 rfl (by kernel_rfl) ?_) | fail)
  refine (cV.out _ bW).mono ?_
  rintro e w1 ⟨rfl,hb1⟩
  have B1 := Bel.to bW hb1
  have r0 := r0.keep hb1
  have r1 := r1.keep hb1
  have d3 := r0.main
  have x0 := r1.main
  clear hb1 bW sW cV
  go_wp2
  go_ret2
  exact ⟨rfl,B1⟩
end Go.Proofs.YtfggjlekcdpmmaaGreat
end

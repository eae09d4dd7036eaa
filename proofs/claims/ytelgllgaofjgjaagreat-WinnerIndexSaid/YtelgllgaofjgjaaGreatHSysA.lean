/- Lemmas, merged out of smaller texts (wip/tools/mergedce.py). No condition. -/
import Derived.Deep.Cut
import Derived.Deep.DeepCutAuto
import Derived.Outline
import Derived.Test.YtelgllgaofjgjaaGreatHLine
import Derived.Test.YtelgllgaofjgjaaGreatHRef
import Derived.Test.YtelgllgaofjgjaaGreatHCore
import Derived.Test.YtelgllgaofjgjaaGreatHNat
section
open Go.RowKit
set_option linter.unusedVariables false
set_option linter.unusedSimpArgs false
namespace Go.Proofs.YtelgllgaofjgjaaGreat
set_option maxHeartbeats 1000000 in
theorem inside15_any (v : Value) (l : List Int) (hi : Int) (w : World) (h : Rd I64 w v l) :
  Calls Tryz.prog 108 #[v,.int .i64 hi] w (Pure (.bool (allB l 1 hi)) w) := by
 obtain ⟨ao,cap,rfl,hle,hmax,hrd⟩ := Rd.form h
 have hmax2 : cap ≤ 9223372036854775807 := by unfold maxLen at hmax;omega
 go_enter Tryz.func108,Tryz.ntmps108
 go_wp2
 go_loopg [9] l.length (fun g t wr => ∃ (i : Nat),g = l.length - i ∧ i ≤ l.length ∧ t = .int .i64 i ∧ w = wr ∧ ∀ k (hk : k < l.length),k < i → inB l[k] 1 hi = true)
 case atStart => exact ⟨0,rfl,Nat.zero_le _,rfl,rfl,fun k hk hki => absurd hki (Nat.not_lt_zero _)⟩
 case round =>
  obtain ⟨i,hg,hi',rfl,rfl,hall⟩ := hrel
  replace hg := hide hg
  replace hall := hide hall
  by_cases hlt : i < l.length
  ·have hlt2 := hide hlt
   obtain ⟨b,off,rfl,hbb,hcell⟩ := hrd.at_ hlt
   have i1 : (0 : Int) ≤ (i : Int) := by omega
   have i2 : (i : Int) < (l.length : Int) := by omega
   obtain ⟨x,hx,c1⟩ : ∃ x,x = l[i] ∧ w.cell? ⟨b,off + i,none⟩ = some (.int .i64 x) := ⟨_,rfl,hcell _ hlt⟩
   clear hcell
   by_cases hlo : x < 1
   ·have hr := hide (allB_at hlt (by have h9 := inB_lo (hi := hi) hlo;rw [hx] at h9;exact h9) : allB l 1 hi = false)
    replace hx := hide hx
    go_wp2
    go_ret
    rw [hr.out]
    exact ⟨rfl,rfl⟩
   ·by_cases hhi : hi < x
    ·have hr := hide (allB_at hlt (by have h9 := inB_hi (lo := 1) hhi;rw [hx] at h9;exact h9) : allB l 1 hi = false)
     replace hx := hide hx
     go_wp2
     go_ret
     rw [hr.out]
     exact ⟨rfl,rfl⟩
    ·have hnext : ∀ k (hk : k < l.length),k < i + 1 → inB l[k] 1 hi = true := by
      intro k hk hki
      rcases Nat.lt_succ_iff_lt_or_eq.1 hki with h | rfl
      ·exact hall.out k hk h
      ·have h9 := inB_yes (x := x) (lo := 1) (hi := hi) (by omega) (by omega);rw [hx] at h9;exact h9
     replace hnext := hide hnext
     replace hx := hide hx
     go_wp2
     go_roundg (l.length - (i + 1))
     case measure => have := hg.out;omega
     case rel => exact ⟨i + 1,rfl,by have := hlt2.out;omega,by go_num,rfl,hnext.out⟩
  ·have hr := hide (allB_yes (lo := 1) (hi := hi) (fun k hk => hall.out k hk (by omega)))
   go_wp2
   go_ret
   rw [hr.out]
   exact ⟨rfl,rfl⟩
def seenL (l : List Int) (i : Nat) : List Bool := (List.range 81).map fun (j : Nat) => decide ((j : Int) ∈ l.take i)
theorem seenL_len (l : List Int) (i : Nat) : (seenL l i).length = 81 := by unfold seenL;simp
theorem seenL_at (l : List Int) (i j : Nat) (h : j < (seenL l i).length) : (seenL l i)[j] = decide ((j : Int) ∈ l.take i) := by
 have e : (seenL l i)[j]? = some (decide ((j : Int) ∈ l.take i)) := by
  have : j < 81 := by rw [seenL_len] at h;exact h
  unfold seenL
  rw [List.getElem?_map,List.getElem?_range this];rfl
 rw [List.getElem?_eq_getElem h] at e
 injection e
theorem seenL_zero (l : List Int) : seenL l 0 = List.replicate 81 false := by
 apply List.ext_getElem
 ·rw [seenL_len,List.length_replicate]
 ·intro i h1 h2
  rw [seenL_at,List.getElem_replicate,List.take_zero]
  exact decide_eq_false (by simp)
theorem seenL_set {l : List Int} {i x : Nat} (hi : i < l.length) (hx : l[i] = (x : Int)) : (seenL l i).set x true = seenL l (i + 1) := by
 apply List.ext_getElem
 ·rw [List.length_set,seenL_len,seenL_len]
 ·intro j h1 h2
  rw [List.getElem_set,seenL_at,seenL_at,List.take_succ_eq_append_getElem hi]
  by_cases hj : x = j
  ·subst hj
   rw [if_pos rfl,hx]
   symm
   simp
  ·rw [if_neg hj,hx]
   have : ((j : Int) ∈ l.take i ++ [(x : Int)]) ↔ (j : Int) ∈ l.take i := by
    rw [List.mem_append,List.mem_singleton]
    constructor
    ·rintro (h | h)
     ·exact h
     ·omega
    ·exact .inl
   rw [decide_eq_decide]
   exact this.symm
theorem dup_seen {l : List Int} {i : Nat} (hi : i < l.length) (h : l[i] ∈ l.take i) : dupB l = true := by
 obtain ⟨k,hk,e⟩ := List.getElem_of_mem h
 rw [List.length_take] at hk
 rw [List.getElem_take] at e
 exact dupB_at hi (by omega) e.symm
theorem dup_unseen {l : List Int} (h : ∀ i (hi : i < l.length),l[i] ∉ l.take i) : dupB l = false := by
 refine dupB_none (fun i hi k hk e => h i hi ?_)
 rw [e]
 exact List.mem_iff_getElem.2 ⟨k,by rw [List.length_take];omega,by rw [List.getElem_take]⟩
theorem zero81 : Tryz.zeroCells139.toList = List.replicate 81 (.bool false) := by kernel_rfl
set_option maxHeartbeats 2000000 in
set_option maxRecDepth 100000 in
theorem repeated15_any (v : Value) (l : List Int) (w : World) (h : Rd I64 w v l) (hall : ∀ x ∈ l,1 ≤ x ∧ x ≤ 80) :
  Calls Tryz.prog 109 #[v] w (BoolB (dupB l) w) := by
 obtain ⟨ao,cap,rfl,hle,hmax,hrd⟩ := Rd.form h
 have hmax2 : cap ≤ 9223372036854775807 := by unfold maxLen at hmax;omega
 replace hall := hide hall
 clear h
 go_enter Tryz.func109,Tryz.ntmps109
 go_upto_region 2 with (fail)
 obtain ⟨W,hW⟩ : ∃ W,W = w.alloc (.cells Tryz.zeroCells139 139) := ⟨_,rfl⟩
 have bW : Below w.heap.size w W := by rw [hW];exact Bel.al (Below.refl _ _) _
 have r0 : Row W w.heap.size 139 ((seenL l 0).map Value.bool) := by
  rw [hW,seenL_zero,List.map_replicate]
  exact Row.newOf _ zero81
 rw [← hW]
 clear hW
 go_wp2
 go_loopg [8] l.length (fun gh t wr => ∃ i : Nat,gh = l.length - i ∧ i ≤ l.length ∧ t = .int .i64 (i : Int) ∧ Row wr w.heap.size 139 ((seenL l i).map Value.bool) ∧ Below w.heap.size w wr ∧ Hid (∀ k (hk : k < l.length),k < i → l[k] ∉ l.take k))
 case atStart => exact ⟨0,rfl,Nat.zero_le _,rfl,r0,bW,fun k hk h => absurd h (Nat.not_lt_zero _)⟩
 case round =>
  obtain ⟨i,hg,hi,rfl,hR,hB,hno⟩ := hrel
  replace hg := hide hg
  by_cases hlt : i < l.length
  ·have hlt2 := hide hlt
   obtain ⟨b,off,rfl,hbb,hcell⟩ := hrd.at_ hlt
   have i1 : (0 : Int) ≤ (i : Int) := by omega
   have i2 : (i : Int) < (l.length : Int) := by omega
   obtain ⟨y,hy,c0⟩ : ∃ y,y = l[i] ∧ w.cell? ⟨b,off + i,none⟩ = some (.int .i64 y) := ⟨_,rfl,hcell _ hlt⟩
   obtain ⟨x1,x2⟩ := hall.out y (by rw [hy];exact List.getElem_mem _)
   obtain ⟨x,rfl⟩ := Int.eq_ofNat_of_zero_le (show 0 ≤ y by omega)
   have hx : l[i] = (x : Int) := hy.symm
   have c1 := Bel.cellOf hB c0
   have x3 : x < (seenL l i).length := by rw [seenL_len];omega
   have c2 := hR.cellV x3
   rw [seenL_at,hy] at c2
   have f2 := Row.frozen hR x
   have j1 : (0 : Int) ≤ (x : Int) := by omega
   have j2 : (x : Int) < 81 := by omega
   clear hcell c0
   by_cases hin : l[i] ∈ l.take i
   ·rw [decide_eq_true hin] at c2
    have hd := hide (dup_seen hlt hin)
    replace hin := hide hin
    replace hx := hide hx
    replace hy := hide hy
    clear hlt
    go_wp2
    go_ret
    rw [hd.out]
    exact ⟨rfl,hB⟩
   ·rw [decide_eq_false hin] at c2
    have hset := seenL_set hlt hx
    have hR2 := hR.setV x true
    rw [hset] at hR2
    have hB2 := Bel.st hB (p := ⟨w.heap.size,x,none⟩) (Nat.le_refl _) (.bool true)
    have hno2 : Hid (∀ k (hk : k < l.length),k < i + 1 → l[k] ∉ l.take k) := by
     intro k hk hki
     rcases Nat.lt_succ_iff_lt_or_eq.1 hki with h | rfl
     ·exact hno.out k hk h
     ·exact hin
    replace hR2 := hide hR2
    replace hin := hide hin
    replace hx := hide hx
    replace hy := hide hy
    clear hset hB hlt x3
    go_wp2
    go_roundg (l.length - (i + 1))
    case measure => have := hg.out;have := hlt2.out;omega
    case rel => exact ⟨i + 1,rfl,by have := hlt2.out;omega,by go_num,hR2.out,hB2,hno2⟩
  ·have hd := hide (dup_unseen (l := l) (fun k hk => hno.out k hk (by omega)))
   go_wp2
   go_ret
   rw [hd.out]
   exact ⟨rfl,hB⟩
def gameS (g : GameD) : Int := if gameE g ≠ 0 then gameE g else if g.kind ≠ 1 then 7 else 0
set_option maxHeartbeats 2000000 in
set_option maxRecDepth 100000 in
theorem valid_any (g : GameD) (av tv : Value) (ms : List AddonM) (w : World) (h : GameR w av tv ms g) :
  Calls Tryz.prog 107 #[gameVal g av tv] w (IntB (gameS g) w) := by
 have hc := hide (fun X (hX : GameR X av tv ms g) => show Calls Tryz.prog 22 #[gameVal g av tv] X (IntC (if gameE g = 0 then (countG g : Int) else 0) (gameE g) X) from by
  by_cases he : gameE g = 0
  ·rw [if_pos he,he];exact mcount_ok g av tv ms X hX he
  ·rw [if_neg he];exact mcount_bad g av tv ms X hX he)
 obtain ⟨cn,hcn⟩ : ∃ c,c = (if gameE g = 0 then (countG g : Int) else 0) := ⟨_,rfl⟩
 rw [← hcn] at hc
 clear hcn
 have hh := hide h
 obtain ⟨aa,ac,rfl,hal,ham⟩ := h.1.1.shape
 obtain ⟨ta,tc,rfl,htl,htm⟩ := h.2.2.shape
 clear h
 obtain ⟨r,hr⟩ : ∃ r,r = gameS g := ⟨_,rfl⟩
 rw [← hr]
 unfold gameS at hr
 obtain ⟨c,hcc⟩ : ∃ c,c = gameE g := ⟨_,rfl⟩
 rw [← hcc] at hc hr
 clear hcc
 obtain ⟨gname,gkind,gprice,gmain,gof,gbonus,gbonusOf,gextra,gdraws,gsystem,gdays,gat,gclose,gcancel,gexpiry,gpool,greserve,ground,gcap,grolls,ga,gt⟩ := g
 unfold gameVal at hc ⊢
 (try simp only [] at hc hr ⊢)
 replace hr := hide hr
 have hbel := hide (fun W (bW : Below w.heap.size w W) => hc.out W (hh.out.below bW))
 clear hc hh
 go_enter Tryz.func107,Tryz.ntmps107
 go_upto_region 1 with (fail)
 obtain ⟨W,hW⟩ : ∃ W,W = (w.alloc (Obj.cells #[.string gname,.int .i64 gkind,.int .i64 gprice,.int .i64 gmain,.int .i64 gof,.int .i64 gbonus,.int .i64 gbonusOf,.int .i64 gextra,.int .i64 gdraws,.int .i64 gsystem,.int .i64 gdays,.int .i64 gat,.int .i64 gclose,.int .i64 gcancel,.int .i64 gexpiry,.int .i64 gpool,.int .i64 greserve,.int .i64 ground,.int .i64 gcap,.int .i64 grolls,(.slice aa ms.length ac),(.slice ta gt.length tc)] 25)) := ⟨_,rfl⟩
 have bW : Below w.heap.size w W := by rw [hW];exact Bel.al (Below.refl _ _) _
 have r0 : Row W (w.heap.size) 25 [.string gname,.int .i64 gkind,.int .i64 gprice,.int .i64 gmain,.int .i64 gof,.int .i64 gbonus,.int .i64 gbonusOf,.int .i64 gextra,.int .i64 gdraws,.int .i64 gsystem,.int .i64 gdays,.int .i64 gat,.int .i64 gclose,.int .i64 gcancel,.int .i64 gexpiry,.int .i64 gpool,.int .i64 greserve,.int .i64 ground,.int .i64 gcap,.int .i64 grolls,(.slice aa ms.length ac),(.slice ta gt.length tc)] := by rw [hW];exact Row.new _ _ _
 have c0_1 : W.cell? ⟨w.heap.size,1,none⟩ = some (.int .i64 gkind) := Row.cell r0 (i := 1) (by simp)
 have sW : w.heap.size < W.heap.size := by rw [hW];simp
 rw [← hW]
 clear hW
 go_wp2_with (first | (refine wpList_load_row rfl 25 _ rfl _ rfl _ _ _ _ r0 Tryz.underlying25 rfl (by kernel_rfl) ?_) | fail)
 refine (hbel.out _ bW).mono ?_
 rintro e w1 ⟨rfl,hb1⟩
 have d1 := Bel.cellOf hb1 c0_1
 have B1 := Bel.to bW hb1
 clear c0_1 r0 hb1 hbel
 by_cases hc0 : c = 0
 ·subst hc0
  by_cases hk : gkind = 1
  ·have hr2 : r = 0 := by rw [hr.out,if_neg (by simp),if_neg (by simpa using hk)]
   replace hr2 := hide hr2
   subst hk
   clear hr
   go_wp2
   go_ret
   rw [hr2.out]
   exact ⟨rfl,B1⟩
  ·have hr2 : r = 7 := by rw [hr.out,if_neg (by simp),if_pos hk]
   have hkb : (gkind != 1) = true := by simpa using hk
   replace hr2 := hide hr2
   replace hk := hide hk
   clear hr
   go_wp2
   go_ret
   rw [hr2.out]
   exact ⟨rfl,B1⟩
 ·have hr2 : r = c := by rw [hr.out,if_pos hc0]
  have hcb : (c != 0) = true := by simpa using hc0
  have hcb2 : (c == 0) = false := by simpa using hc0
  replace hr2 := hide hr2
  replace hc0 := hide hc0
  clear hr
  go_wp2
  go_ret
  rw [hr2.out]
  exact ⟨rfl,B1⟩
theorem choose_small {n k : Nat} (h : n ≤ 14) : choose n k ≤ 3432 := by
 refine Nat.le_trans (choose_mono_n h) ?_
 rw [choose_fast]
 rcases Nat.lt_or_ge 14 k with h | h
 ·rw [← choose_fast,choose_gt h];omega
 ·have : k = 0 ∨ k = 1 ∨ k = 2 ∨ k = 3 ∨ k = 4 ∨ k = 5 ∨ k = 6 ∨ k = 7 ∨ k = 8 ∨ k = 9 ∨ k = 10 ∨ k = 11 ∨ k = 12 ∨ k = 13 ∨ k = 14 := by omega
  rcases this with rfl | rfl | rfl | rfl | rfl | rfl | rfl | rfl | rfl | rfl | rfl | rfl | rfl | rfl | rfl <;> decide
theorem mat_system {g : GameD} (h : matB g = true) : g.system ≤ 14 := by
 unfold matB at h
 simp only [Bool.and_eq_true] at h
 obtain ⟨⟨⟨⟨⟨⟨⟨h1,h2⟩,h3⟩,h4⟩,h5⟩,h6⟩,h7⟩,h8⟩ := h
 have a2 := inB_iff.1 h2
 by_cases hk : g.kind = 2
 ·rw [if_pos hk] at h8
  have := inB_iff.1 h8
  omega
 ·rw [if_neg hk] at h8
  simp only [Bool.and_eq_true] at h8
  have := inB_iff.1 h8.1
  omega
theorem gameS_ok {g : GameD} (h : gameS g = 0) : gameE g = 0 ∧ g.kind = 1 := by
 unfold gameS at h
 split at h
 ·rename_i h1;exact absurd h h1
 ·rename_i h1
  split at h
  ·omega
  ·rename_i h2
   exact ⟨by simpa using h1,by simpa using h2⟩
def sysE (g : GameD) (a b : List Int) : Int :=
 if gameS g ≠ 0 then gameS g
 else if (a.length : Int) < g.main + 1 ∨ g.system < (a.length : Int) ∨ (b.length : Int) ≠ g.bonus then 3
 else if allB a 1 g.of = false ∨ allB b 1 g.bonusOf = false then 2
 else if dupB a = true ∨ dupB b = true then 6
 else 0
theorem sysE_ok {g : GameD} {a b : List Int} (h : sysE g a b = 0) : gameS g = 0 ∧ ¬ (a.length : Int) < g.main + 1 ∧ ¬ g.system < (a.length : Int) ∧ (b.length : Int) = g.bonus ∧ allB a 1 g.of = true ∧ allB b 1 g.bonusOf = true ∧ dupB a = false ∧ dupB b = false := by
 unfold sysE at h
 by_cases h1 : gameS g = 0
 ·rw [if_neg (by simpa using h1)] at h
  by_cases h2 : (a.length : Int) < g.main + 1 ∨ g.system < (a.length : Int) ∨ (b.length : Int) ≠ g.bonus
  ·rw [if_pos h2] at h;omega
  ·rw [if_neg h2] at h
   by_cases h3 : allB a 1 g.of = false ∨ allB b 1 g.bonusOf = false
   ·rw [if_pos h3] at h;omega
   ·rw [if_neg h3] at h
    by_cases h4 : dupB a = true ∨ dupB b = true
    ·rw [if_pos h4] at h;omega
    ·refine ⟨h1,by omega,by omega,by omega,?_,?_,?_,?_⟩
     ·cases hx : allB a 1 g.of
      ·exact absurd (.inl hx) h3
      ·rfl
     ·cases hx : allB b 1 g.bonusOf
      ·exact absurd (.inr hx) h3
      ·rfl
     ·cases hx : dupB a
      ·rfl
      ·exact absurd (.inl hx) h4
     ·cases hx : dupB b
      ·rfl
      ·exact absurd (.inr hx) h4
 ·rw [if_pos (by simpa using h1)] at h;exact absurd h h1
theorem sys_bounds {g : GameD} (h : gameS g = 0) : 1 ≤ g.main ∧ g.main ≤ 10 ∧ 0 ≤ g.of ∧ g.of ≤ 80 ∧ 0 ≤ g.bonusOf ∧ g.bonusOf ≤ 80 ∧ g.system ≤ 14 ∧ 0 ≤ g.bonus ∧ g.bonus ≤ 4 := by
 have hm := game_mat (gameS_ok h).1
 obtain ⟨f1,f2,f3,f4,f5,f6,f7,f8,f9,f10,f11⟩ := mat_facts hm
 exact ⟨f1,f2,f5,f6,f10,f11,mat_system hm,f3,f4⟩
theorem all_80 {l : List Int} {hi : Int} (h : allB l 1 hi = true) (h8 : hi ≤ 80) : ∀ x ∈ l,1 ≤ x ∧ x ≤ 80 := fun x hx => by have := allB_iff.1 h x hx;omega
def sysP (g : GameD) (a b : List Int) : Int × Int := if sysE g a b = 0 then (((choose a.length g.main.toNat : Nat) : Int),0) else (0,sysE g a b)
set_option maxHeartbeats 2000000 in
set_option maxRecDepth 100000 in
theorem scheck15_s1 (g : GameD) (av tv mv bv : Value) (ms : List AddonM) (a b : List Int) (w : World) (h : GameR w av tv ms g) (hl : LineR w mv bv a b) (he : gameS g ≠ 0) :
  Calls Tryz.prog 82 #[gameVal g av tv,lineVal mv bv] w (IntB (gameS g) w) := by
 have cV := hide (fun X (hX : GameR X av tv ms g) => valid_any g av tv ms X hX)
 obtain ⟨c,hcc⟩ : ∃ c,c = gameS g := ⟨_,rfl⟩
 rw [← hcc] at cV he ⊢
 clear hcc
 have hcb : (c != 0) = true := by simpa using he
 replace he := hide he
 have hh := hide h
 have hl' := hide hl
 obtain ⟨aa,ac,rfl,hal,ham⟩ := h.1.1.shape
 obtain ⟨ta,tc,rfl,htl,htm⟩ := h.2.2.shape
 obtain ⟨ma,mc,rfl,hma,hmc,-⟩ := hl.1.form
 obtain ⟨ba,bc,rfl,hba,hbc,-⟩ := hl.2.form
 unfold maxLen at hmc hbc
 clear h hl
 unfold gameVal lineVal
 go_enter Tryz.func82,Tryz.ntmps82
 go_upto_region 1 with (fail)
 obtain ⟨W,hW⟩ : ∃ W,W = ((w.alloc (Obj.cells #[.string g.name,.int .i64 g.kind,.int .i64 g.price,.int .i64 g.main,.int .i64 g.of,.int .i64 g.bonus,.int .i64 g.bonusOf,.int .i64 g.extra,.int .i64 g.draws,.int .i64 g.system,.int .i64 g.days,.int .i64 g.at_,.int .i64 g.close,.int .i64 g.cancel,.int .i64 g.expiry,.int .i64 g.pool,.int .i64 g.reserve,.int .i64 g.round,.int .i64 g.cap,.int .i64 g.rolls,(.slice aa ms.length ac),(.slice ta g.tiers.length tc)] 25)).alloc (Obj.cells #[(.slice ma a.length mc),(.slice ba b.length bc)] 53)) := ⟨_,rfl⟩
 have bW : Below w.heap.size w W := by rw [hW];exact Bel.al (Bel.al (Below.refl _ _) _) _
 have r0 : GameAt W (w.heap.size) g ((.slice aa ms.length ac)) ((.slice ta g.tiers.length tc)) := by rw [hW];exact Row.alloc (Row.new _ _ _) _
 have r1 : LineAt W (w.heap.size + 1) ((.slice ma a.length mc)) ((.slice ba b.length bc)) := by rw [hW];exact Row.at2 _ _ _ _
 have sW : w.heap.size + 1 < W.heap.size := by rw [hW];simp
 rw [← hW]
 clear hW
 go_wp2_with (first | (refine wpList_load_row rfl 25 _ rfl _ rfl _ _ _ _ r0 Tryz.underlying25 rfl (by kernel_rfl) ?_) | fail)
 refine (cV.out _ (hh.out.below bW)).mono ?_
 rintro e w1 ⟨rfl,hb1⟩
 have B1 := Bel.to bW hb1
 have r0 := r0.keep hb1
 have r1 := r1.keep hb1
 have d3 := r0.main
 have d4 := r0.of
 have d5 := r0.bonus
 have d6 := r0.bonusOf
 have d9 := r0.system
 have x0 := r1.main
 have x1 := r1.bonus
 clear hb1 bW sW cV
 go_wp2
 go_ret
 exact ⟨rfl,B1⟩
set_option maxHeartbeats 2000000 in
set_option maxRecDepth 100000 in
theorem scheck15_s2 (g : GameD) (av tv mv bv : Value) (ms : List AddonM) (a b : List Int) (w : World) (h : GameR w av tv ms g) (hl : LineR w mv bv a b) (he : gameS g = 0) (n1 : (a.length : Int) ≤ g.main) :
  Calls Tryz.prog 82 #[gameVal g av tv,lineVal mv bv] w (IntB 3 w) := by
 have cV := hide (fun X (hX : GameR X av tv ms g) => valid_any g av tv ms X hX)
 obtain ⟨f1,f2,f3,f4,f5,f6,f7,f8,f9⟩ := sys_bounds he
 rw [he] at cV
 replace he := hide he
 have hh := hide h
 have hl' := hide hl
 obtain ⟨aa,ac,rfl,hal,ham⟩ := h.1.1.shape
 obtain ⟨ta,tc,rfl,htl,htm⟩ := h.2.2.shape
 obtain ⟨ma,mc,rfl,hma,hmc,-⟩ := hl.1.form
 obtain ⟨ba,bc,rfl,hba,hbc,-⟩ := hl.2.form
 unfold maxLen at hmc hbc
 clear h hl
 unfold gameVal lineVal
 go_enter Tryz.func82,Tryz.ntmps82
 go_upto_region 1 with (fail)
 obtain ⟨W,hW⟩ : ∃ W,W = ((w.alloc (Obj.cells #[.string g.name,.int .i64 g.kind,.int .i64 g.price,.int .i64 g.main,.int .i64 g.of,.int .i64 g.bonus,.int .i64 g.bonusOf,.int .i64 g.extra,.int .i64 g.draws,.int .i64 g.system,.int .i64 g.days,.int .i64 g.at_,.int .i64 g.close,.int .i64 g.cancel,.int .i64 g.expiry,.int .i64 g.pool,.int .i64 g.reserve,.int .i64 g.round,.int .i64 g.cap,.int .i64 g.rolls,(.slice aa ms.length ac),(.slice ta g.tiers.length tc)] 25)).alloc (Obj.cells #[(.slice ma a.length mc),(.slice ba b.length bc)] 53)) := ⟨_,rfl⟩
 have bW : Below w.heap.size w W := by rw [hW];exact Bel.al (Bel.al (Below.refl _ _) _) _
 have r0 : GameAt W (w.heap.size) g ((.slice aa ms.length ac)) ((.slice ta g.tiers.length tc)) := by rw [hW];exact Row.alloc (Row.new _ _ _) _
 have r1 : LineAt W (w.heap.size + 1) ((.slice ma a.length mc)) ((.slice ba b.length bc)) := by rw [hW];exact Row.at2 _ _ _ _
 have sW : w.heap.size + 1 < W.heap.size := by rw [hW];simp
 rw [← hW]
 clear hW
 go_wp2_with (first | (refine wpList_load_row rfl 25 _ rfl _ rfl _ _ _ _ r0 Tryz.underlying25 rfl (by kernel_rfl) ?_) | fail)
 refine (cV.out _ (hh.out.below bW)).mono ?_
 rintro e w1 ⟨rfl,hb1⟩
 have B1 := Bel.to bW hb1
 have r0 := r0.keep hb1
 have r1 := r1.keep hb1
 have d3 := r0.main
 have d4 := r0.of
 have d5 := r0.bonus
 have d6 := r0.bonusOf
 have d9 := r0.system
 have x0 := r1.main
 have x1 := r1.bonus
 clear hb1 bW sW cV
 go_wp2
 go_ret
 exact ⟨rfl,B1⟩
set_option maxHeartbeats 2000000 in
set_option maxRecDepth 100000 in
theorem scheck15_s3 (g : GameD) (av tv mv bv : Value) (ms : List AddonM) (a b : List Int) (w : World) (h : GameR w av tv ms g) (hl : LineR w mv bv a b) (he : gameS g = 0) (n1 : g.main < (a.length : Int)) (n2 : g.system < (a.length : Int)) :
  Calls Tryz.prog 82 #[gameVal g av tv,lineVal mv bv] w (IntB 3 w) := by
 have cV := hide (fun X (hX : GameR X av tv ms g) => valid_any g av tv ms X hX)
 obtain ⟨f1,f2,f3,f4,f5,f6,f7,f8,f9⟩ := sys_bounds he
 rw [he] at cV
 replace he := hide he
 have hh := hide h
 have hl' := hide hl
 obtain ⟨aa,ac,rfl,hal,ham⟩ := h.1.1.shape
 obtain ⟨ta,tc,rfl,htl,htm⟩ := h.2.2.shape
 obtain ⟨ma,mc,rfl,hma,hmc,-⟩ := hl.1.form
 obtain ⟨ba,bc,rfl,hba,hbc,-⟩ := hl.2.form
 unfold maxLen at hmc hbc
 clear h hl
 unfold gameVal lineVal
 go_enter Tryz.func82,Tryz.ntmps82
 go_upto_region 1 with (fail)
 obtain ⟨W,hW⟩ : ∃ W,W = ((w.alloc (Obj.cells #[.string g.name,.int .i64 g.kind,.int .i64 g.price,.int .i64 g.main,.int .i64 g.of,.int .i64 g.bonus,.int .i64 g.bonusOf,.int .i64 g.extra,.int .i64 g.draws,.int .i64 g.system,.int .i64 g.days,.int .i64 g.at_,.int .i64 g.close,.int .i64 g.cancel,.int .i64 g.expiry,.int .i64 g.pool,.int .i64 g.reserve,.int .i64 g.round,.int .i64 g.cap,.int .i64 g.rolls,(.slice aa ms.length ac),(.slice ta g.tiers.length tc)] 25)).alloc (Obj.cells #[(.slice ma a.length mc),(.slice ba b.length bc)] 53)) := ⟨_,rfl⟩
 have bW : Below w.heap.size w W := by rw [hW];exact Bel.al (Bel.al (Below.refl _ _) _) _
 have r0 : GameAt W (w.heap.size) g ((.slice aa ms.length ac)) ((.slice ta g.tiers.length tc)) := by rw [hW];exact Row.alloc (Row.new _ _ _) _
 have r1 : LineAt W (w.heap.size + 1) ((.slice ma a.length mc)) ((.slice ba b.length bc)) := by rw [hW];exact Row.at2 _ _ _ _
 have sW : w.heap.size + 1 < W.heap.size := by rw [hW];simp
 rw [← hW]
 clear hW
 go_wp2_with (first | (refine wpList_load_row rfl 25 _ rfl _ rfl _ _ _ _ r0 Tryz.underlying25 rfl (by kernel_rfl) ?_) | fail)
 refine (cV.out _ (hh.out.below bW)).mono ?_
 rintro e w1 ⟨rfl,hb1⟩
 have B1 := Bel.to bW hb1
 have r0 := r0.keep hb1
 have r1 := r1.keep hb1
 have d3 := r0.main
 have d4 := r0.of
 have d5 := r0.bonus
 have d6 := r0.bonusOf
 have d9 := r0.system
 have x0 := r1.main
 have x1 := r1.bonus
 clear hb1 bW sW cV
 go_wp2
 go_ret
 exact ⟨rfl,B1⟩
set_option maxHeartbeats 2000000 in
set_option maxRecDepth 100000 in
theorem scheck15_s4 (g : GameD) (av tv mv bv : Value) (ms : List AddonM) (a b : List Int) (w : World) (h : GameR w av tv ms g) (hl : LineR w mv bv a b) (he : gameS g = 0) (n1 : g.main < (a.length : Int)) (n2 : (a.length : Int) ≤ g.system) (n3 : (b.length : Int) ≠ g.bonus) :
  Calls Tryz.prog 82 #[gameVal g av tv,lineVal mv bv] w (IntB 3 w) := by
 have cV := hide (fun X (hX : GameR X av tv ms g) => valid_any g av tv ms X hX)
 obtain ⟨f1,f2,f3,f4,f5,f6,f7,f8,f9⟩ := sys_bounds he
 rw [he] at cV
 have n3b : ((b.length : Int) != g.bonus) = true := by simpa using n3
 replace n3 := hide n3
 replace he := hide he
 have hh := hide h
 have hl' := hide hl
 obtain ⟨aa,ac,rfl,hal,ham⟩ := h.1.1.shape
 obtain ⟨ta,tc,rfl,htl,htm⟩ := h.2.2.shape
 obtain ⟨ma,mc,rfl,hma,hmc,-⟩ := hl.1.form
 obtain ⟨ba,bc,rfl,hba,hbc,-⟩ := hl.2.form
 unfold maxLen at hmc hbc
 clear h hl
 unfold gameVal lineVal
 go_enter Tryz.func82,Tryz.ntmps82
 go_upto_region 1 with (fail)
 obtain ⟨W,hW⟩ : ∃ W,W = ((w.alloc (Obj.cells #[.string g.name,.int .i64 g.kind,.int .i64 g.price,.int .i64 g.main,.int .i64 g.of,.int .i64 g.bonus,.int .i64 g.bonusOf,.int .i64 g.extra,.int .i64 g.draws,.int .i64 g.system,.int .i64 g.days,.int .i64 g.at_,.int .i64 g.close,.int .i64 g.cancel,.int .i64 g.expiry,.int .i64 g.pool,.int .i64 g.reserve,.int .i64 g.round,.int .i64 g.cap,.int .i64 g.rolls,(.slice aa ms.length ac),(.slice ta g.tiers.length tc)] 25)).alloc (Obj.cells #[(.slice ma a.length mc),(.slice ba b.length bc)] 53)) := ⟨_,rfl⟩
 have bW : Below w.heap.size w W := by rw [hW];exact Bel.al (Bel.al (Below.refl _ _) _) _
 have r0 : GameAt W (w.heap.size) g ((.slice aa ms.length ac)) ((.slice ta g.tiers.length tc)) := by rw [hW];exact Row.alloc (Row.new _ _ _) _
 have r1 : LineAt W (w.heap.size + 1) ((.slice ma a.length mc)) ((.slice ba b.length bc)) := by rw [hW];exact Row.at2 _ _ _ _
 have sW : w.heap.size + 1 < W.heap.size := by rw [hW];simp
 rw [← hW]
 clear hW
 go_wp2_with (first | (refine wpList_load_row rfl 25 _ rfl _ rfl _ _ _ _ r0 Tryz.underlying25 rfl (by kernel_rfl) ?_) | fail)
 refine (cV.out _ (hh.out.below bW)).mono ?_
 rintro e w1 ⟨rfl,hb1⟩
 have B1 := Bel.to bW hb1
 have r0 := r0.keep hb1
 have r1 := r1.keep hb1
 have d3 := r0.main
 have d4 := r0.of
 have d5 := r0.bonus
 have d6 := r0.bonusOf
 have d9 := r0.system
 have x0 := r1.main
 have x1 := r1.bonus
 clear hb1 bW sW cV
 go_wp2
 go_ret
 exact ⟨rfl,B1⟩
set_option maxHeartbeats 2000000 in
set_option maxRecDepth 100000 in
theorem scheck15_s5 (g : GameD) (av tv mv bv : Value) (ms : List AddonM) (a b : List Int) (w : World) (h : GameR w av tv ms g) (hl : LineR w mv bv a b) (he : gameS g = 0) (n1 : g.main < (a.length : Int)) (n2 : (a.length : Int) ≤ g.system) (n3 : (b.length : Int) = g.bonus) (ia : allB a 1 g.of = false) :
  Calls Tryz.prog 82 #[gameVal g av tv,lineVal mv bv] w (IntB 2 w) := by
 have cV := hide (fun X (hX : GameR X av tv ms g) => valid_any g av tv ms X hX)
 obtain ⟨f1,f2,f3,f4,f5,f6,f7,f8,f9⟩ := sys_bounds he
 rw [he] at cV
 have cIA := hide (fun X (hX : Below w.heap.size w X) => inside15_any mv a g.of X (hl.1.below hX))
 rw [ia] at cIA
 have n3b : ((b.length : Int) != g.bonus) = false := by simpa using n3
 replace n3 := hide n3
 replace ia := hide ia
 replace he := hide he
 have hh := hide h
 have hl' := hide hl
 obtain ⟨aa,ac,rfl,hal,ham⟩ := h.1.1.shape
 obtain ⟨ta,tc,rfl,htl,htm⟩ := h.2.2.shape
 obtain ⟨ma,mc,rfl,hma,hmc,-⟩ := hl.1.form
 obtain ⟨ba,bc,rfl,hba,hbc,-⟩ := hl.2.form
 unfold maxLen at hmc hbc
 clear h hl
 unfold gameVal lineVal
 go_enter Tryz.func82,Tryz.ntmps82
 go_upto_region 1 with (fail)
 obtain ⟨W,hW⟩ : ∃ W,W = ((w.alloc (Obj.cells #[.string g.name,.int .i64 g.kind,.int .i64 g.price,.int .i64 g.main,.int .i64 g.of,.int .i64 g.bonus,.int .i64 g.bonusOf,.int .i64 g.extra,.int .i64 g.draws,.int .i64 g.system,.int .i64 g.days,.int .i64 g.at_,.int .i64 g.close,.int .i64 g.cancel,.int .i64 g.expiry,.int .i64 g.pool,.int .i64 g.reserve,.int .i64 g.round,.int .i64 g.cap,.int .i64 g.rolls,(.slice aa ms.length ac),(.slice ta g.tiers.length tc)] 25)).alloc (Obj.cells #[(.slice ma a.length mc),(.slice ba b.length bc)] 53)) := ⟨_,rfl⟩
 have bW : Below w.heap.size w W := by rw [hW];exact Bel.al (Bel.al (Below.refl _ _) _) _
 have r0 : GameAt W (w.heap.size) g ((.slice aa ms.length ac)) ((.slice ta g.tiers.length tc)) := by rw [hW];exact Row.alloc (Row.new _ _ _) _
 have r1 : LineAt W (w.heap.size + 1) ((.slice ma a.length mc)) ((.slice ba b.length bc)) := by rw [hW];exact Row.at2 _ _ _ _
 have sW : w.heap.size + 1 < W.heap.size := by rw [hW];simp
 rw [← hW]
 clear hW
 go_wp2_with (first | (refine wpList_load_row rfl 25 _ rfl _ rfl _ _ _ _ r0 Tryz.underlying25 rfl (by kernel_rfl) ?_) | fail)
 refine (cV.out _ (hh.out.below bW)).mono ?_
 rintro e w1 ⟨rfl,hb1⟩
 have B1 := Bel.to bW hb1
 have r0 := r0.keep hb1
 have r1 := r1.keep hb1
 have d3 := r0.main
 have d4 := r0.of
 have d5 := r0.bonus
 have d6 := r0.bonusOf
 have d9 := r0.system
 have x0 := r1.main
 have x1 := r1.bonus
 clear hb1 bW sW cV
 go_wp2_with fail
 refine (cIA.out _ B1).mono ?_
 rintro e w' ⟨rfl,rfl⟩
 go_wp2
 go_ret
 exact ⟨rfl,B1⟩
set_option maxHeartbeats 2000000 in
set_option maxRecDepth 100000 in
theorem scheck15_s6 (g : GameD) (av tv mv bv : Value) (ms : List AddonM) (a b : List Int) (w : World) (h : GameR w av tv ms g) (hl : LineR w mv bv a b) (he : gameS g = 0) (n1 : g.main < (a.length : Int)) (n2 : (a.length : Int) ≤ g.system) (n3 : (b.length : Int) = g.bonus) (ia : allB a 1 g.of = true) (ib : allB b 1 g.bonusOf = false) :
  Calls Tryz.prog 82 #[gameVal g av tv,lineVal mv bv] w (IntB 2 w) := by
 have cV := hide (fun X (hX : GameR X av tv ms g) => valid_any g av tv ms X hX)
 obtain ⟨f1,f2,f3,f4,f5,f6,f7,f8,f9⟩ := sys_bounds he
 rw [he] at cV
 have cIA := hide (fun X (hX : Below w.heap.size w X) => inside15_any mv a g.of X (hl.1.below hX))
 rw [ia] at cIA
 have cIB := hide (fun X (hX : Below w.heap.size w X) => inside15_any bv b g.bonusOf X (hl.2.below hX))
 rw [ib] at cIB
 have n3b : ((b.length : Int) != g.bonus) = false := by simpa using n3
 replace n3 := hide n3
 replace ia := hide ia
 replace ib := hide ib
 replace he := hide he
 have hh := hide h
 have hl' := hide hl
 obtain ⟨aa,ac,rfl,hal,ham⟩ := h.1.1.shape
 obtain ⟨ta,tc,rfl,htl,htm⟩ := h.2.2.shape
 obtain ⟨ma,mc,rfl,hma,hmc,-⟩ := hl.1.form
 obtain ⟨ba,bc,rfl,hba,hbc,-⟩ := hl.2.form
 unfold maxLen at hmc hbc
 clear h hl
 unfold gameVal lineVal
 go_enter Tryz.func82,Tryz.ntmps82
 go_upto_region 1 with (fail)
 obtain ⟨W,hW⟩ : ∃ W,W = ((w.alloc (Obj.cells #[.string g.name,.int .i64 g.kind,.int .i64 g.price,.int .i64 g.main,.int .i64 g.of,.int .i64 g.bonus,.int .i64 g.bonusOf,.int .i64 g.extra,.int .i64 g.draws,.int .i64 g.system,.int .i64 g.days,.int .i64 g.at_,.int .i64 g.close,.int .i64 g.cancel,.int .i64 g.expiry,.int .i64 g.pool,.int .i64 g.reserve,.int .i64 g.round,.int .i64 g.cap,.int .i64 g.rolls,(.slice aa ms.length ac),(.slice ta g.tiers.length tc)] 25)).alloc (Obj.cells #[(.slice ma a.length mc),(.slice ba b.length bc)] 53)) := ⟨_,rfl⟩
 have bW : Below w.heap.size w W := by rw [hW];exact Bel.al (Bel.al (Below.refl _ _) _) _
 have r0 : GameAt W (w.heap.size) g ((.slice aa ms.length ac)) ((.slice ta g.tiers.length tc)) := by rw [hW];exact Row.alloc (Row.new _ _ _) _
 have r1 : LineAt W (w.heap.size + 1) ((.slice ma a.length mc)) ((.slice ba b.length bc)) := by rw [hW];exact Row.at2 _ _ _ _
 have sW : w.heap.size + 1 < W.heap.size := by rw [hW];simp
 rw [← hW]
 clear hW
 go_wp2_with (first | (refine wpList_load_row rfl 25 _ rfl _ rfl _ _ _ _ r0 Tryz.underlying25 rfl (by kernel_rfl) ?_) | fail)
 refine (cV.out _ (hh.out.below bW)).mono ?_
 rintro e w1 ⟨rfl,hb1⟩
 have B1 := Bel.to bW hb1
 have r0 := r0.keep hb1
 have r1 := r1.keep hb1
 have d3 := r0.main
 have d4 := r0.of
 have d5 := r0.bonus
 have d6 := r0.bonusOf
 have d9 := r0.system
 have x0 := r1.main
 have x1 := r1.bonus
 clear hb1 bW sW cV
 go_wp2_with fail
 refine (cIA.out _ B1).mono ?_
 rintro e w' ⟨rfl,rfl⟩
 go_wp2_with fail
 refine (cIB.out _ B1).mono ?_
 rintro e w' ⟨rfl,rfl⟩
 go_wp2
 go_ret
 exact ⟨rfl,B1⟩
set_option maxHeartbeats 2000000 in
set_option maxRecDepth 100000 in
theorem scheck15_s7 (g : GameD) (av tv mv bv : Value) (ms : List AddonM) (a b : List Int) (w : World) (h : GameR w av tv ms g) (hl : LineR w mv bv a b) (he : gameS g = 0) (n1 : g.main < (a.length : Int)) (n2 : (a.length : Int) ≤ g.system) (n3 : (b.length : Int) = g.bonus) (ia : allB a 1 g.of = true) (ib : allB b 1 g.bonusOf = true) (da : dupB a = true) :
  Calls Tryz.prog 82 #[gameVal g av tv,lineVal mv bv] w (IntB 6 w) := by
 have cV := hide (fun X (hX : GameR X av tv ms g) => valid_any g av tv ms X hX)
 obtain ⟨f1,f2,f3,f4,f5,f6,f7,f8,f9⟩ := sys_bounds he
 rw [he] at cV
 have cIA := hide (fun X (hX : Below w.heap.size w X) => inside15_any mv a g.of X (hl.1.below hX))
 rw [ia] at cIA
 have cIB := hide (fun X (hX : Below w.heap.size w X) => inside15_any bv b g.bonusOf X (hl.2.below hX))
 rw [ib] at cIB
 have cDA := hide (fun X (hX : Below w.heap.size w X) => repeated15_any mv a X (hl.1.below hX) (all_80 ia f4))
 rw [da] at cDA
 have n3b : ((b.length : Int) != g.bonus) = false := by simpa using n3
 replace n3 := hide n3
 replace ia := hide ia
 replace ib := hide ib
 replace da := hide da
 replace he := hide he
 have hh := hide h
 have hl' := hide hl
 obtain ⟨aa,ac,rfl,hal,ham⟩ := h.1.1.shape
 obtain ⟨ta,tc,rfl,htl,htm⟩ := h.2.2.shape
 obtain ⟨ma,mc,rfl,hma,hmc,-⟩ := hl.1.form
 obtain ⟨ba,bc,rfl,hba,hbc,-⟩ := hl.2.form
 unfold maxLen at hmc hbc
 clear h hl
 unfold gameVal lineVal
 go_enter Tryz.func82,Tryz.ntmps82
 go_upto_region 1 with (fail)
 obtain ⟨W,hW⟩ : ∃ W,W = ((w.alloc (Obj.cells #[.string g.name,.int .i64 g.kind,.int .i64 g.price,.int .i64 g.main,.int .i64 g.of,.int .i64 g.bonus,.int .i64 g.bonusOf,.int .i64 g.extra,.int .i64 g.draws,.int .i64 g.system,.int .i64 g.days,.int .i64 g.at_,.int .i64 g.close,.int .i64 g.cancel,.int .i64 g.expiry,.int .i64 g.pool,.int .i64 g.reserve,.int .i64 g.round,.int .i64 g.cap,.int .i64 g.rolls,(.slice aa ms.length ac),(.slice ta g.tiers.length tc)] 25)).alloc (Obj.cells #[(.slice ma a.length mc),(.slice ba b.length bc)] 53)) := ⟨_,rfl⟩
 have bW : Below w.heap.size w W := by rw [hW];exact Bel.al (Bel.al (Below.refl _ _) _) _
 have r0 : GameAt W (w.heap.size) g ((.slice aa ms.length ac)) ((.slice ta g.tiers.length tc)) := by rw [hW];exact Row.alloc (Row.new _ _ _) _
 have r1 : LineAt W (w.heap.size + 1) ((.slice ma a.length mc)) ((.slice ba b.length bc)) := by rw [hW];exact Row.at2 _ _ _ _
 have sW : w.heap.size + 1 < W.heap.size := by rw [hW];simp
 rw [← hW]
 clear hW
 go_wp2_with (first | (refine wpList_load_row rfl 25 _ rfl _ rfl _ _ _ _ r0 Tryz.underlying25 rfl (by kernel_rfl) ?_) | fail)
 refine (cV.out _ (hh.out.below bW)).mono ?_
 rintro e w1 ⟨rfl,hb1⟩
 have B1 := Bel.to bW hb1
 have r0 := r0.keep hb1
 have r1 := r1.keep hb1
 have d3 := r0.main
 have d4 := r0.of
 have d5 := r0.bonus
 have d6 := r0.bonusOf
 have d9 := r0.system
 have x0 := r1.main
 have x1 := r1.bonus
 clear hb1 bW sW cV
 go_wp2_with fail
 refine (cIA.out _ B1).mono ?_
 rintro e w' ⟨rfl,rfl⟩
 go_wp2_with fail
 refine (cIB.out _ B1).mono ?_
 rintro e w' ⟨rfl,rfl⟩
 go_wp2_with fail
 refine (cDA.out _ B1).mono ?_
 rintro e w2 ⟨rfl,hb2⟩
 have B2 := Bel.to B1 hb2
 replace r1 := r1.keep hb2
 have x1 := r1.bonus
 clear hb2
 go_wp2
 go_ret
 exact ⟨rfl,B2⟩
set_option maxHeartbeats 2000000 in
set_option maxRecDepth 100000 in
theorem scheck15_s8 (g : GameD) (av tv mv bv : Value) (ms : List AddonM) (a b : List Int) (w : World) (h : GameR w av tv ms g) (hl : LineR w mv bv a b) (he : gameS g = 0) (n1 : g.main < (a.length : Int)) (n2 : (a.length : Int) ≤ g.system) (n3 : (b.length : Int) = g.bonus) (ia : allB a 1 g.of = true) (ib : allB b 1 g.bonusOf = true) (da : dupB a = false) (db : dupB b = true) :
  Calls Tryz.prog 82 #[gameVal g av tv,lineVal mv bv] w (IntB 6 w) := by
 have cV := hide (fun X (hX : GameR X av tv ms g) => valid_any g av tv ms X hX)
 obtain ⟨f1,f2,f3,f4,f5,f6,f7,f8,f9⟩ := sys_bounds he
 rw [he] at cV
 have cIA := hide (fun X (hX : Below w.heap.size w X) => inside15_any mv a g.of X (hl.1.below hX))
 rw [ia] at cIA
 have cIB := hide (fun X (hX : Below w.heap.size w X) => inside15_any bv b g.bonusOf X (hl.2.below hX))
 rw [ib] at cIB
 have cDA := hide (fun X (hX : Below w.heap.size w X) => repeated15_any mv a X (hl.1.below hX) (all_80 ia f4))
 rw [da] at cDA
 have cDB := hide (fun X (hX : Below w.heap.size w X) => repeated15_any bv b X (hl.2.below hX) (all_80 ib f6))
 rw [db] at cDB
 have n3b : ((b.length : Int) != g.bonus) = false := by simpa using n3
 replace n3 := hide n3
 replace ia := hide ia
 replace ib := hide ib
 replace da := hide da
 replace db := hide db
 replace he := hide he
 have hh := hide h
 have hl' := hide hl
 obtain ⟨aa,ac,rfl,hal,ham⟩ := h.1.1.shape
 obtain ⟨ta,tc,rfl,htl,htm⟩ := h.2.2.shape
 obtain ⟨ma,mc,rfl,hma,hmc,-⟩ := hl.1.form
 obtain ⟨ba,bc,rfl,hba,hbc,-⟩ := hl.2.form
 unfold maxLen at hmc hbc
 clear h hl
 unfold gameVal lineVal
 go_enter Tryz.func82,Tryz.ntmps82
 go_upto_region 1 with (fail)
 obtain ⟨W,hW⟩ : ∃ W,W = ((w.alloc (Obj.cells #[.string g.name,.int .i64 g.kind,.int .i64 g.price,.int .i64 g.main,.int .i64 g.of,.int .i64 g.bonus,.int .i64 g.bonusOf,.int .i64 g.extra,.int .i64 g.draws,.int .i64 g.system,.int .i64 g.days,.int .i64 g.at_,.int .i64 g.close,.int .i64 g.cancel,.int .i64 g.expiry,.int .i64 g.pool,.int .i64 g.reserve,.int .i64 g.round,.int .i64 g.cap,.int .i64 g.rolls,(.slice aa ms.length ac),(.slice ta g.tiers.length tc)] 25)).alloc (Obj.cells #[(.slice ma a.length mc),(.slice ba b.length bc)] 53)) := ⟨_,rfl⟩
 have bW : Below w.heap.size w W := by rw [hW];exact Bel.al (Bel.al (Below.refl _ _) _) _
 have r0 : GameAt W (w.heap.size) g ((.slice aa ms.length ac)) ((.slice ta g.tiers.length tc)) := by rw [hW];exact Row.alloc (Row.new _ _ _) _
 have r1 : LineAt W (w.heap.size + 1) ((.slice ma a.length mc)) ((.slice ba b.length bc)) := by rw [hW];exact Row.at2 _ _ _ _
 have sW : w.heap.size + 1 < W.heap.size := by rw [hW];simp
 rw [← hW]
 clear hW
 go_wp2_with (first | (refine wpList_load_row rfl 25 _ rfl _ rfl _ _ _ _ r0 Tryz.underlying25 rfl (by kernel_rfl) ?_) | fail)
 refine (cV.out _ (hh.out.below bW)).mono ?_
 rintro e w1 ⟨rfl,hb1⟩
 have B1 := Bel.to bW hb1
 have r0 := r0.keep hb1
 have r1 := r1.keep hb1
 have d3 := r0.main
 have d4 := r0.of
 have d5 := r0.bonus
 have d6 := r0.bonusOf
 have d9 := r0.system
 have x0 := r1.main
 have x1 := r1.bonus
 clear hb1 bW sW cV
 go_wp2_with fail
 refine (cIA.out _ B1).mono ?_
 rintro e w' ⟨rfl,rfl⟩
 go_wp2_with fail
 refine (cIB.out _ B1).mono ?_
 rintro e w' ⟨rfl,rfl⟩
 go_wp2_with fail
 refine (cDA.out _ B1).mono ?_
 rintro e w2 ⟨rfl,hb2⟩
 have B2 := Bel.to B1 hb2
 replace r1 := r1.keep hb2
 have x1 := r1.bonus
 clear hb2
 go_wp2_with fail
 refine (cDB.out _ B2).mono ?_
 rintro e w3 ⟨rfl,hb3⟩
 have B3 := Bel.to B2 hb3
 replace r1 := r1.keep hb3
 have x1 := r1.bonus
 clear hb3
 go_wp2
 go_ret
 exact ⟨rfl,B3⟩
set_option maxHeartbeats 2000000 in
set_option maxRecDepth 100000 in
theorem scheck15_s9 (g : GameD) (av tv mv bv : Value) (ms : List AddonM) (a b : List Int) (w : World) (h : GameR w av tv ms g) (hl : LineR w mv bv a b) (he : gameS g = 0) (n1 : g.main < (a.length : Int)) (n2 : (a.length : Int) ≤ g.system) (n3 : (b.length : Int) = g.bonus) (ia : allB a 1 g.of = true) (ib : allB b 1 g.bonusOf = true) (da : dupB a = false) (db : dupB b = false) :
  Calls Tryz.prog 82 #[gameVal g av tv,lineVal mv bv] w (IntB 0 w) := by
 have cV := hide (fun X (hX : GameR X av tv ms g) => valid_any g av tv ms X hX)
 obtain ⟨f1,f2,f3,f4,f5,f6,f7,f8,f9⟩ := sys_bounds he
 rw [he] at cV
 have cIA := hide (fun X (hX : Below w.heap.size w X) => inside15_any mv a g.of X (hl.1.below hX))
 rw [ia] at cIA
 have cIB := hide (fun X (hX : Below w.heap.size w X) => inside15_any bv b g.bonusOf X (hl.2.below hX))
 rw [ib] at cIB
 have cDA := hide (fun X (hX : Below w.heap.size w X) => repeated15_any mv a X (hl.1.below hX) (all_80 ia f4))
 rw [da] at cDA
 have cDB := hide (fun X (hX : Below w.heap.size w X) => repeated15_any bv b X (hl.2.below hX) (all_80 ib f6))
 rw [db] at cDB
 have n3b : ((b.length : Int) != g.bonus) = false := by simpa using n3
 replace n3 := hide n3
 replace ia := hide ia
 replace ib := hide ib
 replace da := hide da
 replace db := hide db
 replace he := hide he
 have hh := hide h
 have hl' := hide hl
 obtain ⟨aa,ac,rfl,hal,ham⟩ := h.1.1.shape
 obtain ⟨ta,tc,rfl,htl,htm⟩ := h.2.2.shape
 obtain ⟨ma,mc,rfl,hma,hmc,-⟩ := hl.1.form
 obtain ⟨ba,bc,rfl,hba,hbc,-⟩ := hl.2.form
 unfold maxLen at hmc hbc
 clear h hl
 unfold gameVal lineVal
 go_enter Tryz.func82,Tryz.ntmps82
 go_upto_region 1 with (fail)
 obtain ⟨W,hW⟩ : ∃ W,W = ((w.alloc (Obj.cells #[.string g.name,.int .i64 g.kind,.int .i64 g.price,.int .i64 g.main,.int .i64 g.of,.int .i64 g.bonus,.int .i64 g.bonusOf,.int .i64 g.extra,.int .i64 g.draws,.int .i64 g.system,.int .i64 g.days,.int .i64 g.at_,.int .i64 g.close,.int .i64 g.cancel,.int .i64 g.expiry,.int .i64 g.pool,.int .i64 g.reserve,.int .i64 g.round,.int .i64 g.cap,.int .i64 g.rolls,(.slice aa ms.length ac),(.slice ta g.tiers.length tc)] 25)).alloc (Obj.cells #[(.slice ma a.length mc),(.slice ba b.length bc)] 53)) := ⟨_,rfl⟩
 have bW : Below w.heap.size w W := by rw [hW];exact Bel.al (Bel.al (Below.refl _ _) _) _
 have r0 : GameAt W (w.heap.size) g ((.slice aa ms.length ac)) ((.slice ta g.tiers.length tc)) := by rw [hW];exact Row.alloc (Row.new _ _ _) _
 have r1 : LineAt W (w.heap.size + 1) ((.slice ma a.length mc)) ((.slice ba b.length bc)) := by rw [hW];exact Row.at2 _ _ _ _
 have sW : w.heap.size + 1 < W.heap.size := by rw [hW];simp
 rw [← hW]
 clear hW
 go_wp2_with (first | (refine wpList_load_row rfl 25 _ rfl _ rfl _ _ _ _ r0 Tryz.underlying25 rfl (by kernel_rfl) ?_) | fail)
 refine (cV.out _ (hh.out.below bW)).mono ?_
 rintro e w1 ⟨rfl,hb1⟩
 have B1 := Bel.to bW hb1
 have r0 := r0.keep hb1
 have r1 := r1.keep hb1
 have d3 := r0.main
 have d4 := r0.of
 have d5 := r0.bonus
 have d6 := r0.bonusOf
 have d9 := r0.system
 have x0 := r1.main
 have x1 := r1.bonus
 clear hb1 bW sW cV
 go_wp2_with fail
 refine (cIA.out _ B1).mono ?_
 rintro e w' ⟨rfl,rfl⟩
 go_wp2_with fail
 refine (cIB.out _ B1).mono ?_
 rintro e w' ⟨rfl,rfl⟩
 go_wp2_with fail
 refine (cDA.out _ B1).mono ?_
 rintro e w2 ⟨rfl,hb2⟩
 have B2 := Bel.to B1 hb2
 replace r1 := r1.keep hb2
 have x1 := r1.bonus
 clear hb2
 go_wp2_with fail
 refine (cDB.out _ B2).mono ?_
 rintro e w3 ⟨rfl,hb3⟩
 have B3 := Bel.to B2 hb3
 replace r1 := r1.keep hb3
 have x1 := r1.bonus
 clear hb3
 go_wp2
 go_ret
 exact ⟨rfl,B3⟩
theorem scheck15_any (g : GameD) (av tv mv bv : Value) (ms : List AddonM) (a b : List Int) (w : World) (h : GameR w av tv ms g) (hl : LineR w mv bv a b) :
  Calls Tryz.prog 82 #[gameVal g av tv,lineVal mv bv] w (IntB (sysE g a b) w) := by
 unfold sysE
 by_cases he : gameS g = 0
 ·rw [if_neg (by simpa using he)]
  by_cases n1 : (a.length : Int) ≤ g.main
  ·rw [if_pos (by omega)];exact scheck15_s2 g av tv mv bv ms a b w h hl he n1
  ·by_cases n2 : g.system < (a.length : Int)
   ·rw [if_pos (by omega)];exact scheck15_s3 g av tv mv bv ms a b w h hl he (by omega) n2
   ·by_cases n3 : (b.length : Int) = g.bonus
    ·rw [if_neg (by omega)]
     cases ia : allB a 1 g.of
     ·rw [if_pos (.inl rfl)];exact scheck15_s5 g av tv mv bv ms a b w h hl he (by omega) (by omega) n3 ia
     ·cases ib : allB b 1 g.bonusOf
      ·rw [if_pos (.inr rfl)];exact scheck15_s6 g av tv mv bv ms a b w h hl he (by omega) (by omega) n3 ia ib
      ·rw [if_neg (by simp)]
       cases da : dupB a
       ·cases db : dupB b
        ·rw [if_neg (by simp)];exact scheck15_s9 g av tv mv bv ms a b w h hl he (by omega) (by omega) n3 ia ib da db
        ·rw [if_pos (.inr rfl)];exact scheck15_s8 g av tv mv bv ms a b w h hl he (by omega) (by omega) n3 ia ib da db
       ·rw [if_pos (.inl rfl)];exact scheck15_s7 g av tv mv bv ms a b w h hl he (by omega) (by omega) n3 ia ib da
    ·rw [if_pos (by omega)];exact scheck15_s4 g av tv mv bv ms a b w h hl he (by omega) (by omega) n3
 ·rw [if_pos (by simpa using he)];exact scheck15_s1 g av tv mv bv ms a b w h hl he
set_option maxHeartbeats 2000000 in
set_option maxRecDepth 100000 in
theorem scount15_any (g : GameD) (av tv mv bv : Value) (ms : List AddonM) (a b : List Int) (w : World) (h : GameR w av tv ms g) (hl : LineR w mv bv a b) :
  Calls Tryz.prog 52 #[gameVal g av tv,lineVal mv bv] w (IntC (sysP g a b).1 (sysP g a b).2 w) := by
 have cV := hide (fun X (hX : Below w.heap.size w X) => scheck15_any g av tv mv bv ms a b X (h.below hX) (hl.below hX))
 unfold sysP
 by_cases he : sysE g a b = 0
 ·rw [if_pos he]
  rw [he] at cV
  obtain ⟨g1,g2,g3,g4,g5,g6,g7,g8⟩ := sysE_ok he
  obtain ⟨f1,f2,f3,f4,f5,f6,f7,f8,f9⟩ := sys_bounds g1
  obtain ⟨K,hK⟩ := Int.eq_ofNat_of_zero_le (show 0 ≤ g.main by omega)
  have hc14 := choose_small (n := a.length) (k := K) (by omega)
  have cC := fun X => count_any (a.length : Int) (K : Int) X
  rw [countV_fit rfl rfl (by omega) (by omega)] at cC
  rw [hK,Int.toNat_natCast]
  obtain ⟨q,hq⟩ : ∃ q,q = choose a.length K := ⟨_,rfl⟩
  rw [← hq] at cC ⊢
  replace cC := hide cC
  clear hq
  replace hK := hide hK
  replace he := hide he
  clear g1 g2 g3 g4 g5 g6 g7 g8 f1 f2 f3 f4 f5 f6 f7 f8 f9 hc14
  have hh := hide h
  have hl' := hide hl
  obtain ⟨aa,ac,rfl,hal,ham⟩ := h.1.1.shape
  obtain ⟨ta,tc,rfl,htl,htm⟩ := h.2.2.shape
  obtain ⟨ma,mc,rfl,hma,hmc,-⟩ := hl.1.form
  obtain ⟨ba,bc,rfl,hba,hbc,-⟩ := hl.2.form
  unfold maxLen at hmc hbc
  clear h hl
  unfold gameVal lineVal
  go_enter Tryz.func52,Tryz.ntmps52
  go_upto_region 1 with (fail)
  obtain ⟨W,hW⟩ : ∃ W,W = ((w.alloc (Obj.cells #[.string g.name,.int .i64 g.kind,.int .i64 g.price,.int .i64 g.main,.int .i64 g.of,.int .i64 g.bonus,.int .i64 g.bonusOf,.int .i64 g.extra,.int .i64 g.draws,.int .i64 g.system,.int .i64 g.days,.int .i64 g.at_,.int .i64 g.close,.int .i64 g.cancel,.int .i64 g.expiry,.int .i64 g.pool,.int .i64 g.reserve,.int .i64 g.round,.int .i64 g.cap,.int .i64 g.rolls,(.slice aa ms.length ac),(.slice ta g.tiers.length tc)] 25)).alloc (Obj.cells #[(.slice ma a.length mc),(.slice ba b.length bc)] 53)) := ⟨_,rfl⟩
  have bW : Below w.heap.size w W := by rw [hW];exact Bel.al (Bel.al (Below.refl _ _) _) _
  have r0 : GameAt W (w.heap.size) g ((.slice aa ms.length ac)) ((.slice ta g.tiers.length tc)) := by rw [hW];exact Row.alloc (Row.new _ _ _) _
  have r1 : LineAt W (w.heap.size + 1) ((.slice ma a.length mc)) ((.slice ba b.length bc)) := by rw [hW];exact Row.at2 _ _ _ _
  have sW : w.heap.size + 1 < W.heap.size := by rw [hW];simp
  rw [← hW]
  clear hW
  go_wp2_with (first | (refine wpList_load_row rfl 25 _ rfl _ rfl _ _ _ _ r0 Tryz.underlying25 rfl (by kernel_rfl) ?_) | (refine wpList_load_row rfl 53 _ rfl _ rfl _ _ _ _ r1 Tryz.underlying53 rfl (by kernel_rfl) ?_) | fail)
  refine (cV.out _ bW).mono ?_
  rintro e w1 ⟨rfl,hb1⟩
  have B1 := Bel.to bW hb1
  have r0 := r0.keep hb1
  have r1 := r1.keep hb1
  have d3 := r0.main
  have x0 := r1.main
  clear hb1 bW sW cV
  rw [hK.out] at d3
  go_wp2_with fail
  refine (cC.out _).mono ?_
  rintro e w2 ⟨rfl,hb2⟩
  go_wp2
  go_ret2
  exact ⟨rfl,Bel.to B1 hb2⟩
 ·rw [if_neg he]
  obtain ⟨c,hcc⟩ : ∃ c,c = sysE g a b := ⟨_,rfl⟩
  rw [← hcc] at cV he ⊢
  clear hcc
  have hcb : (c != 0) = true := by simpa using he
  replace he := hide he
  have hh := hide h
  have hl' := hide hl
  obtain ⟨aa,ac,rfl,hal,ham⟩ := h.1.1.shape
  obtain ⟨ta,tc,rfl,htl,htm⟩ := h.2.2.shape
  obtain ⟨ma,mc,rfl,hma,hmc,-⟩ := hl.1.form
  obtain ⟨ba,bc,rfl,hba,hbc,-⟩ := hl.2.form
  unfold maxLen at hmc hbc
  clear h hl
  unfold gameVal lineVal
  go_enter Tryz.func52,Tryz.ntmps52
  go_upto_region 1 with (fail)
  obtain ⟨W,hW⟩ : ∃ W,W = ((w.alloc (Obj.cells #[.string g.name,.int .i64 g.kind,.int .i64 g.price,.int .i64 g.main,.int .i64 g.of,.int .i64 g.bonus,.int .i64 g.bonusOf,.int .i64 g.extra,.int .i64 g.draws,.int .i64 g.system,.int .i64 g.days,.int .i64 g.at_,.int .i64 g.close,.int .i64 g.cancel,.int .i64 g.expiry,.int .i64 g.pool,.int .i64 g.reserve,.int .i64 g.round,.int .i64 g.cap,.int .i64 g.rolls,(.slice aa ms.length ac),(.slice ta g.tiers.length tc)] 25)).alloc (Obj.cells #[(.slice ma a.length mc),(.slice ba b.length bc)] 53)) := ⟨_,rfl⟩
  have bW : Below w.heap.size w W := by rw [hW];exact Bel.al (Bel.al (Below.refl _ _) _) _
  have r0 : GameAt W (w.heap.size) g ((.slice aa ms.length ac)) ((.slice ta g.tiers.length tc)) := by rw [hW];exact Row.alloc (Row.new _ _ _) _
  have r1 : LineAt W (w.heap.size + 1) ((.slice ma a.length mc)) ((.slice ba b.length bc)) := by rw [hW];exact Row.at2 _ _ _ _
  have sW : w.heap.size + 1 < W.heap.size := by rw [hW];simp
  rw [← hW]
  clear hW
  go_wp2_with (first | (refine wpList_load_row rfl 25 _ rfl _ rfl _ _ _ _ r0 Tryz.underlying25 rfl (by kernel_rfl) ?_) | (refine wpList_load_row rfl 53 _ rfl _ rfl _ _ _ _ r1 Tryz.underlying53 rfl (by kernel_rfl) ?_) | fail)
  refine (cV.out _ bW).mono ?_
  rintro e w1 ⟨rfl,hb1⟩
  have B1 := Bel.to bW hb1
  have r0 := r0.keep hb1
  have r1 := r1.keep hb1
  have d3 := r0.main
  have x0 := r1.main
  clear hb1 bW sW cV
  go_wp2
  go_ret2
  exact ⟨rfl,B1⟩
end Go.Proofs.YtelgllgaofjgjaaGreat
end

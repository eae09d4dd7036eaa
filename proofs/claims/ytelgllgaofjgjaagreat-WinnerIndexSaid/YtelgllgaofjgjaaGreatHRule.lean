/- Lemmas, merged out of smaller texts (wip/tools/mergedce.py). No condition. -/
import Derived.BigQuiet
import Derived.Deep.RegionHeld3
import Derived.Deep.DeepCutAuto
import Derived.Laws.Rows
import Derived.Deep.MidRow
import Derived.Deep.RegionWith
import Derived.WalkMore
import Derived.Deep.LoopGhost
import Derived.Test.YtelgllgaofjgjaaGreatHCore
section
open Go.RowKit
set_option linter.unusedVariables false
set_option linter.unusedSimpArgs false
namespace Go.Proofs.YtelgllgaofjgjaaGreat
def RdS {α : Type} (sz : Nat) (V : α → List Value) (w : World) (v : Value) (l : List α) : Prop :=
 ∃ ao cap,v = .slice ao l.length cap ∧ l.length ≤ cap ∧ cap ≤ maxLen ∧ (0 < l.length → ∃ b off,ao = some ⟨b,off,none⟩ ∧ b < w.heap.size ∧
  ∀ i x,l[i]? = some x → ∀ j u,(V x)[j]? = some u → w.cell? ⟨b,off + i * sz + j,none⟩ = some u)
section
variable {α : Type} {sz : Nat} {V : α → List Value} {w w' : World} {v : Value} {l : List α}
theorem RdS.below (h : RdS sz V w v l) (hb : Below w.heap.size w w') : RdS sz V w' v l := by
 obtain ⟨ao,cap,h1,h2,h3,h4⟩ := h
 refine ⟨ao,cap,h1,h2,h3,fun hp => ?_⟩
 obtain ⟨b,off,h5,h6,h7⟩ := h4 hp
 exact ⟨b,off,h5,Nat.lt_of_lt_of_le h6 hb.size,fun i x hx j u hu => (hb.cell (by exact h6)).trans (h7 i x hx j u hu)⟩
theorem RdS.shape (h : RdS sz V w v l) : ∃ ao cap,v = .slice ao l.length cap ∧ l.length ≤ cap ∧ cap ≤ maxLen := by
 obtain ⟨ao,cap,h1,h2,h3,-⟩ := h
 exact ⟨ao,cap,h1,h2,h3⟩
theorem RdS.at_ {ao : Option Addr} {n cap i : Nat} (h : RdS sz V w (.slice ao n cap) l) (hi : i < l.length) :
  ∃ b off,ao = some ⟨b,off,none⟩ ∧ b < w.heap.size ∧ ∀ i x,l[i]? = some x → ∀ j u,(V x)[j]? = some u → w.cell? ⟨b,off + i * sz + j,none⟩ = some u := by
 obtain ⟨ao',cap',h1,h2,h3,h4⟩ := h
 injection h1 with h1 _ _
 subst h1
 obtain ⟨b,off,h5,h6,h7⟩ := h4 (by omega)
 exact ⟨b,off,h5,h6,h7⟩
theorem RdS.take (h : RdS sz V w v l) {ao : Option Addr} {cap n c : Nat} (hv : v = .slice ao l.length cap) (hn : n ≤ l.length) (hnc : n ≤ c) (hc : c ≤ maxLen) : RdS sz V w (.slice ao n c) (l.take n) := by
 obtain ⟨ao',cap',h1,h2,h3,h4⟩ := h
 rw [hv] at h1
 injection h1 with h1 _ _
 subst h1
 have hl : (l.take n).length = n := by rw [List.length_take];omega
 refine ⟨ao,c,by rw [hl],by omega,hc,fun hp => ?_⟩
 obtain ⟨b,off,h5,h6,h7⟩ := h4 (by omega)
 refine ⟨b,off,h5,h6,fun i x hx j u hu => ?_⟩
 rw [List.getElem?_take] at hx
 split at hx
 ·exact h7 i x hx j u hu
 ·cases hx
end
theorem alloc_size (w : World) (o : Obj) : (w.alloc o).heap.size = w.heap.size + 1 := by simp
theorem Row.at2 (w : World) (o : Obj) (t : TypeId) (cs : List Value) : Row ((w.alloc o).alloc (.cells cs.toArray t)) (w.heap.size + 1) t cs := by
 have := Row.new (w.alloc o) t cs
 rwa [alloc_size] at this
theorem Row.at3 (w : World) (o o' : Obj) (t : TypeId) (cs : List Value) : Row (((w.alloc o).alloc o').alloc (.cells cs.toArray t)) (w.heap.size + 1 + 1) t cs := by
 have := Row.new ((w.alloc o).alloc o') t cs
 rwa [alloc_size,alloc_size] at this
def tierCells (t : TierD) : List Value := [.int .i64 t.main,.int .i64 t.bonus,.int .i64 t.extra,.int .i64 t.mode,.int .i64 t.kind,.int .i64 t.value]
structure AddonM where
 d : AddonD
 fv : Value
 pv : Value
def AddonM.cells (m : AddonM) : List Value := [.string m.d.name,.int .i64 m.d.kind,.int .i64 m.d.price,m.fv,.int .i64 m.d.digits,m.pv]
def AddonR (w : World) (m : AddonM) : Prop := Rd I64 w m.fv m.d.factors ∧ Rd I64 w m.pv m.d.prizes
theorem AddonR.below {w w' : World} {m : AddonM} (h : AddonR w m) (hb : Below w.heap.size w w') : AddonR w' m := ⟨h.1.below hb,h.2.below hb⟩
def AddonsR (w : World) (v : Value) (ms : List AddonM) : Prop := RdS 6 AddonM.cells w v ms ∧ ∀ (i : Nat) m,ms[i]? = some m → AddonR w m
theorem AddonsR.below {w w' : World} {v : Value} {ms : List AddonM} (h : AddonsR w v ms) (hb : Below w.heap.size w w') : AddonsR w' v ms :=
 ⟨h.1.below hb,fun i m hm => (h.2 i m hm).below hb⟩
def GameR (w : World) (av tv : Value) (ms : List AddonM) (g : GameD) : Prop := AddonsR w av ms ∧ ms.map (·.d) = g.addons ∧ RdS 6 tierCells w tv g.tiers
theorem GameR.below {w w' : World} {av tv : Value} {ms : List AddonM} {g : GameD} (h : GameR w av tv ms g) (hb : Below w.heap.size w w') : GameR w' av tv ms g :=
 ⟨h.1.below hb,h.2.1,h.2.2.below hb⟩
theorem GameR.alloc {w : World} {av tv : Value} {ms : List AddonM} {g : GameD} (h : GameR w av tv ms g) (o : Obj) : GameR (w.alloc o) av tv ms g := h.below (Bel.al (Below.refl _ _) o)
def gameCells (g : GameD) (av tv : Value) : List Value :=
 [.string g.name,.int .i64 g.kind,.int .i64 g.price,.int .i64 g.main,.int .i64 g.of,.int .i64 g.bonus,.int .i64 g.bonusOf,.int .i64 g.extra,.int .i64 g.draws,.int .i64 g.system,.int .i64 g.days,.int .i64 g.at_,.int .i64 g.close,.int .i64 g.cancel,.int .i64 g.expiry,.int .i64 g.pool,.int .i64 g.reserve,.int .i64 g.round,.int .i64 g.cap,.int .i64 g.rolls,av,tv]
def gameVal (g : GameD) (av tv : Value) : Value :=
 .agg #[.string g.name,.int .i64 g.kind,.int .i64 g.price,.int .i64 g.main,.int .i64 g.of,.int .i64 g.bonus,.int .i64 g.bonusOf,.int .i64 g.extra,.int .i64 g.draws,.int .i64 g.system,.int .i64 g.days,.int .i64 g.at_,.int .i64 g.close,.int .i64 g.cancel,.int .i64 g.expiry,.int .i64 g.pool,.int .i64 g.reserve,.int .i64 g.round,.int .i64 g.cap,.int .i64 g.rolls,av,tv]
def addonVal (m : AddonM) : Value := .agg #[.string m.d.name,.int .i64 m.d.kind,.int .i64 m.d.price,m.fv,.int .i64 m.d.digits,m.pv]
def tierVal (t : TierD) : Value := .agg #[.int .i64 t.main,.int .i64 t.bonus,.int .i64 t.extra,.int .i64 t.mode,.int .i64 t.kind,.int .i64 t.value]
theorem allE_at {l : List Int} {lo hi : Int} {k : Nat} (hk : k < l.length) (h : inB l[k] lo hi = false) : allE l lo hi = 2 := by
 unfold allE
 rw [if_neg]
 intro e
 have := List.all_eq_true.1 e l[k] (List.getElem_mem hk)
 rw [h] at this;cases this
theorem allE_yes {l : List Int} {lo hi : Int} (h : ∀ k (hk : k < l.length),inB l[k] lo hi = true) : allE l lo hi = 0 := by
 unfold allE
 rw [if_pos]
 rw [List.all_eq_true]
 intro x hx
 obtain ⟨k,hk,rfl⟩ := List.getElem_of_mem hx
 exact h k hk
set_option maxHeartbeats 1000000 in
theorem checkAll_any (v : Value) (l : List Int) (lo hi : Int) (w : World) (h : Rd I64 w v l) :
  Calls Tryz.prog 116 #[v,.int .i64 lo,.int .i64 hi] w (Pure (.int .i64 (allE l lo hi)) w) := by
 obtain ⟨ao,cap,rfl,hle,hmax,hrd⟩ := Rd.form h
 have hmax2 : cap ≤ 9223372036854775807 := by unfold maxLen at hmax;omega
 go_enter Tryz.func116,Tryz.ntmps116
 go_wp2
 go_loopg [11] l.length (fun g t wr => ∃ (i : Nat),g = l.length - i ∧ i ≤ l.length ∧ t = .int .i64 i ∧ w = wr ∧ ∀ k (hk : k < l.length),k < i → inB l[k] lo hi = true)
 case atStart => exact ⟨0,rfl,Nat.zero_le _,rfl,rfl,fun k hk hki => absurd hki (Nat.not_lt_zero _)⟩
 case round =>
  obtain ⟨i,hg,hi',rfl,rfl,hall⟩ := hrel
  replace hg := hide hg
  replace hall := hide hall
  by_cases hlt : i < l.length
  ·have hlt2 := hide hlt
   obtain ⟨b,off,rfl,hbb,hcell⟩ := hrd.at_ hlt
   have i1 : (0 : Int) ≤ (i : Int) := by omega
   have i2 : (i : Int) < (l.length : Int) := by omega
   obtain ⟨x,hx,c1⟩ : ∃ x,x = l[i] ∧ w.cell? ⟨b,off + i,none⟩ = some (.int .i64 x) := ⟨_,rfl,hcell _ hlt⟩
   clear hcell
   by_cases hin : inB l[i] lo hi = true
   ·have hnext : ∀ k (hk : k < l.length),k < i + 1 → inB l[k] lo hi = true := by
     intro k hk hki
     rcases Nat.lt_succ_iff_lt_or_eq.1 hki with h | rfl
     ·exact hall.out k hk h
     ·exact hin
    replace hnext := hide hnext
    rw [← hx] at hin
    replace hx := hide hx
    go_wp2_with fail
    refine (within_any _ _ _ _).mono ?_
    rintro e w' ⟨rfl,rfl⟩
    rw [hin]
    go_wp2
    go_roundg (l.length - (i + 1))
    case measure => have := hg.out;omega
    case rel => exact ⟨i + 1,rfl,by have := hlt2.out;omega,by go_num,rfl,hnext.out⟩
   ·have hin' : inB l[i] lo hi = false := by simpa using hin
    have hr := hide (allE_at hlt hin')
    rw [← hx] at hin'
    clear hin
    replace hx := hide hx
    go_wp2_with fail
    refine (within_any _ _ _ _).mono ?_
    rintro e w' ⟨rfl,rfl⟩
    rw [hin']
    go_wp2
    go_ret
    rw [hr.out]
    exact ⟨rfl,rfl⟩
  ·have hr := hide (allE_yes (lo := lo) (hi := hi) (fun k hk => hall.out k hk (by omega)))
   go_wp2
   go_ret
   rw [hr.out]
   exact ⟨rfl,rfl⟩
theorem chooseT_any (g : GameD) (t : TierD) (av tv : Value) (w : World) :
  Calls Tryz.prog 117 #[gameVal g av tv,tierVal t] w (IntB (chooseTE g t) w) := by
 obtain ⟨gname,gkind,gprice,gmain,gof,gbonus,gbonusOf,gextra,gdraws,gsystem,gdays,gat,gclose,gcancel,gexpiry,gpool,greserve,ground,gcap,grolls,ga,gt⟩ := g
 obtain ⟨tmain,tbonus,textra,tmode,tkind,tvalue⟩ := t
 unfold gameVal tierVal chooseTE
 simp only []
 go_enter Tryz.func117,Tryz.ntmps117
 go_wp2_with (first | (go_at_call 98;refine (within_any _ _ _ _).mono ?_;rintro e w' ⟨rfl,rfl⟩) | fail)
 all_goals
  go_ret
  refine ⟨ret_int ?_,by first | exact Bel.al (Bel.al (Below.refl _ _) _) _ | exact Below.drew (Bel.al (Bel.al (Below.refl _ _) _) _) | exact Bel.drN (Bel.al (Bel.al (Below.refl _ _) _) _) _⟩
  simp_all
theorem mode_cases {m : Int} (h : ¬ (m = 1 ∨ m = 2 ∨ m = 3 ∨ m = 4)) : inB m 1 4 = false := decide_eq_false (by omega)
set_option maxHeartbeats 1000000 in
theorem digitsT_any (g : GameD) (t : TierD) (av tv : Value) (w : World) :
  Calls Tryz.prog 118 #[gameVal g av tv,tierVal t] w (IntB (digitsTE g t) w) := by
 obtain ⟨gname,gkind,gprice,gmain,gof,gbonus,gbonusOf,gextra,gdraws,gsystem,gdays,gat,gclose,gcancel,gexpiry,gpool,greserve,ground,gcap,grolls,ga,gt⟩ := g
 obtain ⟨tmain,tbonus,textra,tmode,tkind,tvalue⟩ := t
 unfold gameVal tierVal digitsTE
 simp only []
 by_cases hm : tmode = 1 ∨ tmode = 2 ∨ tmode = 3 ∨ tmode = 4
 ·rcases hm with rfl | rfl | rfl | rfl
  ·simp only [show inB 1 1 4 = true from rfl,show inB 2 1 4 = true from rfl,show ((1 : Int) ≤ 2) = True by simp,show ((2 : Int) ≤ 2) = True by simp,if_true]
   go_enter Tryz.func118,Tryz.ntmps118
   go_wp2_with (first | (go_at_call 98;refine (within_any _ _ _ _).mono ?_;rintro e w' ⟨rfl,rfl⟩) | fail)
   all_goals
    go_ret
    refine ⟨ret_int ?_,by first | exact Bel.al (Bel.al (Below.refl _ _) _) _ | exact Below.drew (Bel.al (Bel.al (Below.refl _ _) _) _) | exact Bel.drN (Bel.al (Bel.al (Below.refl _ _) _) _) _⟩
    simp_all
  ·simp only [show inB 1 1 4 = true from rfl,show inB 2 1 4 = true from rfl,show ((1 : Int) ≤ 2) = True by simp,show ((2 : Int) ≤ 2) = True by simp,if_true]
   go_enter Tryz.func118,Tryz.ntmps118
   go_wp2_with (first | (go_at_call 98;refine (within_any _ _ _ _).mono ?_;rintro e w' ⟨rfl,rfl⟩) | fail)
   all_goals
    go_ret
    refine ⟨ret_int ?_,by first | exact Bel.al (Bel.al (Below.refl _ _) _) _ | exact Below.drew (Bel.al (Bel.al (Below.refl _ _) _) _) | exact Bel.drN (Bel.al (Bel.al (Below.refl _ _) _) _) _⟩
    simp_all
  ·simp only [show inB 3 1 4 = true from rfl,show ((3 : Int) ≤ 2) = False by simp,if_false]
   go_enter Tryz.func118,Tryz.ntmps118
   go_wp2_with (first | (go_at_call 98;refine (within_any _ _ _ _).mono ?_;rintro e w' ⟨rfl,rfl⟩) | fail)
   all_goals (try (go_quiet (fail)))
   all_goals (try (go_wp2_with (first | (go_at_call 98;refine (within_any _ _ _ _).mono ?_;rintro e w' ⟨rfl,rfl⟩) | fail)))
   all_goals
    go_ret
    refine ⟨ret_int ?_,by first | exact Bel.al (Bel.al (Below.refl _ _) _) _ | exact Below.drew (Bel.al (Bel.al (Below.refl _ _) _) _) | exact Bel.drN (Bel.al (Bel.al (Below.refl _ _) _) _) _⟩
    simp_all
  ·simp only [show inB 4 1 4 = true from rfl,show ((4 : Int) ≤ 2) = False by simp,if_false]
   go_enter Tryz.func118,Tryz.ntmps118
   go_wp2_with (first | (go_at_call 98;refine (within_any _ _ _ _).mono ?_;rintro e w' ⟨rfl,rfl⟩) | fail)
   all_goals (try (go_quiet (fail)))
   all_goals (try (go_wp2_with (first | (go_at_call 98;refine (within_any _ _ _ _).mono ?_;rintro e w' ⟨rfl,rfl⟩) | fail)))
   all_goals
    go_ret
    refine ⟨ret_int ?_,by first | exact Bel.al (Bel.al (Below.refl _ _) _) _ | exact Below.drew (Bel.al (Bel.al (Below.refl _ _) _) _) | exact Bel.drN (Bel.al (Bel.al (Below.refl _ _) _) _) _⟩
    simp_all
 ·rw [if_pos (mode_cases hm)]
  simp only [not_or] at hm
  obtain ⟨h1,h2,h3,h4⟩ := hm
  go_enter Tryz.func118,Tryz.ntmps118
  go_wp2_with (first | (go_at_call 98;refine (within_any _ _ _ _).mono ?_;rintro e w' ⟨rfl,rfl⟩) | fail)
  go_ret
  exact ⟨rfl,Bel.al (Bel.al (Below.refl _ _) _) _⟩
set_option maxHeartbeats 1000000 in
theorem effMode_any (g : GameD) (t : TierD) (av tv : Value) (w : World) :
  Calls Tryz.prog 119 #[gameVal g av tv,tierVal t] w (IntB (modeV g t) w) := by
 obtain ⟨gname,gkind,gprice,gmain,gof,gbonus,gbonusOf,gextra,gdraws,gsystem,gdays,gat,gclose,gcancel,gexpiry,gpool,greserve,ground,gcap,grolls,ga,gt⟩ := g
 obtain ⟨tmain,tbonus,textra,tmode,tkind,tvalue⟩ := t
 unfold gameVal tierVal modeV
 simp only []
 go_enter Tryz.func119,Tryz.ntmps119
 go_wp2_with (first | (go_at_call 98;refine (within_any _ _ _ _).mono ?_;rintro e w' ⟨rfl,rfl⟩) | fail)
 all_goals
  go_ret
  refine ⟨ret_int ?_,by first | exact Bel.al (Bel.al (Below.refl _ _) _) _ | exact Below.drew (Bel.al (Bel.al (Below.refl _ _) _) _) | exact Bel.drN (Bel.al (Bel.al (Below.refl _ _) _) _) _⟩
  first | (rw [if_pos (by omega)];done) | (rw [if_neg (by simp_all;omega)];done) | (simp_all;done) | skip
theorem tierE_choose {g : GameD} {t : TierD} (h : g.kind ≠ 2) : tierE g t = if chooseTE g t ≠ 0 then chooseTE g t else if inB t.kind 1 3 = false then 7 else if inB t.value 0 1000000000 = false then 2 else 0 := by
 unfold tierE;simp only [if_neg h]
theorem tierE_digits {g : GameD} {t : TierD} (h : g.kind = 2) : tierE g t = if digitsTE g t ≠ 0 then digitsTE g t else if inB t.kind 1 3 = false then 7 else if inB t.value 0 1000000000 = false then 2 else 0 := by
 unfold tierE;simp only [if_pos h]
theorem kind_no {k : Int} (h : ¬ (k = 1 ∨ k = 2 ∨ k = 3)) : inB k 1 3 = false := decide_eq_false (by omega)
theorem kind_yes {k : Int} (h : k = 1 ∨ k = 2 ∨ k = 3) : inB k 1 3 = true := decide_eq_true (by omega)
set_option maxHeartbeats 2000000 in
set_option maxRecDepth 100000 in
theorem checkTier_choose (g : GameD) (t : TierD) (av tv : Value) (w : World) (hk : g.kind ≠ 2) :
  Calls Tryz.prog 100 #[gameVal g av tv,tierVal t] w (IntB (tierE g t) w) := by
 rw [tierE_choose hk]
 obtain ⟨r,hr⟩ : ∃ r,r = (if chooseTE g t ≠ 0 then chooseTE g t else if inB t.kind 1 3 = false then 7 else if inB t.value 0 1000000000 = false then 2 else 0) := ⟨_,rfl⟩
 rw [← hr]
 have c1 := hide (fun w => chooseT_any g t av tv w)
 obtain ⟨c,hc⟩ : ∃ c,c = chooseTE g t := ⟨_,rfl⟩
 rw [← hc] at hr c1
 clear hc
 obtain ⟨gname,gkind,gprice,gmain,gof,gbonus,gbonusOf,gextra,gdraws,gsystem,gdays,gat,gclose,gcancel,gexpiry,gpool,greserve,ground,gcap,grolls,ga,gt⟩ := g
 obtain ⟨tmain,tbonus,textra,tmode,tkind,tvalue⟩ := t
 simp only [] at hk hr
 unfold gameVal tierVal at c1 ⊢
 simp only [] at c1 ⊢
 replace hr := hide hr
 go_enter Tryz.func100,Tryz.ntmps100
 have hkb : (gkind == 2) = false := by simpa using hk
 replace hk := hide hk
 go_upto_region 1 with (fail)
 obtain ⟨W,hW⟩ : ∃ W,W = ((w.alloc (Obj.cells #[.string gname,.int .i64 gkind,.int .i64 gprice,.int .i64 gmain,.int .i64 gof,.int .i64 gbonus,.int .i64 gbonusOf,.int .i64 gextra,.int .i64 gdraws,.int .i64 gsystem,.int .i64 gdays,.int .i64 gat,.int .i64 gclose,.int .i64 gcancel,.int .i64 gexpiry,.int .i64 gpool,.int .i64 greserve,.int .i64 ground,.int .i64 gcap,.int .i64 grolls,av,tv] 25)).alloc (Obj.cells #[.int .i64 tmain,.int .i64 tbonus,.int .i64 textra,.int .i64 tmode,.int .i64 tkind,.int .i64 tvalue] 72)) := ⟨_,rfl⟩
 have bW : Below w.heap.size w W := by rw [hW];exact Bel.al (Bel.al (Below.refl _ _) _) _
 have r0 : Row W (w.heap.size) 25 [.string gname,.int .i64 gkind,.int .i64 gprice,.int .i64 gmain,.int .i64 gof,.int .i64 gbonus,.int .i64 gbonusOf,.int .i64 gextra,.int .i64 gdraws,.int .i64 gsystem,.int .i64 gdays,.int .i64 gat,.int .i64 gclose,.int .i64 gcancel,.int .i64 gexpiry,.int .i64 gpool,.int .i64 greserve,.int .i64 ground,.int .i64 gcap,.int .i64 grolls,av,tv] := by rw [hW];exact Row.alloc (Row.new _ _ _) _
 have c0_1 : W.cell? ⟨w.heap.size,1,none⟩ = some (.int .i64 gkind) := Row.cell r0 (i := 1) (by simp)
 have r1 : Row W (w.heap.size + 1) 72 [.int .i64 tmain,.int .i64 tbonus,.int .i64 textra,.int .i64 tmode,.int .i64 tkind,.int .i64 tvalue] := by rw [hW];exact Row.at2 _ _ _ _
 have c1_4 : W.cell? ⟨w.heap.size + 1,4,none⟩ = some (.int .i64 tkind) := Row.cell r1 (i := 4) (by simp)
 have c1_5 : W.cell? ⟨w.heap.size + 1,5,none⟩ = some (.int .i64 tvalue) := Row.cell r1 (i := 5) (by simp)
 have sW : w.heap.size + 1 < W.heap.size := by rw [hW];simp
 rw [← hW]
 clear hW
 go_wp2_with (first | (refine wpList_load_row rfl 25 _ rfl _ rfl _ _ _ _ r0 Tryz.underlying25 rfl (by kernel_rfl) ?_) | (refine wpList_load_row rfl 72 _ rfl _ rfl _ _ _ _ r1 Tryz.underlying72 rfl (by kernel_rfl) ?_) | fail)
 refine (c1.out _).mono ?_
 rintro e w1 ⟨rfl,hb1⟩
 have b1' : Below w.heap.size w w1 := Bel.to bW hb1
 have k4 := Bel.cellOf hb1 c1_4
 have k5 := Bel.cellOf hb1 c1_5
 clear hb1 c1 r0 r1 c0_1 c1_4 c1_5 bW sW
 by_cases hc0 : c = 0
 ·have e1 : tkind = 1 ∨ tkind = 2 ∨ tkind = 3 ∨ ¬ (tkind = 1 ∨ tkind = 2 ∨ tkind = 3) := by omega
  subst hc0
  rcases e1 with rfl | rfl | rfl | h
  case inr.inr.inr =>
   have hf := hide (kind_no h)
   have n1 : (tkind != 1) = true := by simp;omega
   have n2 : (tkind != 2) = true := by simp;omega
   have n3 : (tkind != 3) = true := by simp;omega
   clear h
   go_wp2
   go_ret
   refine ⟨ret_int ?_,b1'⟩
   rw [hr.out,if_neg (by simp),if_pos hf.out]
  all_goals
   go_wp2_with (first | (go_at_call 98;refine (within_any _ _ _ _).mono ?_;rintro e w' ⟨rfl,rfl⟩) | fail)
   all_goals
    go_ret
    refine ⟨ret_int ?_,b1'⟩
    rw [hr.out,if_neg (by simp),if_neg (by rw [kind_yes (by omega)];simp)]
    simp_all
 ·have hcb : (c != 0) = true := by simpa using hc0
  go_wp2
  go_ret
  refine ⟨ret_int ?_,b1'⟩
  rw [hr.out,if_pos hc0]
set_option maxHeartbeats 2000000 in
set_option maxRecDepth 100000 in
theorem checkTier_digits (g : GameD) (t : TierD) (av tv : Value) (w : World) (hk : g.kind = 2) :
  Calls Tryz.prog 100 #[gameVal g av tv,tierVal t] w (IntB (tierE g t) w) := by
 rw [tierE_digits hk]
 obtain ⟨r,hr⟩ : ∃ r,r = (if digitsTE g t ≠ 0 then digitsTE g t else if inB t.kind 1 3 = false then 7 else if inB t.value 0 1000000000 = false then 2 else 0) := ⟨_,rfl⟩
 rw [← hr]
 have c1 := hide (fun w => digitsT_any g t av tv w)
 obtain ⟨c,hc⟩ : ∃ c,c = digitsTE g t := ⟨_,rfl⟩
 rw [← hc] at hr c1
 clear hc
 obtain ⟨gname,gkind,gprice,gmain,gof,gbonus,gbonusOf,gextra,gdraws,gsystem,gdays,gat,gclose,gcancel,gexpiry,gpool,greserve,ground,gcap,grolls,ga,gt⟩ := g
 obtain ⟨tmain,tbonus,textra,tmode,tkind,tvalue⟩ := t
 simp only [] at hk hr
 unfold gameVal tierVal at c1 ⊢
 simp only [] at c1 ⊢
 replace hr := hide hr
 go_enter Tryz.func100,Tryz.ntmps100
 have hkb : (gkind == 2) = true := by simpa using hk
 replace hk := hide hk
 go_upto_region 1 with (fail)
 obtain ⟨W,hW⟩ : ∃ W,W = ((w.alloc (Obj.cells #[.string gname,.int .i64 gkind,.int .i64 gprice,.int .i64 gmain,.int .i64 gof,.int .i64 gbonus,.int .i64 gbonusOf,.int .i64 gextra,.int .i64 gdraws,.int .i64 gsystem,.int .i64 gdays,.int .i64 gat,.int .i64 gclose,.int .i64 gcancel,.int .i64 gexpiry,.int .i64 gpool,.int .i64 greserve,.int .i64 ground,.int .i64 gcap,.int .i64 grolls,av,tv] 25)).alloc (Obj.cells #[.int .i64 tmain,.int .i64 tbonus,.int .i64 textra,.int .i64 tmode,.int .i64 tkind,.int .i64 tvalue] 72)) := ⟨_,rfl⟩
 have bW : Below w.heap.size w W := by rw [hW];exact Bel.al (Bel.al (Below.refl _ _) _) _
 have r0 : Row W (w.heap.size) 25 [.string gname,.int .i64 gkind,.int .i64 gprice,.int .i64 gmain,.int .i64 gof,.int .i64 gbonus,.int .i64 gbonusOf,.int .i64 gextra,.int .i64 gdraws,.int .i64 gsystem,.int .i64 gdays,.int .i64 gat,.int .i64 gclose,.int .i64 gcancel,.int .i64 gexpiry,.int .i64 gpool,.int .i64 greserve,.int .i64 ground,.int .i64 gcap,.int .i64 grolls,av,tv] := by rw [hW];exact Row.alloc (Row.new _ _ _) _
 have c0_1 : W.cell? ⟨w.heap.size,1,none⟩ = some (.int .i64 gkind) := Row.cell r0 (i := 1) (by simp)
 have r1 : Row W (w.heap.size + 1) 72 [.int .i64 tmain,.int .i64 tbonus,.int .i64 textra,.int .i64 tmode,.int .i64 tkind,.int .i64 tvalue] := by rw [hW];exact Row.at2 _ _ _ _
 have c1_4 : W.cell? ⟨w.heap.size + 1,4,none⟩ = some (.int .i64 tkind) := Row.cell r1 (i := 4) (by simp)
 have c1_5 : W.cell? ⟨w.heap.size + 1,5,none⟩ = some (.int .i64 tvalue) := Row.cell r1 (i := 5) (by simp)
 have sW : w.heap.size + 1 < W.heap.size := by rw [hW];simp
 rw [← hW]
 clear hW
 go_wp2_with (first | (refine wpList_load_row rfl 25 _ rfl _ rfl _ _ _ _ r0 Tryz.underlying25 rfl (by kernel_rfl) ?_) | (refine wpList_load_row rfl 72 _ rfl _ rfl _ _ _ _ r1 Tryz.underlying72 rfl (by kernel_rfl) ?_) | fail)
 refine (c1.out _).mono ?_
 rintro e w1 ⟨rfl,hb1⟩
 have b1' : Below w.heap.size w w1 := Bel.to bW hb1
 have k4 := Bel.cellOf hb1 c1_4
 have k5 := Bel.cellOf hb1 c1_5
 clear hb1 c1 r0 r1 c0_1 c1_4 c1_5 bW sW
 by_cases hc0 : c = 0
 ·have e1 : tkind = 1 ∨ tkind = 2 ∨ tkind = 3 ∨ ¬ (tkind = 1 ∨ tkind = 2 ∨ tkind = 3) := by omega
  subst hc0
  rcases e1 with rfl | rfl | rfl | h
  case inr.inr.inr =>
   have hf := hide (kind_no h)
   have n1 : (tkind != 1) = true := by simp;omega
   have n2 : (tkind != 2) = true := by simp;omega
   have n3 : (tkind != 3) = true := by simp;omega
   clear h
   go_wp2
   go_ret
   refine ⟨ret_int ?_,b1'⟩
   rw [hr.out,if_neg (by simp),if_pos hf.out]
  all_goals
   go_wp2_with (first | (go_at_call 98;refine (within_any _ _ _ _).mono ?_;rintro e w' ⟨rfl,rfl⟩) | fail)
   all_goals
    go_ret
    refine ⟨ret_int ?_,b1'⟩
    rw [hr.out,if_neg (by simp),if_neg (by rw [kind_yes (by omega)];simp)]
    simp_all
 ·have hcb : (c != 0) = true := by simpa using hc0
  go_wp2
  go_ret
  refine ⟨ret_int ?_,b1'⟩
  rw [hr.out,if_pos hc0]
theorem checkTier_any (g : GameD) (t : TierD) (av tv : Value) (w : World) :
  Calls Tryz.prog 100 #[gameVal g av tv,tierVal t] w (IntB (tierE g t) w) := by
 by_cases h : g.kind = 2
 ·exact checkTier_digits g t av tv w h
 ·exact checkTier_choose g t av tv w h
theorem rangeAt_below {X X' : World} {b o : Nat} {cs : List Value} (hb : Below X.heap.size X X') (h : X.rangeAt b o cs) : X'.rangeAt b o cs := fun j v hv => Bel.cellOf hb (h j v hv)
theorem cov_keep {X X' : World} {b c d : Nat} {cs ds es : List Value} (hb : Below X.heap.size X X') (h : X.rangeAt b 0 cs ∧ X.rangeAt c 0 ds ∧ X.rangeAt d 0 es) : X'.rangeAt b 0 cs ∧ X'.rangeAt c 0 ds ∧ X'.rangeAt d 0 es :=
 ⟨rangeAt_below hb h.1,rangeAt_below hb h.2.1,rangeAt_below hb h.2.2⟩
theorem covers_choose (g : GameD) (a t : TierD) (av tv : Value) (w : World) (hk : g.kind = 1) :
  Calls Tryz.prog 101 #[gameVal g av tv,tierVal a,tierVal t] w (BoolB (coversB g a t) w) := by
 obtain ⟨r,hr⟩ : ∃ r,r = coversB g a t := ⟨_,rfl⟩
 rw [← hr]
 unfold coversB at hr
 rw [if_pos hk] at hr
 obtain ⟨gname,gkind,gprice,gmain,gof,gbonus,gbonusOf,gextra,gdraws,gsystem,gdays,gat,gclose,gcancel,gexpiry,gpool,greserve,ground,gcap,grolls,ga,gt⟩ := g
 obtain ⟨amain,abonus,aextra,amode,akind,avalue⟩ := a
 obtain ⟨tmain,tbonus,textra,tmode,tkind,tvalue⟩ := t
 simp only [] at hk hr
 unfold gameVal tierVal
 simp only []
 replace hr := hide hr
 subst hk
 go_enter Tryz.func101,Tryz.ntmps101
 go_wp2
 all_goals
  go_ret
  refine ⟨?_,Bel.al (Bel.al (Bel.al (Below.refl _ _) _) _) _⟩
  rw [hr.out]
  first | (simp_all;done) | (congr 2;simp_all;omega) | (rw [decide_eq_false (by omega)];done) | (rw [decide_eq_true (by omega)];done)
set_option maxHeartbeats 4000000 in
set_option maxRecDepth 100000 in
theorem covers_digits (g : GameD) (a t : TierD) (av tv : Value) (w : World) (hk : g.kind ≠ 1) :
  Calls Tryz.prog 101 #[gameVal g av tv,tierVal a,tierVal t] w (BoolB (coversB g a t) w) := by
 obtain ⟨r,hr⟩ : ∃ r,r = coversB g a t := ⟨_,rfl⟩
 rw [← hr]
 unfold coversB at hr
 rw [if_neg hk] at hr
 obtain ⟨gname,gkind,gprice,gmain,gof,gbonus,gbonusOf,gextra,gdraws,gsystem,gdays,gat,gclose,gcancel,gexpiry,gpool,greserve,ground,gcap,grolls,ga,gt⟩ := g
 obtain ⟨amain,abonus,aextra,amode,akind,avalue⟩ := a
 obtain ⟨tmain,tbonus,textra,tmode,tkind,tvalue⟩ := t
 obtain ⟨ma,hma⟩ : ∃ m,m = modeV ⟨gname,gkind,gprice,gmain,gof,gbonus,gbonusOf,gextra,gdraws,gsystem,gdays,gat,gclose,gcancel,gexpiry,gpool,greserve,ground,gcap,grolls,ga,gt⟩ ⟨amain,abonus,aextra,amode,akind,avalue⟩ := ⟨_,rfl⟩
 obtain ⟨mt,hmt⟩ : ∃ m,m = modeV ⟨gname,gkind,gprice,gmain,gof,gbonus,gbonusOf,gextra,gdraws,gsystem,gdays,gat,gclose,gcancel,gexpiry,gpool,greserve,ground,gcap,grolls,ga,gt⟩ ⟨tmain,tbonus,textra,tmode,tkind,tvalue⟩ := ⟨_,rfl⟩
 rw [← hma,← hmt] at hr
 simp only [] at hk hr
 unfold gameVal tierVal
 simp only []
 replace hr := hide hr
 replace hma := hide hma
 replace hmt := hide hmt
 have hkb : (gkind == 1) = false := by simpa using hk
 replace hk := hide hk
 go_enter Tryz.func101,Tryz.ntmps101
 go_upto_region 1 with (fail)
 obtain ⟨W,hW⟩ : ∃ W,W = (((w.alloc (Obj.cells #[.string gname,.int .i64 gkind,.int .i64 gprice,.int .i64 gmain,.int .i64 gof,.int .i64 gbonus,.int .i64 gbonusOf,.int .i64 gextra,.int .i64 gdraws,.int .i64 gsystem,.int .i64 gdays,.int .i64 gat,.int .i64 gclose,.int .i64 gcancel,.int .i64 gexpiry,.int .i64 gpool,.int .i64 greserve,.int .i64 ground,.int .i64 gcap,.int .i64 grolls,av,tv] 25)).alloc (Obj.cells #[.int .i64 amain,.int .i64 abonus,.int .i64 aextra,.int .i64 amode,.int .i64 akind,.int .i64 avalue] 72)).alloc (Obj.cells #[.int .i64 tmain,.int .i64 tbonus,.int .i64 textra,.int .i64 tmode,.int .i64 tkind,.int .i64 tvalue] 72)) := ⟨_,rfl⟩
 have bW : Below w.heap.size w W := by rw [hW];exact Bel.al (Bel.al (Bel.al (Below.refl _ _) _) _) _
 have r0 : Row W (w.heap.size) 25 [.string gname,.int .i64 gkind,.int .i64 gprice,.int .i64 gmain,.int .i64 gof,.int .i64 gbonus,.int .i64 gbonusOf,.int .i64 gextra,.int .i64 gdraws,.int .i64 gsystem,.int .i64 gdays,.int .i64 gat,.int .i64 gclose,.int .i64 gcancel,.int .i64 gexpiry,.int .i64 gpool,.int .i64 greserve,.int .i64 ground,.int .i64 gcap,.int .i64 grolls,av,tv] := by rw [hW];exact Row.alloc (Row.alloc (Row.new _ _ _) _) _
 have c0_1 : W.cell? ⟨w.heap.size,1,none⟩ = some (.int .i64 gkind) := Row.cell r0 (i := 1) (by simp)
 have r1 : Row W (w.heap.size + 1) 72 [.int .i64 amain,.int .i64 abonus,.int .i64 aextra,.int .i64 amode,.int .i64 akind,.int .i64 avalue] := by rw [hW];exact Row.alloc (Row.at2 _ _ _ _) _
 have c1_0 : W.cell? ⟨w.heap.size + 1,0,none⟩ = some (.int .i64 amain) := Row.cell r1 (i := 0) (by simp)
 have c1_1 : W.cell? ⟨w.heap.size + 1,1,none⟩ = some (.int .i64 abonus) := Row.cell r1 (i := 1) (by simp)
 have c1_2 : W.cell? ⟨w.heap.size + 1,2,none⟩ = some (.int .i64 aextra) := Row.cell r1 (i := 2) (by simp)
 have r2 : Row W (w.heap.size + 1 + 1) 72 [.int .i64 tmain,.int .i64 tbonus,.int .i64 textra,.int .i64 tmode,.int .i64 tkind,.int .i64 tvalue] := by rw [hW];exact Row.at3 _ _ _ _ _
 have c2_0 : W.cell? ⟨w.heap.size + 1 + 1,0,none⟩ = some (.int .i64 tmain) := Row.cell r2 (i := 0) (by simp)
 have c2_1 : W.cell? ⟨w.heap.size + 1 + 1,1,none⟩ = some (.int .i64 tbonus) := Row.cell r2 (i := 1) (by simp)
 have c2_2 : W.cell? ⟨w.heap.size + 1 + 1,2,none⟩ = some (.int .i64 textra) := Row.cell r2 (i := 2) (by simp)
 have sW : w.heap.size + 1 + 1 < W.heap.size := by rw [hW];simp
 rw [← hW]
 clear hW
 have pW : World.rangeAt W.drew (w.heap.size) 0 [.string gname,.int .i64 gkind,.int .i64 gprice,.int .i64 gmain,.int .i64 gof,.int .i64 gbonus,.int .i64 gbonusOf,.int .i64 gextra,.int .i64 gdraws,.int .i64 gsystem,.int .i64 gdays,.int .i64 gat,.int .i64 gclose,.int .i64 gcancel,.int .i64 gexpiry,.int .i64 gpool,.int .i64 greserve,.int .i64 ground,.int .i64 gcap,.int .i64 grolls,av,tv] ∧ World.rangeAt W.drew (w.heap.size + 1) 0 [.int .i64 amain,.int .i64 abonus,.int .i64 aextra,.int .i64 amode,.int .i64 akind,.int .i64 avalue] ∧ World.rangeAt W.drew (w.heap.size + 1 + 1) 0 [.int .i64 tmain,.int .i64 tbonus,.int .i64 textra,.int .i64 tmode,.int .i64 tkind,.int .i64 tvalue] := ⟨fun j v hv => by rw [Nat.zero_add];exact (Row.cell? r0 j).trans hv,fun j v hv => by rw [Nat.zero_add];exact (Row.cell? r1 j).trans hv,fun j v hv => by rw [Nat.zero_add];exact (Row.cell? r2 j).trans hv⟩
 clear c0_1 c1_0 c1_1 c1_2 c2_0 c2_1 c2_2
 have c0_1 : W.cell? ⟨w.heap.size,1,none⟩ = some (.int .i64 gkind) := Row.cell r0 (i := 1) (by simp)
 replace pW := hide pW
 go_upto_region 3 with (fail)
 go_cut [7,8] (fun x y X => x = .int .i64 ma ∧ y = .int .i64 mt ∧ X.cell? ⟨w.heap.size + 1,0,none⟩ = some (.int .i64 amain) ∧ X.cell? ⟨w.heap.size + 1 + 1,0,none⟩ = some (.int .i64 tmain) ∧ Below w.heap.size w X)
 case first =>
  have pV := pW.out
  refine wp_region_held_drew (S := fun X => World.rangeAt X (w.heap.size) 0 [.string gname,.int .i64 gkind,.int .i64 gprice,.int .i64 gmain,.int .i64 gof,.int .i64 gbonus,.int .i64 gbonusOf,.int .i64 gextra,.int .i64 gdraws,.int .i64 gsystem,.int .i64 gdays,.int .i64 gat,.int .i64 gclose,.int .i64 gcancel,.int .i64 gexpiry,.int .i64 gpool,.int .i64 greserve,.int .i64 ground,.int .i64 gcap,.int .i64 grolls,av,tv] ∧ World.rangeAt X (w.heap.size + 1) 0 [.int .i64 amain,.int .i64 abonus,.int .i64 aextra,.int .i64 amode,.int .i64 akind,.int .i64 avalue] ∧ World.rangeAt X (w.heap.size + 1 + 1) 0 [.int .i64 tmain,.int .i64 tbonus,.int .i64 textra,.int .i64 tmode,.int .i64 tkind,.int .i64 tvalue]) (by kernel_rfl) pV (fun hHeld => ?_)
  refine' wpAnyH_take (i := 0) (oi := _) (v := _) rfl (by kernel_rfl) (by kernel_rfl) (by kernel_rfl) (fun _ _ _ h => h) (yieldsIf_load_mid (by rfl) 25 _ rfl _ _ rfl [.string gname,.int .i64 gkind,.int .i64 gprice,.int .i64 gmain,.int .i64 gof,.int .i64 gbonus,.int .i64 gbonusOf,.int .i64 gextra,.int .i64 gdraws,.int .i64 gsystem,.int .i64 gdays,.int .i64 gat,.int .i64 gclose,.int .i64 gcancel,.int .i64 gexpiry,.int .i64 gpool,.int .i64 greserve,.int .i64 ground,.int .i64 gcap,.int .i64 grolls,av,tv] _ (fun X h => h.1) Tryz.underlying25 rfl (by kernel_rfl)) hHeld ?_
  try simp only [Act.put,zsA,zsB,zsC]
  refine' wpAnyH_take (i := 1) (oi := _) (v := _) rfl (by kernel_rfl) (by kernel_rfl) (by kernel_rfl) (fun _ _ _ h => h) (yieldsIf_load_mid (by rfl) 72 _ rfl _ _ rfl [.int .i64 amain,.int .i64 abonus,.int .i64 aextra,.int .i64 amode,.int .i64 akind,.int .i64 avalue] _ (fun X h => h.2.1) Tryz.underlying72 rfl (by kernel_rfl)) hHeld ?_
  try simp only [Act.put,zsA,zsB,zsC]
  refine' wpAnyH_take (i := 3) (oi := _) (v := _) rfl (by kernel_rfl) (by kernel_rfl) (by kernel_rfl) (fun _ _ _ h => h) (yieldsIf_load_mid (by rfl) 25 _ rfl _ _ rfl [.string gname,.int .i64 gkind,.int .i64 gprice,.int .i64 gmain,.int .i64 gof,.int .i64 gbonus,.int .i64 gbonusOf,.int .i64 gextra,.int .i64 gdraws,.int .i64 gsystem,.int .i64 gdays,.int .i64 gat,.int .i64 gclose,.int .i64 gcancel,.int .i64 gexpiry,.int .i64 gpool,.int .i64 greserve,.int .i64 ground,.int .i64 gcap,.int .i64 grolls,av,tv] _ (fun X h => h.1) Tryz.underlying25 rfl (by kernel_rfl)) hHeld ?_
  try simp only [Act.put,zsA,zsB,zsC]
  refine' wpAnyH_take (i := 4) (oi := _) (v := _) rfl (by kernel_rfl) (by kernel_rfl) (by kernel_rfl) (fun _ _ _ h => h) (yieldsIf_load_mid (by rfl) 72 _ rfl _ _ rfl [.int .i64 tmain,.int .i64 tbonus,.int .i64 textra,.int .i64 tmode,.int .i64 tkind,.int .i64 tvalue] _ (fun X h => h.2.2) Tryz.underlying72 rfl (by kernel_rfl)) hHeld ?_
  try simp only [Act.put,zsA,zsB,zsC]
  refine wpAnyH_ready (rs := [2]) (by kernel_rfl) (by simp) ?_
  refine AllReadyH.cons (o := _) rfl (fun K hK => ?_) AllReadyH.nil
  ·
   go_simp
   refine (effMode_any ⟨gname,gkind,gprice,gmain,gof,gbonus,gbonusOf,gextra,gdraws,gsystem,gdays,gat,gclose,gcancel,gexpiry,gpool,greserve,ground,gcap,grolls,ga,gt⟩ ⟨amain,abonus,aextra,amode,akind,avalue⟩ av tv _).mono ?_
   rintro e wa ⟨rfl,hba⟩
   have Ba := Bel.to (Below.drew bW) hba
   have pa := cov_keep hba pV
   go_wp2_with fail
   refine hK.out _ _ pa (fun hHeld => ?_)
   clear hK K
   try simp only [Act.put,zsA,zsB,zsC]
   refine wpAnyH_ready (rs := [5]) (by kernel_rfl) (by simp) ?_
   refine AllReadyH.cons (o := _) rfl (fun K hK => ?_) AllReadyH.nil
   go_simp
   refine (effMode_any ⟨gname,gkind,gprice,gmain,gof,gbonus,gbonusOf,gextra,gdraws,gsystem,gdays,gat,gclose,gcancel,gexpiry,gpool,greserve,ground,gcap,grolls,ga,gt⟩ ⟨tmain,tbonus,textra,tmode,tkind,tvalue⟩ av tv _).mono ?_
   rintro e wt ⟨rfl,hbt⟩
   have Bt := Bel.to Ba hbt
   have pt := cov_keep hbt pa
   go_wp2_with fail
   refine hK.out _ _ pt (fun hHeld => ?_)
   clear hK K
   try simp only [Act.put,zsA,zsB,zsC]
   refine' wpAnyH_take (i := 6) (oi := _) (v := .int .i64 (modeV ⟨gname,gkind,gprice,gmain,gof,gbonus,gbonusOf,gextra,gdraws,gsystem,gdays,gat,gclose,gcancel,gexpiry,gpool,greserve,ground,gcap,grolls,ga,gt⟩ ⟨amain,abonus,aextra,amode,akind,avalue⟩)) rfl (by kernel_rfl) (by kernel_rfl) (by kernel_rfl) (fun _ _ _ h => h) (Or.inl ⟨by rfl,fun X _ => by go_simp⟩) hHeld ?_
   try simp only [Act.put,zsA,zsB,zsC]
   refine' wpAnyH_take (i := 7) (oi := _) (v := .int .i64 (modeV ⟨gname,gkind,gprice,gmain,gof,gbonus,gbonusOf,gextra,gdraws,gsystem,gdays,gat,gclose,gcancel,gexpiry,gpool,greserve,ground,gcap,grolls,ga,gt⟩ ⟨tmain,tbonus,textra,tmode,tkind,tvalue⟩)) rfl (by kernel_rfl) (by kernel_rfl) (by kernel_rfl) (fun _ _ _ h => h) (Or.inl ⟨by rfl,fun X _ => by go_simp⟩) hHeld ?_
   try simp only [Act.put,zsA,zsB,zsC]
   refine wpAnyH_done (by kernel_rfl) ?_ _
   go_simp
   go_wp2_with fail
   go_meet
   rw [← hma.out,← hmt.out]
   have q := pt
   obtain ⟨h0,h1,h2⟩ := q
   exact ⟨rfl,rfl,h1 0 _ rfl,h2 0 _ rfl,Bt⟩
 case rest =>
  obtain ⟨rfl,rfl,k1,k2,hbel⟩ := hcut
  clear r0 r1 r2 bW sW c0_1 pW
  go_wp2
  all_goals
   go_ret
   refine ⟨?_,hbel⟩
   rw [hr.out]
   simp_all
theorem covers_any (g : GameD) (a t : TierD) (av tv : Value) (w : World) :
  Calls Tryz.prog 101 #[gameVal g av tv,tierVal a,tierVal t] w (BoolB (coversB g a t) w) := by
 by_cases h : g.kind = 1
 ·exact covers_choose g a t av tv w h
 ·exact covers_digits g a t av tv w h
set_option maxHeartbeats 1000000 in
set_option maxRecDepth 100000 in
theorem checkAddon_any (m : AddonM) (w : World) (h : AddonR w m) :
  Calls Tryz.prog 99 #[addonVal m] w (IntB (addonE m.d) w) := by
 obtain ⟨⟨aname,akind,aprice,afactors,adigits,aprizes⟩,fv,pv⟩ := m
 obtain ⟨hf,hp⟩ := h
 simp only [] at hf hp
 obtain ⟨fa,fc,rfl,hfl,hfm,hfr⟩ := Rd.form hf
 obtain ⟨pa,pc,rfl,hpl,hpm,hpr⟩ := Rd.form hp
 obtain ⟨r,hr⟩ : ∃ r,r = addonE ⟨aname,akind,aprice,afactors,adigits,aprizes⟩ := ⟨_,rfl⟩
 simp only []
 rw [← hr]
 unfold addonE at hr
 unfold addonVal
 simp only [] at hr ⊢
 obtain ⟨nm,hnm⟩ : ∃ b,b = nameB aname := ⟨_,rfl⟩
 obtain ⟨cf,hcf⟩ : ∃ c,c = allE afactors 1 100 := ⟨_,rfl⟩
 obtain ⟨cp,hcp⟩ : ∃ c,c = allE aprizes 0 1000000000 := ⟨_,rfl⟩
 rw [← hnm,← hcf,← hcp] at hr
 replace hr := hide hr
 replace hnm := hide hnm
 replace hcf := hide hcf
 replace hcp := hide hcp
 clear hf hp
 go_enter Tryz.func99,Tryz.ntmps99
 go_wp2_with (first | (go_at_call 98;refine (within_any _ _ _ _).mono ?_;rintro e w' ⟨rfl,rfl⟩) | (go_at_call 68;refine (name_any _ _).mono ?_;rintro e w' ⟨rfl,rfl⟩;rw [← hnm.out]) | (go_at_call_of 116 fa;refine (checkAll_any _ afactors _ _ _ (hfr.alloc _)).mono ?_;rintro e w' ⟨rfl,rfl⟩;rw [← hcf.out]) | (go_at_call_of 116 pa;refine (checkAll_any _ aprizes _ _ _ (hpr.alloc _)).mono ?_;rintro e w' ⟨rfl,rfl⟩;rw [← hcp.out]) | fail)
 all_goals
  go_ret
  refine ⟨ret_int ?_,Bel.al (Below.refl _ _) _⟩
  replace hr := hr.out
  first | (simp_all <;> omega) | skip
end Go.Proofs.YtelgllgaofjgjaaGreat
end
section
open Go.RowKit
set_option linter.unusedVariables false
set_option linter.unusedSimpArgs false
namespace Go.Proofs.YtelgllgaofjgjaaGreat
open Go.Maps (Keyed string_keyed int_keyed)
theorem zeroBool (w : World) : (zeroValue 4).run Tryz.prog w = .ok (.bool false) w := by kernel_rfl
def nameLit (a : AddonD) : Lit := .string a.name.data.toList
def kindLit (a : AddonD) : Lit := .int .i64 a.kind
theorem addonsGo_step {l : List AddonD} {i : Nat} {a : AddonD} (h : l[i]? = some a) : addonsGo (l.take i) (l.drop i) = if addonE a ≠ 0 then addonE a else if (l.take i).any (fun s => decide (s.name = a.name) || decide (s.kind = a.kind)) then 6 else addonsGo (l.take (i + 1)) (l.drop (i + 1)) := by
 have h1 : l.drop i = a :: l.drop (i + 1) := by
  obtain ⟨hi,h⟩ := List.getElem?_eq_some_iff.1 h
  rw [List.drop_eq_getElem_cons hi,h]
 have h2 : l.take (i + 1) = l.take i ++ [a] := by rw [List.take_add_one,h];rfl
 rw [h1,h2]
 rfl
theorem take_snoc? {α : Type} {l : List α} {i : Nat} {a : α} (h : l[i]? = some a) : l.take (i + 1) = l.take i ++ [a] := by rw [List.take_add_one,h];rfl
theorem nameLit_same (a b : AddonD) : (nameLit a).sameKey (nameLit b) = decide (a.name = b.name) := by
 obtain ⟨⟨⟨x⟩⟩,_⟩ := a
 obtain ⟨⟨⟨y⟩⟩,_⟩ := b
 show (x == y) = _
 by_cases h : x = y
 ·subst h;simp
 ·rw [decide_eq_false (by simpa using h)]
  simpa using h
theorem kindLit_same (a b : AddonD) : (kindLit a).sameKey (kindLit b) = decide (a.kind = b.kind) := by
 show decide (IntKind.i64 = IntKind.i64 ∧ a.kind = b.kind) = _
 simp
theorem any_two {l : List AddonD} (a : AddonD) : l.any (fun s => decide (s.name = a.name) || decide (s.kind = a.kind)) = ((l.map nameLit).any (fun y => y.sameKey (nameLit a)) || (l.map kindLit).any (fun y => y.sameKey (kindLit a))) := by
 induction l with
 | nil => rfl
 | cons x r ih =>
  simp only [List.any_cons,List.map_cons,nameLit_same,kindLit_same] at ih ⊢
  rw [ih]
  cases decide (x.name = a.name) <;> cases decide (x.kind = a.kind) <;> simp
theorem addonsGo_end {l : List AddonD} {i : Nat} (hi : ¬ i < l.length) : addonsGo (l.take i) (l.drop i) = 0 := by
 rw [List.drop_of_length_le (by omega)]
 rfl
theorem Row.there {w : World} {g : Nat} {t : TypeId} {cs : List Value} (h : Row w g t cs) : w.there g 0 cs.length := fun j hj => by
 rw [Nat.zero_add]
 exact ⟨by rw [h.cell hj];rfl,h.frozen j⟩
theorem grown_cell {w w' : World} {row : Option Nat} (hg : w.grownBy w' row) {b o : Nat} {v : Value} (h : w.cell? ⟨b,o,none⟩ = some v) (hne : some b ≠ row) : w'.cell? ⟨b,o,none⟩ = some v := by
 rw [← h]
 exact World.cell?_of_block (hg.block b (World.block_lt_of_cell? w _ h) hne)
theorem any_take_no {α : Type} {l : List α} {p : α → Bool} {i : Nat} (h : ∀ j x,j < i → l[j]? = some x → p x = false) : (l.take i).any p = false := by
 rw [List.any_eq_false]
 intro x hx
 obtain ⟨j,hj,rfl⟩ := List.getElem_of_mem hx
 rw [List.length_take] at hj
 have := h j _ (by omega) (List.getElem?_eq_getElem (show j < l.length by omega))
 rw [List.getElem_take]
 rw [this]
 simp
theorem any_take_yes {α : Type} {l : List α} {p : α → Bool} {i j : Nat} {x : α} (hj : j < i) (hx : l[j]? = some x) (h : p x = true) : (l.take i).any p = true := by
 rw [List.any_eq_true]
 obtain ⟨hl,e⟩ := List.getElem?_eq_some_iff.1 hx
 refine ⟨x,?_,h⟩
 rw [← e,List.mem_take_iff_getElem]
 exact ⟨j,by omega,rfl⟩
theorem string_isKey (s : List UInt8) : WideAt.IsKeyLit (.string s) := by trivial
theorem int_isKey (x : Int) : WideAt.IsKeyLit (.int .i64 x) := by trivial
set_option maxHeartbeats 1000000 in
set_option maxRecDepth 100000 in
theorem checkAddons_any (v : Value) (ms : List AddonM) (w : World) (h : AddonsR w v ms) :
  Calls Tryz.prog 71 #[v] w (IntB (addonsE (ms.map (·.d))) w) := by
 obtain ⟨l,hl⟩ : ∃ l,l = ms.map (·.d) := ⟨_,rfl⟩
 have hlen : l.length = ms.length := by rw [hl];simp
 rw [← hl]
 obtain ⟨ao,cap,rfl,hle,hmax⟩ := h.1.shape
 unfold addonsE
 by_cases h4 : 4 < l.length
 ·rw [if_pos h4]
  have h4' : 4 < ms.length := by omega
  clear h4 hl hlen h
  go_enter Tryz.func71,Tryz.ntmps71
  go_wp2
  go_ret
  exact ⟨rfl,Below.refl _ _⟩
 ·rw [if_neg h4]
  have h4' : ms.length ≤ 4 := by omega
  have hl' := hide hl
  clear hl
  replace hlen := hide hlen
  have hmm := @run_makeMap Tryz.prog
  go_enter Tryz.func71,Tryz.ntmps71
  go_wp2
  have hset1 := (SetIs.made Tryz.prog 9 4 w).alloc (.map #[] 0)
  have hset2 := SetIs.made Tryz.prog 3 4 (w.alloc (.map #[] 0))
  rw [alloc_size] at hset2
  have hbel : Below w.heap.size w ((w.alloc (.map #[] 0)).alloc (.map #[] 0)) := Bel.al (Bel.al (Below.refl _ _) _) _
  clear hmm
  have hh := hide h
  clear h
  obtain ⟨W,hW⟩ : ∃ W,W = (w.alloc (.map #[] 0)).alloc (.map #[] 0) := ⟨_,rfl⟩
  rw [← hW] at hset1 hset2 hbel ⊢
  clear hW
  go_loopg [15] ms.length (fun g t wr => ∃ i : Nat,g = ms.length - i ∧ i ≤ ms.length ∧ t = .int .i64 i ∧ Below w.heap.size w wr ∧ SetIs Tryz.prog 9 4 wr w.heap.size i ((l.take i).map nameLit) ∧ SetIs Tryz.prog 3 4 wr (w.heap.size + 1) i ((l.take i).map kindLit) ∧ addonsGo (l.take i) (l.drop i) = addonsGo [] l)
  case atStart => exact ⟨0,rfl,Nat.zero_le _,rfl,hbel,hset1,hset2,rfl⟩
  case round =>
   clear hset1 hset2 hbel
   obtain ⟨i,hg,hi,rfl,hbel,hset1,hset2,hgo⟩ := hrel
   replace hg := hide hg
   replace hgo := hide hgo
   replace hset1 := hide hset1
   replace hset2 := hide hset2
   by_cases hlt : i < ms.length
   ·have hlt2 := hide hlt
    have i1 : (0 : Int) ≤ (i : Int) := by omega
    have i2 : (i : Int) < (ms.length : Int) := by omega
    have hA := hh.out.below hbel
    obtain ⟨b,off,rfl,hbb,hcell⟩ := hA.1.at_ hlt
    obtain ⟨m,hm⟩ : ∃ m,ms[i]? = some m := ⟨_,List.getElem?_eq_getElem hlt⟩
    have hrange : wr.rangeAt b (off + i * 6) (AddonM.cells m) := fun j u hu => hcell i m hm j u hu
    have hAd := hA.2 i m hm
    clear hcell
    have hlm : l[i]? = some m.d := by rw [hl'.out,List.getElem?_map,hm];rfl
    have hstep := addonsGo_step hlm
    have htake := take_snoc? hlm
    rw [any_two] at hstep
    clear hm hlm
    replace hstep := hide hstep
    replace htake := hide htake
    obtain ⟨⟨aname,akind,aprice,afactors,adigits,aprizes⟩,fv,pv⟩ := m
    unfold AddonM.cells at hrange
    obtain ⟨hf,hp⟩ := hAd
    simp only [] at hrange hf hp
    obtain ⟨fa,fn,fc,rfl⟩ := Rd.shape hf
    obtain ⟨pa,pn,pc,rfl⟩ := Rd.shape hp
    have hAd : AddonR wr ⟨⟨aname,akind,aprice,afactors,adigits,aprizes⟩,.slice fa fn fc,.slice pa pn pc⟩ := ⟨hf,hp⟩
    clear hf hp hA
    have hthere : (wr.alloc (.cells #[.string ⟨#[]⟩,.int .i64 0,.int .i64 0,.slice none 0 0,.int .i64 0,.slice none 0 0] 61)).there wr.heap.size 0 6 := Row.there (Row.newOf (cs := [.string ⟨#[]⟩,.int .i64 0,.int .i64 0,.slice none 0 0,.int .i64 0,.slice none 0 0]) _ rfl)
    replace hthere := hide hthere
    go_upto_region 7 with (first | (refine wpList_load_mid rfl 61 _ rfl b (off + i * 6) rfl [.string aname,.int .i64 akind,.int .i64 aprice,.slice fa fn fc,.int .i64 adigits,.slice pa pn pc] _ hrange Tryz.underlying61 rfl (by kernel_rfl) ?_) | (refine wpList_store_mid rfl 61 _ _ rfl wr.heap.size 0 _ rfl rfl hthere.out (by kernel_rfl) (by rfl) ?_) | fail)
    obtain ⟨W1,hW1⟩ : ∃ W1,W1 = wr.alloc (.cells #[.string aname,.int .i64 akind,.int .i64 aprice,.slice fa fn fc,.int .i64 adigits,.slice pa pn pc] 61) := ⟨_,rfl⟩
    have hb1 : Below wr.heap.size wr W1 := by rw [hW1];exact Bel.al (Below.refl _ _) _
    have hw1 : Row W1 wr.heap.size 61 [.string aname,.int .i64 akind,.int .i64 aprice,.slice fa fn fc,.int .i64 adigits,.slice pa pn pc] := by rw [hW1];exact Row.newOf _ rfl
    have hr1 : W1.rangeAt wr.heap.size 0 [.string aname,.int .i64 akind,.int .i64 aprice,.slice fa fn fc,.int .i64 adigits,.slice pa pn pc] := fun j v hv => by rw [Nat.zero_add];exact (hw1.cell? j).trans hv
    rw [← hW1]
    clear hW1 hthere hrange hw1
    go_wp2_with (first | (refine wpList_load_mid rfl 61 _ rfl wr.heap.size 0 rfl [.string aname,.int .i64 akind,.int .i64 aprice,.slice fa fn fc,.int .i64 adigits,.slice pa pn pc] _ hr1 Tryz.underlying61 rfl (by kernel_rfl) ?_) | fail)
    refine (checkAddon_any ⟨⟨aname,akind,aprice,afactors,adigits,aprizes⟩,.slice fa fn fc,.slice pa pn pc⟩ _ (hAd.below hb1)).mono ?_
    rintro e w2 ⟨rfl,hb2⟩
    have hb12 : Below wr.heap.size wr w2 := Bel.to hb1 hb2
    have hbw : Below w.heap.size w w2 := Bel.to hbel hb12
    have k0 : w2.cell? ⟨wr.heap.size,0,none⟩ = some (.string aname) := Bel.cellOf hb2 (hr1 0 _ rfl)
    have k1 : w2.cell? ⟨wr.heap.size,1,none⟩ = some (.int .i64 akind) := Bel.cellOf hb2 (hr1 1 _ rfl)
    obtain ⟨c,hc⟩ : ∃ c,c = addonE ⟨aname,akind,aprice,afactors,adigits,aprizes⟩ := ⟨_,rfl⟩
    have hstep1 := hstep.out
    rw [hgo.out,← hc] at hstep1
    (try simp only [])
    rw [← hc]
    by_cases hc0 : c = 0
    ·have hname : nameB aname = true := by
      rw [hc0] at hc
      unfold addonE at hc
      simp only [] at hc
      cases hn : nameB aname with
      | true => rfl
      | false => rw [hn,if_pos rfl] at hc;omega
     have hkd : akind = 1 ∨ akind = 2 := by
      rw [hc0] at hc
      unfold addonE at hc
      simp only [hname] at hc
      by_cases h1 : akind = 1
      ·exact .inl h1
      ·by_cases h2 : akind = 2
       ·exact .inr h2
       ·rw [if_neg (by simp),if_pos ⟨h1,h2⟩] at hc;omega
     have hwf : (Lit.int .i64 akind).wf = true := by rcases hkd with h | h <;> subst h <;> decide
     have hsz : aname.size ≤ maxLen := by have := name_size hname;unfold maxLen;omega
     rw [hc0,if_neg (by simp)] at hstep1
     have hlt3 := hset2.out.lt
     have hs1 := hset1.out.below hb12
     have hs2 := hset2.out.below hb12
     have hkey1 : keyOf Tryz.prog 9 (.string aname) = some (.string aname.data.toList) := Go.WideMaps.keyOf_string_mk Tryz.underlying9 hsz
     have hkey2 : keyOf Tryz.prog 3 (.int .i64 akind) = some (.int .i64 akind) := Go.Maps.keyOf_int_mk Tryz.underlying3 hwf
     have look1 := hs1.look (string_keyed Tryz.underlying9) Tryz.underlying168 Tryz.underlying4 (zeroBool w2) hkey1 (string_isKey _)
     have look2 := hs2.look (int_keyed Tryz.underlying3) Tryz.underlying169 Tryz.underlying4 (zeroBool w2) hkey2 (int_isKey _)
     obtain ⟨q1,hq1⟩ : ∃ q,q = ((l.take i).map nameLit).any (fun y => y.sameKey (.string aname.data.toList)) := ⟨_,rfl⟩
     obtain ⟨q2,hq2⟩ : ∃ q,q = ((l.take i).map kindLit).any (fun y => y.sameKey (.int .i64 akind)) := ⟨_,rfl⟩
     rw [← hq1] at look1
     rw [← hq2] at look2
     have hstep2 : addonsGo [] l = if (q1 || q2) = true then 6 else addonsGo (l.take (i + 1)) (l.drop (i + 1)) := by rw [hstep1,hq1,hq2];rfl
     clear hstep1 hset1 hset2 hc hname hkd hwf
     replace hstep2 := hide hstep2
     replace hs1 := hide hs1
     replace hs2 := hide hs2
     replace hkey1 := hide hkey1
     replace hkey2 := hide hkey2
     replace hq1 := hide hq1
     replace hq2 := hide hq2
     replace hsz := hide hsz
     subst hc0
     cases q1
     ·cases q2
      ·go_wp2_with fail
       refine wp_region_held_drew (S := fun X => X.cell? ⟨wr.heap.size,0,none⟩ = some (.string aname) ∧ X.cell? ⟨wr.heap.size,1,none⟩ = some (.int .i64 akind)) (by kernel_rfl) ⟨k0,k1⟩ (fun hHeld => ?_)
       refine' wpAnyH_take (i := 0) (oi := _) (v := .map (some w.heap.size)) rfl (by kernel_rfl) (by kernel_rfl) (by kernel_rfl) (fun _ _ _ h => h) (Or.inl ⟨by rfl,fun X hX => by go_simp⟩) hHeld ?_
       try simp only [Act.put,zsA,zsB,zsC,List.getElem_toArray,List.getElem_cons_zero,List.getElem_cons_succ]
       refine' wpAnyH_take (i := 1) (oi := _) (v := .pointer (some ⟨wr.heap.size,0,none⟩)) rfl (by kernel_rfl) (by kernel_rfl) (by kernel_rfl) (fun _ _ _ h => h) (Or.inl ⟨by rfl,fun X hX => by go_simp⟩) hHeld ?_
       try simp only [Act.put,zsA,zsB,zsC,List.getElem_toArray,List.getElem_cons_zero,List.getElem_cons_succ]
       refine' wpAnyH_take (i := 2) (oi := _) (v := .string aname) rfl (by kernel_rfl) (by kernel_rfl) (by kernel_rfl) (fun _ _ _ h => h) (Or.inl ⟨by rfl,fun X hX => by (have hX1 := hX.1;go_simp)⟩) hHeld ?_
       try simp only [Act.put,zsA,zsB,zsC,List.getElem_toArray,List.getElem_cons_zero,List.getElem_cons_succ]
       refine' wpAnyH_take (i := 3) (oi := _) (v := .map (some (w.heap.size + 1))) rfl (by kernel_rfl) (by kernel_rfl) (by kernel_rfl) (fun _ _ _ h => h) (Or.inl ⟨by rfl,fun X hX => by go_simp⟩) hHeld ?_
       try simp only [Act.put,zsA,zsB,zsC,List.getElem_toArray,List.getElem_cons_zero,List.getElem_cons_succ]
       refine' wpAnyH_take (i := 4) (oi := _) (v := .pointer (some ⟨wr.heap.size,1,none⟩)) rfl (by kernel_rfl) (by kernel_rfl) (by kernel_rfl) (fun _ _ _ h => h) (Or.inl ⟨by rfl,fun X hX => by go_simp⟩) hHeld ?_
       try simp only [Act.put,zsA,zsB,zsC,List.getElem_toArray,List.getElem_cons_zero,List.getElem_cons_succ]
       refine' wpAnyH_take (i := 5) (oi := _) (v := .int .i64 akind) rfl (by kernel_rfl) (by kernel_rfl) (by kernel_rfl) (fun _ _ _ h => h) (Or.inl ⟨by rfl,fun X hX => by (have hX2 := hX.2;go_simp)⟩) hHeld ?_
       try simp only [Act.put,zsA,zsB,zsC,List.getElem_toArray,List.getElem_cons_zero,List.getElem_cons_succ]
       refine wpAnyH_ready (rs := [6]) (by kernel_rfl) (by simp) ?_
       refine AllReadyH.cons (o := _) rfl (fun K hK => ?_) AllReadyH.nil
       rw [if_pos (by rfl)]
       refine wp_update_set _ _ _ 168 rfl 9 4 (string_keyed Tryz.underlying9) Tryz.underlying168 Tryz.underlying4 (w.heap.size) i _ rfl hs1.out.drew (by unfold maxLen;omega) (.string aname) (.string aname.data.toList) rfl rfl hkey1.out (string_isKey _) ?_
       intro w3 hs13 hg3
       have hs23 := hs2.out.drew.kept hg3 (by simp)
       have hb3 : Below w.heap.size w w3 := (Below.drew hbw).grown hg3 hbw.size (fun k hk => by injection hk with hk;omega)
       have k03 : w3.cell? ⟨wr.heap.size,0,none⟩ = some (.string aname) := grown_cell hg3 hHeld.1 (by simp;omega)
       have k13 : w3.cell? ⟨wr.heap.size,1,none⟩ = some (.int .i64 akind) := grown_cell hg3 hHeld.2 (by simp;omega)
       refine hK.out _ _ ⟨k03,k13⟩ (fun hHeld => ?_)
       clear hK K
       try simp only [Act.put,zsA,zsB,zsC,List.getElem_toArray,List.getElem_cons_zero,List.getElem_cons_succ]
       refine wpAnyH_ready (rs := [7]) (by kernel_rfl) (by simp) ?_
       refine AllReadyH.cons (o := _) rfl (fun K hK => ?_) AllReadyH.nil
       rw [if_pos (by rfl)]
       refine wp_update_set _ _ _ 169 rfl 3 4 (int_keyed Tryz.underlying3) Tryz.underlying169 Tryz.underlying4 (w.heap.size + 1) i _ rfl hs23 (by unfold maxLen;omega) (.int .i64 akind) (.int .i64 akind) rfl rfl hkey2.out (int_isKey _) ?_
       intro w4 hs24 hg4
       have hs14 := hs13.kept hg4 (by simp)
       have hb4 : Below w.heap.size w w4 := hb3.grown hg4 hb3.size (fun k hk => by injection hk with hk;omega)
       refine hK.out _ _ ⟨grown_cell hg4 k03 (by simp;omega),grown_cell hg4 k13 (by simp;omega)⟩ (fun hHeld => ?_)
       clear hK K
       try simp only [Act.put,zsA,zsB,zsC,List.getElem_toArray,List.getElem_cons_zero,List.getElem_cons_succ]
       refine wpAnyH_done (by kernel_rfl) ?_ _
       go_simp
       go_wp2
       go_roundg (ms.length - (i + 1))
       case measure => have := hg.out;have := hlt2.out;omega
       case rel =>
        refine ⟨i + 1,rfl,by have := hlt2.out;omega,by go_num,hb4,?_,?_,?_⟩
        ·rw [htake.out,List.map_append];exact hs14
        ·rw [htake.out,List.map_append];exact hs24
        ·have := hstep2.out;simpa using this.symm
      ·go_wp2
       go_ret
       rw [hstep2.out]
       exact ⟨rfl,hbw⟩
     ·go_wp2
      go_ret
      rw [hstep2.out]
      exact ⟨rfl,hbw⟩
    ·have hcb : (c != 0) = true := by simpa using hc0
     rw [if_pos hc0] at hstep1
     replace hstep1 := hide hstep1
     clear hset1 hset2
     go_wp2
     go_ret
     rw [hstep1.out]
     exact ⟨rfl,hbw⟩
   ·have hend := addonsGo_end (l := l) (i := i) (by have := hlen.out;omega)
    rw [hgo.out] at hend
    replace hend := hide hend
    clear hset1 hset2
    go_wp2
    go_ret
    rw [hend.out]
    exact ⟨rfl,hbel⟩
end Go.Proofs.YtelgllgaofjgjaaGreat
end
section
open Go.RowKit
set_option linter.unusedVariables false
set_option linter.unusedSimpArgs false
namespace Go.Proofs.YtelgllgaofjgjaaGreat
theorem tiersGo_step {g : GameD} {l : List TierD} {i : Nat} {a : TierD} (h : l[i]? = some a) : tiersGo g (l.take i) (l.drop i) = if tierE g a ≠ 0 then tierE g a else if (l.take i).any (fun s => coversB g s a) then 6 else tiersGo g (l.take (i + 1)) (l.drop (i + 1)) := by
 have h1 : l.drop i = a :: l.drop (i + 1) := by
  obtain ⟨hi,h⟩ := List.getElem?_eq_some_iff.1 h
  rw [List.drop_eq_getElem_cons hi,h]
 rw [h1,take_snoc? h]
 rfl
theorem tiersGo_end {g : GameD} {l : List TierD} {i : Nat} (hi : ¬ i < l.length) : tiersGo g (l.take i) (l.drop i) = 0 := by
 rw [List.drop_of_length_le (by omega)]
 rfl
set_option maxHeartbeats 2000000 in
set_option maxRecDepth 100000 in
theorem checkTiers_any (g : GameD) (av tv : Value) (w : World) (h : RdS 6 tierCells w tv g.tiers) (hav : ∃ ao n cap,av = .slice ao n cap) :
  Calls Tryz.prog 72 #[gameVal g av tv] w (IntB (tiersE g) w) := by
 obtain ⟨ta,tc,rfl,hle,hmax⟩ := h.shape
 obtain ⟨aa,an,ac,rfl⟩ := hav
 obtain ⟨G,hG⟩ : ∃ G,G = g := ⟨_,rfl⟩
 unfold tiersE
 by_cases hn : inB g.tiers.length 1 12 = true
 ·rw [if_neg (by rw [hn];simp)]
  have hlen : g.tiers.length ≤ 12 := by have := (inB_iff.1 hn).2;omega
  have hn' := hn
  clear hn
  obtain ⟨r,hr0⟩ : ∃ r,r = tiersGo g [] g.tiers := ⟨_,rfl⟩
  rw [← hr0]
  rw [← hG] at hr0
  obtain ⟨gname,gkind,gprice,gmain,gof,gbonus,gbonusOf,gextra,gdraws,gsystem,gdays,gat,gclose,gcancel,gexpiry,gpool,greserve,ground,gcap,grolls,ga,gt⟩ := g
  simp only [] at h hle hn' hlen
  unfold gameVal
  (try simp only [])
  replace hG := hide hG
  replace hr0 := hide hr0
  have hh := hide h
  clear h
  go_enter Tryz.func72,Tryz.ntmps72
  go_wp2
  obtain ⟨W,hW⟩ : ∃ W,W = (w.alloc (Obj.cells #[.string gname,.int .i64 gkind,.int .i64 gprice,.int .i64 gmain,.int .i64 gof,.int .i64 gbonus,.int .i64 gbonusOf,.int .i64 gextra,.int .i64 gdraws,.int .i64 gsystem,.int .i64 gdays,.int .i64 gat,.int .i64 gclose,.int .i64 gcancel,.int .i64 gexpiry,.int .i64 gpool,.int .i64 greserve,.int .i64 ground,.int .i64 gcap,.int .i64 grolls,(.slice aa an ac),(.slice ta gt.length tc)] 25)) := ⟨_,rfl⟩
  have bW : Below w.heap.size w W := by rw [hW];exact Bel.al (Below.refl _ _) _
  have r0 : Row W (w.heap.size) 25 [.string gname,.int .i64 gkind,.int .i64 gprice,.int .i64 gmain,.int .i64 gof,.int .i64 gbonus,.int .i64 gbonusOf,.int .i64 gextra,.int .i64 gdraws,.int .i64 gsystem,.int .i64 gdays,.int .i64 gat,.int .i64 gclose,.int .i64 gcancel,.int .i64 gexpiry,.int .i64 gpool,.int .i64 greserve,.int .i64 ground,.int .i64 gcap,.int .i64 grolls,(.slice aa an ac),(.slice ta gt.length tc)] := by rw [hW];exact Row.new _ _ _
  have c0_21 : W.cell? ⟨w.heap.size,21,none⟩ = some ((.slice ta gt.length tc)) := Row.cell r0 (i := 21) (by simp)
  have sW : w.heap.size < W.heap.size := by rw [hW];simp
  rw [← hW]
  clear hW
  go_step3
  go_wp2_with fail
  refine (within_any _ _ _ _).mono ?_
  rintro e w' ⟨rfl,rfl⟩
  rw [hn']
  go_wp2
  go_step3
  go_wp2
  have hstart : tiersGo G (gt.take 0) (gt.drop 0) = r := by rw [hr0.out,hG.out];rfl
  clear hn'
  have hlen2 : gt.length ≤ 9223372036854775807 := by omega
  go_loopg [16,3] gt.length (fun g t f wr => ∃ i : Nat,g = gt.length - i ∧ i ≤ gt.length ∧ t = .int .i64 i ∧ f = .int .i64 0 ∧ Below W.heap.size W wr ∧ tiersGo G (gt.take i) (gt.drop i) = r)
  case atStart => exact ⟨0,rfl,Nat.zero_le _,rfl,rfl,Below.refl _ _,hstart⟩
  case round =>
   clear hstart
   obtain ⟨i,hg,hi,rfl,rfl,hbel,hgo⟩ := hrel
   replace hg := hide hg
   replace hgo := hide hgo
   by_cases hlt : i < gt.length
   ·have hlt2 := hide hlt
    have i1 : (0 : Int) ≤ (i : Int) := by omega
    have i2 : (i : Int) < (gt.length : Int) := by omega
    obtain ⟨t,ht⟩ : ∃ t,gt[i]? = some t := ⟨_,List.getElem?_eq_getElem hlt⟩
    have hT := hh.out.below (Bel.to bW hbel)
    obtain ⟨b,off,rfl,hbb,hcell⟩ := hT.at_ hlt
    have hrange : wr.rangeAt b (off + i * 6) (tierCells t) := fun j u hu => hcell i t ht j u hu
    clear hcell hT
    have hstep := tiersGo_step (g := G) ht
    rw [hgo.out] at hstep
    replace hstep := hide hstep
    have ht' := hide ht
    clear ht
    have q0 := Row.keep r0 hbel
    have d21 := Bel.cellOf hbel c0_21
    have c1 := hide (fun X => checkTier_any G t (.slice aa an ac) (.slice (some ⟨b,off,none⟩) gt.length tc) X)
    have hcov := hide (fun e X => covers_any G e t (.slice aa an ac) (.slice (some ⟨b,off,none⟩) gt.length tc) X)
    obtain ⟨c,hc⟩ : ∃ c,c = tierE G t := ⟨_,rfl⟩
    obtain ⟨Cv,hCv⟩ : ∃ Cv : TierD → Bool,Cv = fun e => coversB G e t := ⟨_,rfl⟩
    have hstep2 : r = if c ≠ 0 then c else if (gt.take i).any Cv then 6 else tiersGo G (gt.take (i + 1)) (gt.drop (i + 1)) := by rw [hstep.out,hc,hCv]
    have hcv : ∀ e X,Calls Tryz.prog 101 #[gameVal G (.slice aa an ac) (.slice (some ⟨b,off,none⟩) gt.length tc),tierVal e,tierVal t] X (BoolB (Cv e) X) := by rw [hCv];exact hcov.out
    have hct : ∀ X,Calls Tryz.prog 100 #[gameVal G (.slice aa an ac) (.slice (some ⟨b,off,none⟩) gt.length tc),tierVal t] X (IntB c X) := by rw [hc];exact c1.out
    clear hstep hcov c1 hc hCv
    rw [hG.out] at hcv hct
    replace hstep2 := hide hstep2
    replace hcv := hide hcv
    replace hct := hide hct
    obtain ⟨tmain,tbonus,textra,tmode,tkind,tvalue⟩ := t
    unfold tierCells at hrange
    simp only [] at hrange
    go_upto_region 7 with (first | (refine wpList_load_mid rfl 72 _ rfl (b) (off + i * 6) rfl [.int .i64 tmain,.int .i64 tbonus,.int .i64 textra,.int .i64 tmode,.int .i64 tkind,.int .i64 tvalue] _ hrange Tryz.underlying72 rfl (by kernel_rfl) ?_) | fail)
    obtain ⟨W1,hW1⟩ : ∃ W1,W1 = wr.alloc (.cells #[.int .i64 tmain,.int .i64 tbonus,.int .i64 textra,.int .i64 tmode,.int .i64 tkind,.int .i64 tvalue] 72) := ⟨_,rfl⟩
    have hb1 : Below wr.heap.size wr W1 := by rw [hW1];exact Bel.al (Below.refl _ _) _
    have r1 : Row W1 wr.heap.size 72 [.int .i64 tmain,.int .i64 tbonus,.int .i64 textra,.int .i64 tmode,.int .i64 tkind,.int .i64 tvalue] := by rw [hW1];exact Row.newOf _ rfl
    rw [← hW1]
    clear hW1 hrange
    have q1 := Row.keep q0 hb1
    have d1 := Bel.cellOf hb1 d21
    clear q0 d21
    go_wp2_with (first | (refine wpList_load_row rfl 25 _ rfl _ rfl _ _ _ _ q1 Tryz.underlying25 rfl (by kernel_rfl) ?_) | (refine wpList_load_row rfl 72 _ rfl _ rfl _ _ _ _ r1 Tryz.underlying72 rfl (by kernel_rfl) ?_) | fail)
    refine (hct.out _).mono ?_
    rintro e w2 ⟨rfl,hb2⟩
    have q2 := Row.keep q1 hb2
    have d2 := Bel.cellOf hb2 d1
    have r2 := Row.keep r1 hb2
    have B2 : Below W.heap.size W w2 := Bel.to (Bel.to hbel hb1) hb2
    clear q1 d1 r1 hct hb1 hb2 hbel
    by_cases hc0 : c = 0
    ·have hs3 := hstep2.out
     rw [hc0,if_neg (by simp)] at hs3
     subst hc0
     replace hs3 := hide hs3
     clear hstep2
     have i3 : (i : Int) ≤ (tc : Int) := by omega
     have i4 : (i : Int) ≤ (gt.length : Int) := by omega
     go_wp2
     go_loopg [31,3] i (fun g t f wr' => ∃ k : Nat,g = i - k ∧ k ≤ i ∧ t = .int .i64 k ∧ f = .int .i64 0 ∧ Below w2.heap.size w2 wr' ∧ ∀ j x,j < k → gt[j]? = some x → Cv x = false)
     case atStart => exact ⟨0,rfl,Nat.zero_le _,rfl,rfl,Below.refl _ _,fun j x hj => absurd hj (Nat.not_lt_zero _)⟩
     case round =>
      obtain ⟨k,hgk,hk,rfl,rfl,hbel3,hno⟩ := hrel
      replace hgk := hide hgk
      replace hno := hide hno
      obtain ⟨wq,hwq⟩ : ∃ X,X = wr := ⟨_,rfl⟩
      by_cases hki : k < i
      ·have hki2 := hide hki
       have k1 : (0 : Int) ≤ (k : Int) := by omega
       have k2 : (k : Int) < (i : Int) := by omega
       have hkl : k < gt.length := by omega
       obtain ⟨e,he⟩ : ∃ e,gt[k]? = some e := ⟨_,List.getElem?_eq_getElem hkl⟩
       have hT := hh.out.below (Bel.to bW (Bel.to B2 hbel3))
       obtain ⟨b',off',hbo,hbb',hcell⟩ := hT.at_ hkl
       obtain ⟨rfl,rfl⟩ : b = b' ∧ off = off' := by simpa using hbo
       have hrange : wr.rangeAt b (off + k * 6) (tierCells e) := fun j u hu => hcell k e he j u hu
       clear hcell hT hbo hwq
       have he' := hide he
       clear he
       have q3 := Row.keep q2 hbel3
       have r3 := Row.keep r2 hbel3
       have hcve := hide (hcv.out e)
       obtain ⟨q,hq⟩ : ∃ q,q = Cv e := ⟨_,rfl⟩
       rw [← hq] at hcve
       replace hq := hide hq
       have hlast := hide (fun (h : Cv e = true) => any_take_yes (p := Cv) hki he'.out h)
       have hnext := hide (fun (h : Cv e = false) => show ∀ j x,j < k + 1 → gt[j]? = some x → Cv x = false from by
        intro j x hj hx
        rcases Nat.lt_succ_iff_lt_or_eq.1 hj with h' | rfl
        ·exact hno.out j x h' hx
        ·rw [he'.out] at hx;injection hx with hx;rw [← hx];exact h)
       clear hcv he'
       obtain ⟨emain,ebonus,eextra,emode,ekind,evalue⟩ := e
       unfold tierCells at hrange
       simp only [] at hrange
       go_upto_region 12 with (first | (refine wpList_load_mid rfl 72 _ rfl (b) (off + k * 6) rfl [.int .i64 emain,.int .i64 ebonus,.int .i64 eextra,.int .i64 emode,.int .i64 ekind,.int .i64 evalue] _ hrange Tryz.underlying72 rfl (by kernel_rfl) ?_) | fail)
       obtain ⟨W3,hW3⟩ : ∃ W3,W3 = wr.alloc (.cells #[.int .i64 emain,.int .i64 ebonus,.int .i64 eextra,.int .i64 emode,.int .i64 ekind,.int .i64 evalue] 72) := ⟨_,rfl⟩
       have hb3 : Below wr.heap.size wr W3 := by rw [hW3];exact Bel.al (Below.refl _ _) _
       have r4 : Row W3 wr.heap.size 72 [.int .i64 emain,.int .i64 ebonus,.int .i64 eextra,.int .i64 emode,.int .i64 ekind,.int .i64 evalue] := by rw [hW3];exact Row.newOf _ rfl
       rw [← hW3]
       clear hW3 hrange
       have q4 := Row.keep q3 hb3
       have r5 := Row.keep r3 hb3
       clear q3 r3
       go_wp2_with (first | (refine wpList_load_row rfl 25 _ rfl _ rfl _ _ _ _ q4 Tryz.underlying25 rfl (by kernel_rfl) ?_) | (refine wpList_load_row rfl 72 _ rfl _ rfl _ _ _ _ r4 Tryz.underlying72 rfl (by kernel_rfl) ?_) | (refine wpList_load_row rfl 72 _ rfl _ rfl _ _ _ _ r5 Tryz.underlying72 rfl (by kernel_rfl) ?_) | fail)
       refine (hcve.out _).mono ?_
       rintro e w4 ⟨rfl,hb4⟩
       have B4 : Below w2.heap.size w2 w4 := Bel.to (Bel.to hbel3 hb3) hb4
       clear q4 r4 r5 hb3 hb4 hbel3
       cases q
       ·have hn1 := hide (hnext.out hq.out.symm)
        go_wp2
        go_roundg (i - (k + 1))
        case measure => have := hgk.out;have := hki2.out;omega
        case rel => exact ⟨k + 1,rfl,by have := hki2.out;omega,by go_num,rfl,B4,hn1.out⟩
       ·have hr6 := hs3.out
        rw [hlast.out hq.out.symm,if_pos rfl] at hr6
        replace hr6 := hide hr6
        go_wp2
        rw [Exit.noGoto_ret]
        go_ret
        rw [hr6.out]
        exact ⟨rfl,Bel.to bW (Bel.to B2 B4)⟩
      ·have hki2 : k = i := by omega
       have hs4 := hs3.out
       rw [any_take_no (fun j x hj hx => hno.out j x (by omega) hx),if_neg (by simp)] at hs4
       replace hs4 := hide hs4
       replace hki2 := hide hki2
       clear hwq
       have B5 := Bel.to B2 hbel3
       go_wp2
       go_roundg (gt.length - (i + 1))
       case measure => have := hg.out;have := hlt2.out;omega
       case rel => exact ⟨i + 1,rfl,by have := hlt2.out;omega,by go_num,rfl,B5,hs4.out.symm⟩
    ·have hcb : (c != 0) = true := by simpa using hc0
     have hs3 := hstep2.out
     rw [if_pos hc0] at hs3
     replace hs3 := hide hs3
     clear hstep2
     go_wp2
     rw [Exit.noGoto_ret]
     go_ret
     rw [hs3.out]
     exact ⟨rfl,Bel.to bW B2⟩
   ·have hend := tiersGo_end (g := G) (l := gt) (i := i) hlt
    rw [hgo.out] at hend
    replace hend := hide hend
    go_wp2
    go_ret
    rw [hend.out]
    exact ⟨rfl,Bel.to bW hbel⟩
 ·rw [if_pos (by simpa using hn)]
  have hn' : inB g.tiers.length 1 12 = false := by simpa using hn
  clear hn
  obtain ⟨gname,gkind,gprice,gmain,gof,gbonus,gbonusOf,gextra,gdraws,gsystem,gdays,gat,gclose,gcancel,gexpiry,gpool,greserve,ground,gcap,grolls,ga,gt⟩ := g
  simp only [] at hn'
  unfold gameVal
  (try simp only [])
  go_enter Tryz.func72,Tryz.ntmps72
  go_wp2
  go_step3
  go_wp2_with fail
  refine (within_any _ _ _ _).mono ?_
  rintro e w' ⟨rfl,rfl⟩
  rw [hn']
  go_wp2
  go_ret
  exact ⟨rfl,Bel.al (Below.refl _ _) _⟩
def StrE (b : Bool) (w : World) (e : Ending) (w' : World) : Prop := ∃ s : ByteArray,e = .returned (.string s) ∧ (b = true → s = ⟨#[]⟩) ∧ (b = false → s ≠ ⟨#[]⟩) ∧ Below w.heap.size w w'
set_option maxHeartbeats 4000000 in
set_option maxRecDepth 100000 in
theorem badTerms_any (g : GameD) (av tv : Value) (w : World) :
  Calls Tryz.prog 70 #[gameVal g av tv] w (StrE (termB g) w) := by
 obtain ⟨r,hr⟩ : ∃ r,r = termB g := ⟨_,rfl⟩
 rw [← hr]
 obtain ⟨gname,gkind,gprice,gmain,gof,gbonus,gbonusOf,gextra,gdraws,gsystem,gdays,gat,gclose,gcancel,gexpiry,gpool,greserve,ground,gcap,grolls,ga,gt⟩ := g
 unfold gameVal
 unfold termB at hr
 simp only [] at hr ⊢
 replace hr := hide hr
 go_enter Tryz.func70,Tryz.ntmps70
 go_wp2_with (first | (go_at_call 98;refine (within_any _ _ _ _).mono ?_;rintro e w' ⟨rfl,rfl⟩) | fail)
 all_goals
  go_ret
  replace hr := hr.out
  refine ⟨_,rfl,?_,?_,Bel.al (Below.refl _ _) _⟩
  all_goals
   intro hq
   simp_all
theorem inB_min (x lo y : Int) : inB x lo (if (14 : Int) ≤ y then 14 else y) = (inB x lo 14 && decide (x ≤ y)) := by
 unfold inB
 split
 ·by_cases h : lo ≤ x ∧ x ≤ 14
  ·rw [decide_eq_true h,decide_eq_true (show x ≤ y by omega)];rfl
  ·rw [decide_eq_false h];rfl
 ·by_cases h : lo ≤ x ∧ x ≤ y
  ·rw [decide_eq_true h,decide_eq_true (show lo ≤ x ∧ x ≤ 14 by omega),decide_eq_true (show x ≤ y by omega)];rfl
  ·rw [decide_eq_false h]
   by_cases h2 : x ≤ y
   ·rw [decide_eq_false (show ¬ (lo ≤ x ∧ x ≤ 14) by omega)];rfl
   ·rw [decide_eq_false h2];simp
set_option maxHeartbeats 4000000 in
set_option maxRecDepth 100000 in
theorem badMatrix_any (g : GameD) (av tv : Value) (w : World) :
  Calls Tryz.prog 69 #[gameVal g av tv] w (StrE (matB g) w) := by
 obtain ⟨r,hr⟩ : ∃ r,r = matB g := ⟨_,rfl⟩
 rw [← hr]
 obtain ⟨gname,gkind,gprice,gmain,gof,gbonus,gbonusOf,gextra,gdraws,gsystem,gdays,gat,gclose,gcancel,gexpiry,gpool,greserve,ground,gcap,grolls,ga,gt⟩ := g
 unfold gameVal
 unfold matB at hr
 simp only [] at hr ⊢
 by_cases hk : gkind = 2
 ·subst hk
  by_cases hb : gbonus = 0
  ·subst hb
   replace hr := hide hr
   go_enter Tryz.func69,Tryz.ntmps69
   go_wp2_with (first | (go_at_call 98;refine (within_any _ _ _ _).mono ?_;rintro e w' ⟨rfl,rfl⟩) | fail)
   all_goals
    go_ret
    replace hr := hr.out
    refine ⟨_,rfl,?_,?_,Bel.al (Below.refl _ _) _⟩
    all_goals
     intro hq
     (simp_all <;> omega)
  ·have hbb : (gbonus != 0) = true := by simpa using hb
   rw [if_neg hb] at hr
   replace hb := hide hb
   replace hr := hide hr
   go_enter Tryz.func69,Tryz.ntmps69
   go_wp2_with (first | (go_at_call 98;refine (within_any _ _ _ _).mono ?_;rintro e w' ⟨rfl,rfl⟩) | fail)
   all_goals
    go_ret
    replace hr := hr.out
    refine ⟨_,rfl,?_,?_,Bel.al (Below.refl _ _) _⟩
    all_goals
     intro hq
     (simp_all <;> omega)
 ·have hkb : (gkind == 2) = false := by simpa using hk
  rw [if_neg hk,if_neg hk,if_neg hk,if_neg hk,← inB_min] at hr
  replace hk := hide hk
  have h14 : (14 : Int) ≤ gof ∨ gof < 14 := by omega
  by_cases hb : gbonus = 0
  ·subst hb
   rcases h14 with h14 | h14
   ·rw [if_pos h14] at hr
    replace hr := hide hr
    by_cases hm : inB gmain 1 10 = true
    ·by_cases he : inB gextra 0 4 = true
     ·have m1 := (inB_iff.1 hm).1
      have m2 := (inB_iff.1 hm).2
      have x1 := (inB_iff.1 he).1
      have x2 := (inB_iff.1 he).2
      go_enter Tryz.func69,Tryz.ntmps69
      go_wp2_with (first | (go_at_call 98;refine (within_any _ _ _ _).mono ?_;rintro e w' ⟨rfl,rfl⟩) | fail)
      all_goals
       go_ret
       replace hr := hr.out
       refine ⟨_,rfl,?_,?_,Bel.al (Below.refl _ _) _⟩
       all_goals
        intro hq
        (simp_all <;> omega)
     ·replace he : inB gextra 0 4 = false := by simpa using he
      go_enter Tryz.func69,Tryz.ntmps69
      go_wp2_with (first | (go_at_call 98;refine (within_any _ _ _ _).mono ?_;rintro e w' ⟨rfl,rfl⟩) | fail)
      all_goals
       go_ret
       replace hr := hr.out
       refine ⟨_,rfl,?_,?_,Bel.al (Below.refl _ _) _⟩
       all_goals
        intro hq
        (simp_all <;> omega)
    ·replace hm : inB gmain 1 10 = false := by simpa using hm
     go_enter Tryz.func69,Tryz.ntmps69
     go_wp2_with (first | (go_at_call 98;refine (within_any _ _ _ _).mono ?_;rintro e w' ⟨rfl,rfl⟩) | fail)
     all_goals
      go_ret
      replace hr := hr.out
      refine ⟨_,rfl,?_,?_,Bel.al (Below.refl _ _) _⟩
      all_goals
       intro hq
       (simp_all <;> omega)
   ·rw [if_neg (show ¬ (14 : Int) ≤ gof by omega)] at hr
    replace hr := hide hr
    by_cases hm : inB gmain 1 10 = true
    ·by_cases he : inB gextra 0 4 = true
     ·have m1 := (inB_iff.1 hm).1
      have m2 := (inB_iff.1 hm).2
      have x1 := (inB_iff.1 he).1
      have x2 := (inB_iff.1 he).2
      go_enter Tryz.func69,Tryz.ntmps69
      go_wp2_with (first | (go_at_call 98;refine (within_any _ _ _ _).mono ?_;rintro e w' ⟨rfl,rfl⟩) | fail)
      all_goals
       go_ret
       replace hr := hr.out
       refine ⟨_,rfl,?_,?_,Bel.al (Below.refl _ _) _⟩
       all_goals
        intro hq
        (simp_all <;> omega)
     ·replace he : inB gextra 0 4 = false := by simpa using he
      go_enter Tryz.func69,Tryz.ntmps69
      go_wp2_with (first | (go_at_call 98;refine (within_any _ _ _ _).mono ?_;rintro e w' ⟨rfl,rfl⟩) | fail)
      all_goals
       go_ret
       replace hr := hr.out
       refine ⟨_,rfl,?_,?_,Bel.al (Below.refl _ _) _⟩
       all_goals
        intro hq
        (simp_all <;> omega)
    ·replace hm : inB gmain 1 10 = false := by simpa using hm
     go_enter Tryz.func69,Tryz.ntmps69
     go_wp2_with (first | (go_at_call 98;refine (within_any _ _ _ _).mono ?_;rintro e w' ⟨rfl,rfl⟩) | fail)
     all_goals
      go_ret
      replace hr := hr.out
      refine ⟨_,rfl,?_,?_,Bel.al (Below.refl _ _) _⟩
      all_goals
       intro hq
       (simp_all <;> omega)
  ·have hbb : (gbonus != 0) = true := by simpa using hb
   rw [if_neg hb] at hr
   replace hb := hide hb
   rcases h14 with h14 | h14
   ·rw [if_pos h14] at hr
    replace hr := hide hr
    by_cases hm : inB gmain 1 10 = true
    ·by_cases he : inB gextra 0 4 = true
     ·have m1 := (inB_iff.1 hm).1
      have m2 := (inB_iff.1 hm).2
      have x1 := (inB_iff.1 he).1
      have x2 := (inB_iff.1 he).2
      go_enter Tryz.func69,Tryz.ntmps69
      go_wp2_with (first | (go_at_call 98;refine (within_any _ _ _ _).mono ?_;rintro e w' ⟨rfl,rfl⟩) | fail)
      all_goals
       go_ret
       replace hr := hr.out
       refine ⟨_,rfl,?_,?_,Bel.al (Below.refl _ _) _⟩
       all_goals
        intro hq
        (simp_all <;> omega)
     ·replace he : inB gextra 0 4 = false := by simpa using he
      go_enter Tryz.func69,Tryz.ntmps69
      go_wp2_with (first | (go_at_call 98;refine (within_any _ _ _ _).mono ?_;rintro e w' ⟨rfl,rfl⟩) | fail)
      all_goals
       go_ret
       replace hr := hr.out
       refine ⟨_,rfl,?_,?_,Bel.al (Below.refl _ _) _⟩
       all_goals
        intro hq
        (simp_all <;> omega)
    ·replace hm : inB gmain 1 10 = false := by simpa using hm
     go_enter Tryz.func69,Tryz.ntmps69
     go_wp2_with (first | (go_at_call 98;refine (within_any _ _ _ _).mono ?_;rintro e w' ⟨rfl,rfl⟩) | fail)
     all_goals
      go_ret
      replace hr := hr.out
      refine ⟨_,rfl,?_,?_,Bel.al (Below.refl _ _) _⟩
      all_goals
       intro hq
       (simp_all <;> omega)
   ·rw [if_neg (show ¬ (14 : Int) ≤ gof by omega)] at hr
    replace hr := hide hr
    by_cases hm : inB gmain 1 10 = true
    ·by_cases he : inB gextra 0 4 = true
     ·have m1 := (inB_iff.1 hm).1
      have m2 := (inB_iff.1 hm).2
      have x1 := (inB_iff.1 he).1
      have x2 := (inB_iff.1 he).2
      go_enter Tryz.func69,Tryz.ntmps69
      go_wp2_with (first | (go_at_call 98;refine (within_any _ _ _ _).mono ?_;rintro e w' ⟨rfl,rfl⟩) | fail)
      all_goals
       go_ret
       replace hr := hr.out
       refine ⟨_,rfl,?_,?_,Bel.al (Below.refl _ _) _⟩
       all_goals
        intro hq
        (simp_all <;> omega)
     ·replace he : inB gextra 0 4 = false := by simpa using he
      go_enter Tryz.func69,Tryz.ntmps69
      go_wp2_with (first | (go_at_call 98;refine (within_any _ _ _ _).mono ?_;rintro e w' ⟨rfl,rfl⟩) | fail)
      all_goals
       go_ret
       replace hr := hr.out
       refine ⟨_,rfl,?_,?_,Bel.al (Below.refl _ _) _⟩
       all_goals
        intro hq
        (simp_all <;> omega)
    ·replace hm : inB gmain 1 10 = false := by simpa using hm
     go_enter Tryz.func69,Tryz.ntmps69
     go_wp2_with (first | (go_at_call 98;refine (within_any _ _ _ _).mono ?_;rintro e w' ⟨rfl,rfl⟩) | fail)
     all_goals
      go_ret
      replace hr := hr.out
      refine ⟨_,rfl,?_,?_,Bel.al (Below.refl _ _) _⟩
      all_goals
       intro hq
       (simp_all <;> omega)
theorem bytes_loop_len (s : ByteArray) : ∀ i r,(ByteArray.toList.loop s i r).length = (s.size - i) + r.length := by
 intro i r
 induction i,r using ByteArray.toList.loop.induct s with
 | case1 i r h ih => unfold ByteArray.toList.loop;rw [if_pos h,ih];simp;omega
 | case2 i r h => unfold ByteArray.toList.loop;rw [if_neg h];simp;omega
theorem bytes_toList_len (s : ByteArray) : s.toList.length = s.size := by
 unfold ByteArray.toList;rw [bytes_loop_len];simp
theorem str_ne (s : ByteArray) (h : s ≠ ⟨#[]⟩) : s.toList.isEmpty = false := by
 cases hs : s.toList with
 | cons a l => rfl
 | nil =>
  exfalso
  have h1 := bytes_toList_len s
  rw [hs] at h1
  obtain ⟨⟨l⟩⟩ := s
  have : l.length = 0 := h1.symm
  exact h (by rw [List.length_eq_zero_iff.1 this])
def ErrS (c : Int) (w : World) (e : Ending) (w' : World) : Prop := ∃ s : ByteArray,e = .returned (.tuple #[.int .i64 c,.string s]) ∧ Below w.heap.size w w'
set_option maxHeartbeats 2000000 in
set_option maxRecDepth 100000 in
theorem gcheck_any (g : GameD) (av tv : Value) (ms : List AddonM) (w : World) (h : GameR w av tv ms g) :
  Calls Tryz.prog 40 #[gameVal g av tv] w (ErrS (gameE g) w) := by
 obtain ⟨h1,h2,h3⟩ := h
 obtain ⟨aa,ac,rfl,hal,ham⟩ := h1.1.shape
 obtain ⟨ta,tc,rfl,htl,htm⟩ := h3.shape
 obtain ⟨r,hr⟩ : ∃ r,r = gameE g := ⟨_,rfl⟩
 rw [← hr]
 unfold gameE at hr
 have cm := hide (fun X => badMatrix_any g (.slice aa ms.length ac) (.slice ta g.tiers.length tc) X)
 have ct := hide (fun X => badTerms_any g (.slice aa ms.length ac) (.slice ta g.tiers.length tc) X)
 have cg := hide (fun X (hX : RdS 6 tierCells X (.slice ta g.tiers.length tc) g.tiers) => checkTiers_any g (.slice aa ms.length ac) _ X hX ⟨_,_,_,rfl⟩)
 have ca := hide (fun X (hX : AddonsR X (.slice aa ms.length ac) ms) => checkAddons_any _ ms X hX)
 rw [h2] at ca
 obtain ⟨cmv,hcm⟩ : ∃ c,c = matB g := ⟨_,rfl⟩
 obtain ⟨ctv,hct⟩ : ∃ c,c = termB g := ⟨_,rfl⟩
 obtain ⟨cgv,hcg⟩ : ∃ c,c = tiersE g := ⟨_,rfl⟩
 obtain ⟨cav,hca⟩ : ∃ c,c = addonsE g.addons := ⟨_,rfl⟩
 obtain ⟨nm,hnm⟩ : ∃ b,b = nameB g.name := ⟨_,rfl⟩
 rw [← hcm,← hct,← hcg,← hca,← hnm] at hr
 rw [← hcm] at cm
 rw [← hct] at ct
 rw [← hcg] at cg
 rw [← hca] at ca
 clear hcm hct hcg hca h2
 replace h1 := hide h1
 replace h3 := hide h3
 obtain ⟨gname,gkind,gprice,gmain,gof,gbonus,gbonusOf,gextra,gdraws,gsystem,gdays,gat,gclose,gcancel,gexpiry,gpool,greserve,ground,gcap,grolls,ga,gt⟩ := g
 (try simp only [] at hr hnm cm ct cg h3 htl)
 unfold gameVal at cm ct cg ⊢
 (try simp only [] at cm ct cg ⊢)
 replace hr := hide hr
 replace hnm := hide hnm
 go_enter Tryz.func40,Tryz.ntmps40
 go_upto_region 1 with (fail)
 obtain ⟨W,hW⟩ : ∃ W,W = (w.alloc (Obj.cells #[.string gname,.int .i64 gkind,.int .i64 gprice,.int .i64 gmain,.int .i64 gof,.int .i64 gbonus,.int .i64 gbonusOf,.int .i64 gextra,.int .i64 gdraws,.int .i64 gsystem,.int .i64 gdays,.int .i64 gat,.int .i64 gclose,.int .i64 gcancel,.int .i64 gexpiry,.int .i64 gpool,.int .i64 greserve,.int .i64 ground,.int .i64 gcap,.int .i64 grolls,(.slice aa ms.length ac),(.slice ta gt.length tc)] 25)) := ⟨_,rfl⟩
 have bW : Below w.heap.size w W := by rw [hW];exact Bel.al (Below.refl _ _) _
 have r0 : Row W (w.heap.size) 25 [.string gname,.int .i64 gkind,.int .i64 gprice,.int .i64 gmain,.int .i64 gof,.int .i64 gbonus,.int .i64 gbonusOf,.int .i64 gextra,.int .i64 gdraws,.int .i64 gsystem,.int .i64 gdays,.int .i64 gat,.int .i64 gclose,.int .i64 gcancel,.int .i64 gexpiry,.int .i64 gpool,.int .i64 greserve,.int .i64 ground,.int .i64 gcap,.int .i64 grolls,(.slice aa ms.length ac),(.slice ta gt.length tc)] := by rw [hW];exact Row.new _ _ _
 have c0_0 : W.cell? ⟨w.heap.size,0,none⟩ = some (.string gname) := Row.cell r0 (i := 0) (by simp)
 have c0_1 : W.cell? ⟨w.heap.size,1,none⟩ = some (.int .i64 gkind) := Row.cell r0 (i := 1) (by simp)
 have c0_20 : W.cell? ⟨w.heap.size,20,none⟩ = some ((.slice aa ms.length ac)) := Row.cell r0 (i := 20) (by simp)
 have sW : w.heap.size < W.heap.size := by rw [hW];simp
 rw [← hW]
 clear hW
 go_wp2_with fail
 refine (name_any _ _).mono ?_
 rintro e w' ⟨rfl,rfl⟩
 rw [← hnm.out]
 cases nm
 ·have hr2 : r = 4 := by rw [hr.out];simp
  replace hr2 := hide hr2
  clear hr
  go_wp2
  go_ret2
  rw [hr2.out]
  exact ⟨_,rfl,bW⟩
 ·by_cases hk : gkind = 1 ∨ gkind = 2
  ·have hr2 : r = if cmv = false then 2 else if ctv = false then 2 else if cav ≠ 0 then cav else cgv := by
    rw [hr.out,if_neg (by simp),if_neg (by omega)]
   replace hr2 := hide hr2
   clear hr
   have hcm2 := hide cm.out
   rcases hk with rfl | rfl
   all_goals
    go_wp2_with (first | (refine wpList_load_row rfl 25 _ rfl _ rfl _ _ _ _ r0 Tryz.underlying25 rfl (by kernel_rfl) ?_) | fail)
    refine (cm.out _).mono ?_
    rintro e w1 ⟨s1,rfl,hs1,hs1',hb1⟩
    have B1 := Bel.to bW hb1
    have q1 := Row.keep r0 hb1
    have d1 := Bel.cellOf hb1 c0_20
    clear hb1 r0 c0_0 c0_1 c0_20 cm
    cases cmv
    ·have hr3 : r = 2 := by rw [hr2.out];simp
     have hne := hs1' rfl
     have hne2 : s1.toList.isEmpty = false := str_ne _ hne
     replace hr3 := hide hr3
     clear hs1 hs1'
     go_wp2
     go_ret2
     rw [hr3.out]
     exact ⟨_,rfl,B1⟩
    ·have he := hs1 rfl
     subst he
     clear hs1 hs1'
     go_wp2_with (first | (refine wpList_load_row rfl 25 _ rfl _ rfl _ _ _ _ q1 Tryz.underlying25 rfl (by kernel_rfl) ?_) | fail)
     refine (ct.out _).mono ?_
     rintro e w2 ⟨s2,rfl,hs2,hs2',hb2⟩
     have B2 := Bel.to B1 hb2
     have q2 := Row.keep q1 hb2
     have d2 := Bel.cellOf hb2 d1
     clear hb2 q1 d1 ct
     cases ctv
     ·have hr3 : r = 2 := by rw [hr2.out];simp
      have hne := hs2' rfl
      have hne2 : s2.toList.isEmpty = false := str_ne _ hne
      replace hr3 := hide hr3
      clear hs2 hs2'
      go_wp2
      go_ret2
      rw [hr3.out]
      exact ⟨_,rfl,B2⟩
     ·have he := hs2 rfl
      subst he
      clear hs2 hs2'
      go_wp2_with fail
      refine (ca.out _ (h1.out.below B2)).mono ?_
      rintro e w3 ⟨rfl,hb3⟩
      have B3 := Bel.to B2 hb3
      have q3 := Row.keep q2 hb3
      clear hb3 q2 d2 ca
      by_cases hc0 : cav = 0
      ·have hr3 : r = cgv := by rw [hr2.out,if_neg (by simp),if_neg (by simp),if_neg (by simpa using hc0)]
       replace hr3 := hide hr3
       subst hc0
       go_wp2_with (first | (refine wpList_load_row rfl 25 _ rfl _ rfl _ _ _ _ q3 Tryz.underlying25 rfl (by kernel_rfl) ?_) | fail)
       refine (cg.out _ (h3.out.below B3)).mono ?_
       rintro e w4 ⟨rfl,hb4⟩
       by_cases hc1 : cgv = 0
       ·subst hc1
        go_wp2
        go_ret2
        rw [hr3.out]
        exact ⟨_,rfl,Bel.to B3 hb4⟩
       ·have hcb : (cgv != 0) = true := by simpa using hc1
        replace hc1 := hide hc1
        go_wp2
        go_ret2
        rw [hr3.out]
        exact ⟨_,rfl,Bel.to B3 hb4⟩
      ·have hr3 : r = cav := by rw [hr2.out,if_neg (by simp),if_neg (by simp),if_pos hc0]
       have hcb : (cav != 0) = true := by simpa using hc0
       replace hr3 := hide hr3
       replace hc0 := hide hc0
       go_wp2
       go_ret2
       rw [hr3.out]
       exact ⟨_,rfl,B3⟩
  ·have hr2 : r = 7 := by rw [hr.out,if_neg (by simp),if_pos (by omega)]
   replace hr2 := hide hr2
   have k1 : (gkind != 1) = true := by simp;omega
   have k2 : (gkind != 2) = true := by simp;omega
   clear hr hk
   go_wp2
   go_ret2
   rw [hr2.out]
   exact ⟨_,rfl,bW⟩
end Go.Proofs.YtelgllgaofjgjaaGreat
end

/- Lemmas, merged out of smaller texts (wip/tools/mergedce.py). No condition. -/
import Derived.Deep.RegionHeld
import Derived.WalkKit
import Derived.Maps.OwnOps
import Derived.Maps.OwnSet
import Derived.Maps.Views
import Derived.Test.YtelgllgaofjgjaaGreatProg
import Derived.DeepKeys4
import Derived.Sort.Statements
import Derived.Lib.SlBy
import Derived.Deep.MidRow
import Derived.Test.YtelgllgaofjgjaaGreatHCore
import Derived.Test.YtelgllgaofjgjaaGreatHWinA
import Derived.Test.YtelgllgaofjgjaaGreatHBetA
import Derived.Test.YtelgllgaofjgjaaGreatHSysB
import Derived.Test.YtelgllgaofjgjaaGreatHLine
section
set_option linter.unusedVariables false
set_option linter.unusedSimpArgs false
open Go
namespace Go.Proofs.YtelgllgaofjgjaaGreat
section
variable {P : Program} {ops : Array Oper} {Q : Exit → Act → World → Prop} {md : Region.Mode} {F : World → Prop} {k : Nat}
def TillK (P : Program) (md : Region.Mode) (ops : Array Oper) (Q : Exit → Act → World → Prop) (F : World → Prop) (k : Nat) : Nat → Array Bool → Act → World → Prop
 | 0,listed,a,w => Region.ready md ops listed = [] ∧ Q .normal a w
 | fuel + 1,listed,a,w =>
  (Region.ready md ops listed = [] → Q .normal a w) ∧
  ∀ i ∈ Region.ready md ops listed,wpOp P ops Q i (fun a' w' => ((listed.setIfInBounds i true).getD k true = false → F w') ∧ TillK P md ops Q F k fuel (listed.setIfInBounds i true) a' w') a w
theorem till_any : ∀ (fuel : Nat) (listed : Array Bool) (a : Act) (w : World),TillK P md ops Q F k fuel listed a w → wpAny P md ops Q fuel listed a w
 | 0,_,_,_,h => h
 | fuel + 1,_,_,_,h => ⟨h.1,fun i hi => wpOp_mono (fun a' w' h' => till_any fuel _ a' w' h'.2) (h.2 i hi)⟩
def waitsB (md : Region.Mode) (ops : Array Oper) (k i : Nat) : Bool := match ops[k]? with
 | some o => o.after.any fun e => Region.binds md e && (e.on == i)
 | none => false
theorem till_first {i : Nat} {oi : Oper} {v : Value} (hi : ops[i]? = some oi) (hsel : ∀ (j : Nat) (o : Oper) cs b,ops[j]? = some o → o.op ≠ .select cs b)
  (hQ : ∀ c a w,Q (.panic c) (a.put oi.dst v) w → Q (.panic c) a w) (hki : waitsB md ops k i = true) (hne : k ≠ i) :
  ∀ (fuel : Nat) (listed : Array Bool) (a : Act) (w : World),
   (∀ j oj,ops[j]? = some oj → j ≠ i → listed.getD j true = false → (∀ e ∈ oj.after,Region.binds md e = true → e.on ≠ i) → oi.apart ops oj = true) →
   i ∈ Region.ready md ops listed → listed.getD k true = false → YieldsIf P ops F oi v a → F w →
   TillK P md ops Q F k fuel (listed.setIfInBounds i true) (a.put oi.dst v) w → TillK P md ops Q F k (fuel + 1) listed a w := by
 intro fuel
 induction fuel with
 | zero =>
  intro listed a w _ hr hkl hy hS H
  refine ⟨fun h => (by rw [h] at hr;cases hr),fun j hj => ?_⟩
  by_cases hji : j = i
  ·subst hji;exact hy.wpOp hi hS ⟨fun _ => hS,H⟩
  ·have := ready_mono hj hji
   rw [H.1] at this
   cases this
 | succ fuel ih =>
  intro listed a w hfree hr hkl hy hS H
  refine ⟨fun h => (by rw [h] at hr;cases hr),fun j hj => ?_⟩
  by_cases hji : j = i
  ·subst hji;exact hy.wpOp hi hS ⟨fun _ => hS,H⟩
  ·have h1 := H.2 j (ready_mono hj hji)
   obtain ⟨hjun,oj,hoj,hall⟩ := mem_ready.1 hj
   have hnot : ∀ e ∈ oj.after,Region.binds md e = true → e.on ≠ i := fun e he hb heq => by
    have h1 := hall e he hb
    have h0 := (mem_ready.1 hr).1
    rw [heq] at h1
    rcases Nat.lt_or_ge i listed.size with h' | h'
    ·simp [h'] at h0 h1;rw [h0] at h1;cases h1
    ·simp [Array.getElem?_eq_none h'] at h1
   have hjk : j ≠ k := by
    intro e
    subst e
    unfold waitsB at hki
    rw [hoj] at hki
    simp only [Array.any_eq_true'] at hki
    obtain ⟨e,he,hb⟩ := hki
    simp only [Bool.and_eq_true,beq_iff_eq] at hb
    exact hnot e he hb.1 hb.2
   have h2 := wpOp_putIf hoj (hfree j oj hoj hji hjun hnot) (fun cs b => hsel i oi cs b hi) (fun cs b => hsel j oj cs b hoj) hQ hy h1
   have hfree' : ∀ m om,ops[m]? = some om → m ≠ i → (listed.setIfInBounds j true).getD m true = false →
     (∀ e ∈ om.after,Region.binds md e = true → e.on ≠ i) → oi.apart ops om = true := fun m om hm hmi hun hno => by
    refine hfree m om hm hmi ?_ hno
    by_cases hjm : j = m
    ·subst hjm;exact hjun
    ·rw [getD_set_ne true hjm] at hun;exact hun
   have hkl' : (listed.setIfInBounds j true).getD k true = false := by rw [getD_set_ne true hjk];exact hkl
   refine wpOp_mono (fun a' w' h3 => ?_) h2
   have hF : F w' := h3.2.1 (by rw [getD_set_ne true hjk,getD_set_ne true (Ne.symm hne)];exact hkl)
   refine ⟨fun _ => hF,ih (listed.setIfInBounds j true) a' w' hfree' (ready_mono hr (Ne.symm hji)) hkl' h3.1 hF ?_⟩
   rw [Array.setIfInBounds_comm _ _ hji]
   exact h3.2.2
theorem till_pure0 {i : Nat} {oi : Oper} {v : Value} (hi : ops[i]? = some oi) (hsel : ∀ (j : Nat) (o : Oper) cs b,ops[j]? = some o → o.op ≠ .select cs b)
  (hQ : ∀ c a w,Q (.panic c) (a.put oi.dst v) w → Q (.panic c) a w) (hne : k ≠ i) :
  ∀ (fuel : Nat) (listed : Array Bool) (a : Act) (w : World),
   (∀ j oj,ops[j]? = some oj → j ≠ i → listed.getD j true = false → (∀ e ∈ oj.after,Region.binds md e = true → e.on ≠ i) → oi.apart ops oj = true) →
   i ∈ Region.ready md ops listed → YieldsIf P ops (fun _ => True) oi v a → ((listed.getD k true = false) → F w) →
   TillK P md ops Q F k fuel (listed.setIfInBounds i true) (a.put oi.dst v) w → TillK P md ops Q F k (fuel + 1) listed a w := by
 intro fuel
 induction fuel with
 | zero =>
  intro listed a w _ hr hy hS H
  refine ⟨fun h => (by rw [h] at hr;cases hr),fun j hj => ?_⟩
  by_cases hji : j = i
  ·subst hji;exact hy.wpOp hi trivial ⟨fun h => hS (by rw [getD_set_ne true (Ne.symm hne)] at h;exact h),H⟩
  ·have := ready_mono hj hji
   rw [H.1] at this
   cases this
 | succ fuel ih =>
  intro listed a w hfree hr hy hS H
  refine ⟨fun h => (by rw [h] at hr;cases hr),fun j hj => ?_⟩
  by_cases hji : j = i
  ·subst hji;exact hy.wpOp hi trivial ⟨fun h => hS (by rw [getD_set_ne true (Ne.symm hne)] at h;exact h),H⟩
  ·have h1 := H.2 j (ready_mono hj hji)
   obtain ⟨hjun,oj,hoj,hall⟩ := mem_ready.1 hj
   have hnot : ∀ e ∈ oj.after,Region.binds md e = true → e.on ≠ i := fun e he hb heq => by
    have h1 := hall e he hb
    have h0 := (mem_ready.1 hr).1
    rw [heq] at h1
    rcases Nat.lt_or_ge i listed.size with h' | h'
    ·simp [h'] at h0 h1;rw [h0] at h1;cases h1
    ·simp [Array.getElem?_eq_none h'] at h1
   have h2 := wpOp_putIf hoj (hfree j oj hoj hji hjun hnot) (fun cs b => hsel i oi cs b hi) (fun cs b => hsel j oj cs b hoj) hQ hy h1
   have hfree' : ∀ m om,ops[m]? = some om → m ≠ i → (listed.setIfInBounds j true).getD m true = false →
     (∀ e ∈ om.after,Region.binds md e = true → e.on ≠ i) → oi.apart ops om = true := fun m om hm hmi hun hno => by
    refine hfree m om hm hmi ?_ hno
    by_cases hjm : j = m
    ·subst hjm;exact hjun
    ·rw [getD_set_ne true hjm] at hun;exact hun
   refine wpOp_mono (fun a' w' h3 => ?_) h2
   have hF : (listed.setIfInBounds j true).getD k true = false → F w' := fun h => h3.2.1 (by
    by_cases hjk : j = k
    ·subst hjk
     rw [Array.setIfInBounds_comm _ _ (Ne.symm hji),getD_set_ne true (Ne.symm hne)]
     exact h
    ·rw [getD_set_ne true hjk] at h ⊢
     rw [getD_set_ne true (Ne.symm hne)]
     exact h)
   refine ⟨hF,ih (listed.setIfInBounds j true) a' w' hfree' (ready_mono hr (Ne.symm hji)) h3.1 hF ?_⟩
   rw [Array.setIfInBounds_comm _ _ hji]
   exact h3.2.2
theorem till_pure {i : Nat} {oi : Oper} {v : Value} {fuel : Nat} {listed : Array Bool} {a : Act} {w : World} (hi : ops[i]? = some oi)
  (hs : Region.noSelect ops = true) (hf : Region.free md ops listed i = true) (hr : (Region.ready md ops listed).contains i = true) (hk : (k != i) = true)
  (hQ : ∀ c a w,Q (.panic c) (a.put oi.dst v) w → Q (.panic c) a w) (hy : YieldsIf P ops (fun _ => True) oi v a) (hS : F w)
  (h : TillK P md ops Q F k fuel (listed.setIfInBounds i true) (a.put oi.dst v) w) : TillK P md ops Q F k (fuel + 1) listed a w :=
 till_pure0 hi (Region.noSelect_spec hs) hQ (bne_iff_ne.1 hk) fuel listed a w (Region.free_spec hi hf) (by simpa using hr) hy (fun _ => hS) h
theorem till_take {i : Nat} {oi : Oper} {v : Value} {fuel : Nat} {listed : Array Bool} {a : Act} {w : World} (hi : ops[i]? = some oi)
  (hs : Region.noSelect ops = true) (hf : Region.free md ops listed i = true) (hr : (Region.ready md ops listed).contains i = true)
  (hk : (waitsB md ops k i && (k != i) && (listed.getD k true == false)) = true)
  (hQ : ∀ c a w,Q (.panic c) (a.put oi.dst v) w → Q (.panic c) a w) (hy : YieldsIf P ops F oi v a) (hS : F w)
  (h : TillK P md ops Q F k fuel (listed.setIfInBounds i true) (a.put oi.dst v) w) : TillK P md ops Q F k (fuel + 1) listed a w := by
 simp only [Bool.and_eq_true,bne_iff_ne,beq_iff_eq] at hk
 exact till_first hi (Region.noSelect_spec hs) hQ hk.1.1 hk.1.2 fuel listed a w (Region.free_spec hi hf) (by simpa using hr) hk.2 hy hS h
def TillReady (P : Program) (md : Region.Mode) (ops : Array Oper) (Q : Exit → Act → World → Prop) (F : World → Prop) (k fuel : Nat) (listed : Array Bool) (a : Act) (w : World) (rs : List Nat) : Prop :=
 ∀ i ∈ rs,wpOp P ops Q i (fun a' w' => ((listed.setIfInBounds i true).getD k true = false → F w') ∧ TillK P md ops Q F k fuel (listed.setIfInBounds i true) a' w') a w
theorem TillReady.nil {fuel : Nat} {listed : Array Bool} {a : Act} {w : World} : TillReady P md ops Q F k fuel listed a w [] := fun _ h => by cases h
theorem TillReady.cons {fuel : Nat} {listed : Array Bool} {a : Act} {w : World} {i : Nat} {o : Oper} {rs : List Nat} (ho : ops[i]? = some o)
  (h : ∀ K' : Act → World → Prop,Shut (∀ a w,F w → (F w → TillK P md ops Q F k fuel (listed.setIfInBounds i true) a w) → K' a w) → if Region.wanted o (yielded ops a.tmps) = true then Oper.wp P o a w K' Q else K' (a.put o.dst undef) w)
  (hs : TillReady P md ops Q F k fuel listed a w rs) : TillReady P md ops Q F k fuel listed a w (i :: rs) := fun j hj => by
 rcases List.mem_cons.1 hj with rfl | hj
 ·exact wpOp_step ho (fun K' hK => h K' (fun a w hS hW => hK a w ⟨fun _ => hS,hW hS⟩))
 ·exact hs j hj
theorem TillReady.last {fuel : Nat} {listed : Array Bool} {a : Act} {w : World} {i : Nat} {o : Oper} {rs : List Nat} (ho : ops[i]? = some o) (hl : (listed.setIfInBounds i true).getD k true = true)
  (h : ∀ K' : Act → World → Prop,Shut (∀ a w,TillK P md ops Q F k fuel (listed.setIfInBounds i true) a w → K' a w) → if Region.wanted o (yielded ops a.tmps) = true then Oper.wp P o a w K' Q else K' (a.put o.dst undef) w)
  (hs : TillReady P md ops Q F k fuel listed a w rs) : TillReady P md ops Q F k fuel listed a w (i :: rs) := fun j hj => by
 rcases List.mem_cons.1 hj with rfl | hj
 ·exact wpOp_step ho (fun K' hK => h K' (fun a w hW => hK a w ⟨fun h => absurd h (by rw [hl];simp),hW⟩))
 ·exact hs j hj
theorem till_ready {rs : List Nat} {fuel : Nat} {listed : Array Bool} {a : Act} {w : World} (hr : Region.ready md ops listed = rs) (hne : rs ≠ [])
  (h : TillReady P md ops Q F k fuel listed a w rs) : TillK P md ops Q F k (fuel + 1) listed a w :=
 ⟨fun h0 => absurd (hr ▸ h0) hne,hr ▸ h⟩
theorem till_done {listed : Array Bool} {a : Act} {w : World} (hr : Region.ready md ops listed = []) (h : Q .normal a w) :
  ∀ fuel,TillK P md ops Q F k fuel listed a w
 | 0 => ⟨hr,h⟩
 | _ + 1 => ⟨fun _ => h,by rw [hr];simp⟩
theorem till_begin {id : Nat} {a : Act} {w : World} (k : Nat) (F : World → Prop) (hm : P.follows .mixedOrders = true) (hF : F w.drew)
  (h : F w.drew → TillK P .any ops Q F k ops.size (Array.replicate ops.size false) a w.drew) : (Code.region id ops true).wp P Q a w :=
 wp_region_any hm (till_any _ _ _ _ (h hF))
theorem till_late {i : Nat} {oi : Oper} {v : Value} {fuel : Nat} {listed : Array Bool} {a : Act} {w : World} (hi : ops[i]? = some oi)
  (hl : (listed.setIfInBounds i true).getD k true = true) (hr : Region.ready md ops listed = [i]) (hy : YieldsIf P ops (fun _ => True) oi v a)
  (h : TillK P md ops Q F k fuel (listed.setIfInBounds i true) (a.put oi.dst v) w) : TillK P md ops Q F k (fuel + 1) listed a w := by
 refine till_ready hr (by simp) fun j hj => ?_
 rcases List.mem_singleton.1 hj with rfl
 exact hy.wpOp hi trivial ⟨fun h => absurd h (by rw [hl];simp),h⟩
end
end Go.Proofs.YtelgllgaofjgjaaGreat
end
section
open Go.RowKit
set_option linter.unusedVariables false
set_option linter.unusedSimpArgs false
namespace Go.Proofs.YtelgllgaofjgjaaGreat
open Go.ChangeMaps Go.MapKept
open Go.Maps (Keyed)
def heldR (v : Value) : Option (DataW Value × List MemPlace) := some (.held v,[])
def MapV {α : Type} (P : Program) (k : TypeId) (kV : α → Value) (w : World) (b n : Nat) (f : α → Option Value) : Prop :=
 ∃ D : DataW Value,w.ownsMap P k heldR b n D ∧ ∀ key kl,keyOf P k (kV key) = some kl → ∀ z,D.atKey kl (.held z) = .held ((f key).getD z)
section
variable {α : Type} {P : Program} {k : TypeId} {kV : α → Value} {w : World} {b n : Nat} {f : α → Option Value}
theorem MapV.made (w : World) (P : Program) (k : TypeId) (kV : α → Value) : MapV P k kV (w.alloc (.map #[] 0)) w.heap.size 0 fun _ => none :=
 ⟨.map [],World.ownsMap_made w P k heldR,fun _ _ _ z => rfl⟩
theorem MapV.ofEmpty (P : Program) (k : TypeId) (kV : α → Value) (h : w.heap[b]? = some (.map #[] 0)) : MapV P k kV w b 0 fun _ => none :=
 ⟨.map [],⟨#[],0,h,⟨by simp,stamped_empty 0,by simp⟩,Nat.le_refl _,rfl⟩,fun _ _ _ z => rfl⟩
theorem MapV.lt (h : MapV P k kV w b n f) : b < w.heap.size := h.choose_spec.1.lt
theorem MapV.kept {X : World} {row : Option Nat} (h : MapV P k kV w b n f) (hg : w.grownBy X row) (hne : some b ≠ row) : MapV P k kV X b n f := by
 obtain ⟨D,h1,h2⟩ := h
 exact ⟨D,h1.kept hg hne,h2⟩
theorem MapV.congr {g : α → Option Value} (h : MapV P k kV w b n f) (hfg : ∀ x,f x = g x) : MapV P k kV w b n g := by
 obtain ⟨D,h1,h2⟩ := h
 exact ⟨D,h1,fun key kl hk z => by rw [h2 key kl hk z,hfg]⟩
theorem MapV.block {X : World} (h : MapV P k kV w b n f) (hb : X.heap[b]? = w.heap[b]?) : MapV P k kV X b n f := by
 obtain ⟨D,⟨es,clock,h1,h3⟩,h2⟩ := h
 exact ⟨D,⟨es,clock,hb.trans h1,h3⟩,h2⟩
theorem MapV.look {t e : TypeId} (h : MapV P k kV w b n f) (K : Keyed P k) (ht : P.underlying t = some (.map k e)) {z : Value} (hz : (zeroValue e).run P w = .ok z w) {key : α} {kl : Lit} (hkey : keyOf P k (kV key) = some kl) :
  (Instr.lookup t (.map (some b)) (kV key) false).run P w = .ok ((f key).getD z) w := by
 obtain ⟨D,h1,h2⟩ := h
 obtain ⟨v,ps,hr,hv⟩ := h1.lookup K ht hz (zd := .held z) (zp := []) rfl hkey
 rw [h2 key kl hkey z] at hv
 unfold heldR at hv
 injection hv with hv
 injection hv with hv hp
 injection hv with hv
 rw [hr,hv]
theorem MapV.put [DecidableEq α] (hinj : ∀ x y,kV x = kV y → x = y) {t e : TypeId} (h : MapV P k kV w b n f) (K : Keyed P k) (ht : P.underlying t = some (.map k e)) (hn : n < maxLen) {key : α} {kl : Lit} (hkey : keyOf P k (kV key) = some kl) (val : Value) :
  ∃ X,(Instr.mapUpdate t (.map (some b)) (kV key) val).run P w = .ok () X ∧ MapV P k kV X b (n + 1) (fun x => if x = key then some val else f x) ∧ w.grownBy X (some b) := by
 obtain ⟨D,h1,h2⟩ := h
 obtain ⟨X,hr,h3,h4⟩ := h1.update K ht hn hkey (val := val) (d := .held val) (ps := []) rfl
 refine ⟨X,hr,⟨_,h3,fun x xl hx z => ?_⟩,h4⟩
 have hm : Maps.IsMap D := h1.isMap
 by_cases he : x = key
 ·subst he
  rw [hkey] at hx
  injection hx with hx
  subst hx
  rw [Maps.atKey_put_same hm (K.key hkey)]
  show _ = DataW.held ((if x = x then some val else f x).getD z)
  rw [if_pos rfl]
  rfl
 ·have hne : xl ≠ kl := fun hl => he (hinj _ _ (K.inj hx (hl ▸ hkey)))
  rw [Maps.atKey_put_other hne,h2 x xl hx z]
  show _ = DataW.held ((if x = key then some val else f x).getD z)
  rw [if_neg he]
end
end Go.Proofs.YtelgllgaofjgjaaGreat
end
section
set_option linter.unusedVariables false
set_option linter.unusedSimpArgs false
namespace Go.Proofs.YtelgllgaofjgjaaGreat
open Go.ChangeMaps Go.MapKept
open Go.Maps (Keyed)
def placeV (a : Int × Int × Int) : Value := .agg #[.int .i64 a.1,.int .i64 a.2.1,.int .i64 a.2.2]
def keyV (a : Int × Int) : Value := .agg #[.int .i64 a.1,.int .i64 a.2]
theorem placeV_inj (x y : Int × Int × Int) (h : placeV x = placeV y) : x = y := by
 obtain ⟨a,b,c⟩ := x
 obtain ⟨d,e,f⟩ := y
 simp [placeV] at h
 simp [h]
theorem keyV_inj (x y : Int × Int) (h : keyV x = keyV y) : x = y := by
 obtain ⟨a,b⟩ := x
 obtain ⟨c,d⟩ := y
 simp [keyV] at h
 simp [h]
theorem laid_prog : laidOutB Tryz.prog = true := by kernel_rfl
theorem place_keyed : Keyed Tryz.prog 90 := Keyed.of_law (deep_law_laid laid_prog (m := 2) (by omega) (of_decide_eq_true (by kernel_rfl)) (by kernel_rfl) (by kernel_rfl))
theorem key_keyed : Keyed Tryz.prog 87 := Keyed.of_law (deep_law_laid laid_prog (m := 2) (by omega) (of_decide_eq_true (by kernel_rfl)) (by kernel_rfl) (by kernel_rfl))
def intKeyB (P : Program) (k : TypeId) (n : Nat) : Bool := (P.keyType k && decide (0 < P.types.size)) && P.cellsOf k == n && match P.underlying k with
 | some (.struct fs) => fs.toList.all (fun f => f.name != "_") && fs.toList.all (fun f => (match P.underlying f.type with | some (.int .i64) => true | _ => false) && P.cellsOf f.type == 1 && decide (f.offset < n))
 | _ => false
theorem mapM_some {β γ : Type} {f : β → Option γ} : ∀ l : List β,(∀ x ∈ l,∃ y,f x = some y) → ∃ ys,l.mapM f = some ys
 | [],_ => ⟨[],rfl⟩
 | x :: r,h => by
  obtain ⟨y,hy⟩ := h x List.mem_cons_self
  obtain ⟨ys,hys⟩ := mapM_some r fun z hz => h z (List.mem_cons_of_mem _ hz)
  exact ⟨y :: ys,by rw [List.mapM_cons,hy,hys];rfl⟩
theorem keyOf_ints {P : Program} {k : TypeId} {n : Nat} (h : intKeyB P k n = true) {l : List Int} (hl : l.length = n) (hw : ∀ x ∈ l,(Lit.int .i64 x).wf = true) : ∃ kl,keyOf P k (.agg (l.map fun x => Value.int .i64 x).toArray) = some kl := by
 unfold intKeyB at h
 rw [Bool.and_eq_true,Bool.and_eq_true,Bool.and_eq_true,decide_eq_true_eq] at h
 obtain ⟨⟨⟨h1,h0⟩,h2⟩,h3⟩ := h
 have h2 := eq_of_beq h2
 cases hu : P.underlying k with
 | none => rw [hu] at h3;cases h3
 | some d =>
  rw [hu] at h3
  cases d with
  | struct fs =>
   simp only [Bool.and_eq_true] at h3
   obtain ⟨h4,h5⟩ := h3
   have hk : ∃ ls,P.keyLits (P.types.size + 1) k (l.map fun x => Value.int .i64 x) = some ls := by
    unfold Program.keyLits
    rw [hu]
    simp only
    rw [if_pos ⟨by rw [List.length_map,hl,h2],by rw [← Array.all_toList];exact h4⟩]
    obtain ⟨ys,hys⟩ := mapM_some (f := fun f => P.keyLits P.types.size f.type (((l.map fun x => Value.int .i64 x).drop f.offset).take (P.cellsOf f.type))) fs.toList fun f hf => by
     have h6 := List.all_eq_true.1 h5 f hf
     simp only [Bool.and_eq_true,decide_eq_true_eq] at h6
     obtain ⟨⟨h7,h8⟩,h9⟩ := h6
     have h8 := eq_of_beq h8
     have h10 : P.underlying f.type = some (.int .i64) := by
      revert h7
      cases P.underlying f.type with
      | none => intro h;cases h
      | some d => cases d <;> intro h <;> first | cases h | (rename_i q;cases q <;> first | rfl | cases h)
     rw [h8,List.drop_eq_getElem_cons (by rw [List.length_map];omega)]
     have hsz : P.types.size = (P.types.size - 1) + 1 := by omega
     rw [hsz]
     unfold Program.keyLits
     rw [h10]
     simp only [List.take_succ_cons,List.take_zero,List.getElem_map]
     rw [if_pos ⟨trivial,hw _ (List.getElem_mem _)⟩]
     exact ⟨_,rfl⟩
    exact ⟨ys.flatten,by rw [hys];rfl⟩
   obtain ⟨ls,hls⟩ := hk
   unfold keyOf
   rw [hu]
   simp only
   have hf : Value.formed P k (.agg (l.map fun x => Value.int .i64 x).toArray) = true := by
    unfold Value.formed
    rw [hu]
    simp [hl,h2]
   rw [h1,hf]
   simp only [Bool.and_self,if_true]
   have hc : (Value.agg (l.map fun x => Value.int .i64 x).toArray).cells.toList = l.map fun x => Value.int .i64 x := by simp [Value.cells]
   rw [hc,hls]
   exact ⟨_,rfl⟩
  | _ => cases h3
theorem placeV_key {a : Int × Int × Int} (h1 : (Lit.int .i64 a.1).wf = true) (h2 : (Lit.int .i64 a.2.1).wf = true) (h3 : (Lit.int .i64 a.2.2).wf = true) : ∃ kl,keyOf Tryz.prog 90 (placeV a) = some kl :=
 keyOf_ints (n := 3) (by kernel_rfl) (l := [a.1,a.2.1,a.2.2]) rfl fun x hx => by
  simp only [List.mem_cons,List.not_mem_nil,or_false] at hx
  rcases hx with rfl | rfl | rfl <;> assumption
theorem keyV_key {a : Int × Int} (h1 : (Lit.int .i64 a.1).wf = true) (h2 : (Lit.int .i64 a.2).wf = true) : ∃ kl,keyOf Tryz.prog 87 (keyV a) = some kl :=
 keyOf_ints (n := 2) (by kernel_rfl) (l := [a.1,a.2]) rfl fun x hx => by
  simp only [List.mem_cons,List.not_mem_nil,or_false] at hx
  rcases hx with rfl | rfl <;> assumption
end Go.Proofs.YtelgllgaofjgjaaGreat
end
section
open Go.RowKit
set_option linter.unusedVariables false
set_option linter.unusedSimpArgs false
namespace Go.Proofs.YtelgllgaofjgjaaGreat
def natI (i : Nat) : Value := .int .i64 (i : Int)
def PlacesW (w : World) (base mp n : Nat) (F : Int × Int × Int → List Nat) : Prop :=
 ∃ f : Int × Int × Int → Option Value,MapV Tryz.prog 90 placeV w mp n f ∧ mp < base ∧
  (∀ p,Own natI w base 3 ((f p).getD (.slice none 0 0)) (F p)) ∧
  ∀ p q,p ≠ q → ((f p).getD (.slice none 0 0)).ownBlock = none ∨ ((f p).getD (.slice none 0 0)).ownBlock ≠ ((f q).getD (.slice none 0 0)).ownBlock
theorem PlacesW.new {w : World} {base mp : Nat} (h : w.heap[mp]? = some (.map #[] 0)) (hb : mp < base) : PlacesW w base mp 0 fun _ => [] :=
 ⟨fun _ => none,MapV.ofEmpty _ _ _ h,hb,fun p => Own.nil _ _ _,fun p q _ => .inl rfl⟩
theorem PlacesW.kept {w X : World} {base mp n : Nat} {F : Int × Int × Int → List Nat} {row : Option Nat} (h : PlacesW w base mp n F) (hg : w.grownBy X row) (hm : some mp ≠ row) (hr : ∀ k,row = some k → k < base) : PlacesW X base mp n F := by
 obtain ⟨f,h1,h2,h3,h4⟩ := h
 refine ⟨f,h1.kept hg hm,h2,fun p => (h3 p).grown hg ?_,h4⟩
 cases hv : ((f p).getD (.slice none 0 0)).ownBlock with
 | none => exact .inl rfl
 | some k =>
  refine .inr fun e => ?_
  have h5 := ((h3 p).lt k hv).1
  have h6 := hr k e.symm
  omega
theorem PlacesW.add {w w1 X : World} {base mp n : Nat} {F : Int × Int × Int → List Nat} {f : Int × Int × Int → Option Value} {p : Int × Int × Int} {v' : Value} {l' : List Nat}
  (hb : mp < base) (h3 : ∀ p,Own natI w base 3 ((f p).getD (.slice none 0 0)) (F p))
  (h4 : ∀ p q,p ≠ q → ((f p).getD (.slice none 0 0)).ownBlock = none ∨ ((f p).getD (.slice none 0 0)).ownBlock ≠ ((f q).getD (.slice none 0 0)).ownBlock)
  (hg : w.grownBy w1 ((f p).getD (.slice none 0 0)).ownBlock) (ho : Own natI w1 base 3 v' l') (hloc : v'.ownBlock = ((f p).getD (.slice none 0 0)).ownBlock ∨ ∃ k,v'.ownBlock = some k ∧ w.heap.size ≤ k)
  (hm : MapV Tryz.prog 90 placeV X mp (n + 1) fun q => if q = p then some v' else f q) (hg2 : w1.grownBy X (some mp)) :
  PlacesW X base mp (n + 1) fun q => if q = p then l' else F q := by
 have hnm : ∀ {W : World} {v : Value} {l : List Nat},Own natI W base 3 v l → v.ownBlock = none ∨ v.ownBlock ≠ some mp := fun {W v l} h => by
  cases hv : v.ownBlock with
  | none => exact .inl rfl
  | some k =>
   refine .inr fun e => ?_
   have := (h.lt k hv).1
   injection e with e
   omega
 have hap : ∀ q,q ≠ p → ((f q).getD (.slice none 0 0)).ownBlock = none ∨ ((f q).getD (.slice none 0 0)).ownBlock ≠ v'.ownBlock := fun q hq => by
  rcases hloc with h | ⟨k,h,hk⟩
  ·rw [h];exact h4 q p hq
  ·cases hv : ((f q).getD (.slice none 0 0)).ownBlock with
   | none => exact .inl rfl
   | some j =>
    refine .inr fun e => ?_
    rw [h] at e
    injection e with e
    have := ((h3 q).lt j hv).2
    omega
 refine ⟨fun q => if q = p then some v' else f q,hm,hb,fun q => ?_,fun q r hqr => ?_⟩
 ·by_cases hq : q = p
  ·simp only [if_pos hq,Option.getD_some]
   exact ho.grown hg2 (hnm ho)
  ·simp only [if_neg hq]
   have h5 := (h3 q).grown hg (h4 q p hq)
   exact h5.grown hg2 (hnm h5)
 ·by_cases hq : q = p
  ·by_cases hr : r = p
   ·exact absurd (hq.trans hr.symm) hqr
   ·simp only [if_pos hq,if_neg hr,Option.getD_some]
    cases hv : v'.ownBlock with
    | none => exact .inl rfl
    | some k =>
     refine .inr fun e => ?_
     rcases hap r hr with h | h
     ·rw [h] at e;cases e
     ·exact h (by rw [hv];exact e.symm)
  ·by_cases hr : r = p
   ·simp only [if_neg hq,if_pos hr,Option.getD_some]
    exact hap q hq
   ·simp only [if_neg hq,if_neg hr]
    exact h4 q r hqr
theorem PlacesW.congr {w : World} {base mp n : Nat} {F G : Int × Int × Int → List Nat} (h : PlacesW w base mp n F) (hFG : ∀ p,F p = G p) : PlacesW w base mp n G := by
 have : F = G := funext hFG
 subst this
 exact h
end Go.Proofs.YtelgllgaofjgjaaGreat
end
section
set_option linter.unusedVariables false
set_option linter.unusedSimpArgs false
namespace Go.Proofs.YtelgllgaofjgjaaGreat
structure EntD where
 ticket : Int
 line : Int
 l : LineD
def hitN (a : List Int) : List Int → Nat
 | [] => 0
 | n :: r => a.count n + hitN a r
theorem hitN_app (a b c : List Int) : hitN a (b ++ c) = hitN a b + hitN a c := by
 induction b with
 | nil => simp [hitN]
 | cons x t ih => rw [List.cons_append,hitN,hitN,ih];omega
theorem hitN_snoc (a r : List Int) (i : Nat) (h : i < r.length) : hitN a (r.take (i + 1)) = hitN a (r.take i) + a.count r[i] := by
 rw [List.take_succ_eq_append_getElem h,hitN_app];simp [hitN]
theorem hitN_cons (x : Int) (a r : List Int) : hitN (x :: a) r = hitN a r + r.count x := by
 induction r with
 | nil => simp [hitN]
 | cons n t ih =>
  rw [hitN,hitN,ih,List.count_cons,List.count_cons]
  by_cases h : x = n
  ·subst h;simp;omega
  ·have h2 : ¬ n = x := fun e => h e.symm
   simp [h,h2];omega
theorem hitN_com {a r : List Int} (h : r.Nodup) : hitN a r = comM a r := by
 induction a with
 | nil =>
  have : ∀ l : List Int,hitN [] l = 0 := fun l => by
   induction l with
   | nil => rfl
   | cons n t ih => rw [hitN,ih];rfl
  rw [this];rfl
 | cons x t ih =>
  rw [hitN_cons,ih]
  unfold comM
  rw [List.countP_cons]
  by_cases hx : x ∈ r
  ·have h1 : r.count x = 1 := by
    have := List.nodup_iff_count.1 h x
    have := List.count_pos_iff.2 hx
    omega
   rw [h1];simp [hx]
  ·rw [List.count_eq_zero.2 hx];simp [hx]
theorem order_lt {lo hi : Int} {p : Option Int} {l : List Int} (h : orderE true lo hi p l = 0) : (∀ q,p = some q → ∀ x ∈ l,q < x) ∧ l.Pairwise (· < ·) := by
 induction l generalizing p with
 | nil => exact ⟨fun _ _ x hx => absurd hx List.not_mem_nil,List.Pairwise.nil⟩
 | cons y r ih =>
  rw [orderE] at h
  split at h
  ·exact absurd h (by decide)
  ·split at h
   ·exact absurd h (by decide)
   ·rename_i h1 h2
    have h3 := ih h
    refine ⟨fun q hq x hx => ?_,List.pairwise_cons.2 ⟨fun x hx => h3.1 y rfl x hx,h3.2⟩⟩
    have h4 : q < y := Int.not_le.1 fun hc => h2 ⟨rfl,q,hq,hc⟩
    rcases List.mem_cons.1 hx with rfl | hx
    ·exact h4
    ·have := h3.1 y rfl x hx;omega
theorem order_nodup {lo hi : Int} {p : Option Int} {l : List Int} (h : orderE true lo hi p l = 0) : l.Nodup := (order_lt h).2.imp (fun h => by omega)
def candD (a b : List Int) : Prop := ∃ i,i < b.length ∧ (a[i]? = b[0]? ∨ (i + 1 = b.length ∧ a[i]? = b[i]?))
theorem digM_cand {mode n : Int} {a b : List Int} (hb : b ≠ []) (h : digM mode n a b = true) : candD a b := by
 unfold digM at h
 have hpos : 0 < b.length := List.length_pos_iff.2 hb
 by_cases hl : b.length ≠ a.length
 ·rw [if_pos hl] at h;cases h
 rw [if_neg hl] at h
 have hl := Decidable.not_not.1 hl
 by_cases h2 : mode = 2
 ·rw [if_pos h2] at h
  have h3 := of_decide_eq_true h
  have hp : a.Perm b := (sortI_perm a).symm.trans (h3 ▸ sortI_perm b)
  have hm : b[0] ∈ a := hp.mem_iff.2 (List.getElem_mem hpos)
  obtain ⟨i,hi,he⟩ := List.getElem_of_mem hm
  exact ⟨i,by omega,.inl (by rw [List.getElem?_eq_getElem hi,List.getElem?_eq_getElem hpos,he])⟩
 rw [if_neg h2] at h
 by_cases h3 : mode = 3 ∨ mode = 4
 ·rw [if_pos h3] at h
  by_cases h4 : n < 1 ∨ (a.length : Int) < n
  ·rw [if_pos h4] at h;cases h
  rw [if_neg h4] at h
  by_cases h5 : mode = 3
  ·rw [if_pos h5] at h
   have h6 := congrArg (fun l : List Int => l[0]?) (of_decide_eq_true h)
   simp only [List.getElem?_take] at h6
   rw [if_pos (by omega),if_pos (by omega)] at h6
   exact ⟨0,hpos,.inl h6⟩
  ·rw [if_neg h5] at h
   have h6 := congrArg (fun l : List Int => l[n.toNat - 1]?) (of_decide_eq_true h)
   simp only [List.getElem?_drop] at h6
   rw [show a.length - n.toNat + (n.toNat - 1) = b.length - 1 by omega] at h6
   exact ⟨b.length - 1,by omega,.inr ⟨by omega,h6⟩⟩
 rw [if_neg h3] at h
 by_cases h4 : mode = 1
 ·rw [if_pos h4] at h
  have h5 := of_decide_eq_true h
  subst h5
  exact ⟨0,hpos,.inl rfl⟩
 ·rw [if_neg h4] at h;cases h
def winE (g : GameD) (r : ResD) (e : EntD) : Option WinD := if tierM g e.l r = -1 then none else some ⟨e.ticket,e.line,tierM g e.l r⟩
def winsX (g : GameD) (r : ResD) (es : List EntD) : List WinD := es.filterMap (winE g r)
theorem tierGo_none {f : TierD → Bool} {l : List TierD} {i : Nat} (h : ∀ t ∈ l,f t = false) : tierGo f l i = -1 := by
 induction l generalizing i with
 | nil => rfl
 | cons t q ih => rw [tierGo,h t List.mem_cons_self,if_neg (by simp),ih fun t ht => h t (List.mem_cons_of_mem _ ht)]
theorem cand_none {g : GameD} {l : LineD} {r : ResD} (hk : g.kind = 2) (hr : r.main ≠ []) (h : ¬ candD l.1 r.main) : tierM g l r = -1 :=
 tierGo_none fun t ht => by
  unfold meetM;rw [if_pos hk]
  cases hd : digM t.mode t.main l.1 r.main with
  | false => rfl
  | true => exact absurd (digM_cand hr hd) h
def ltK (a b : Int × Int) : Prop := a.1 < b.1 ∨ a.1 = b.1 ∧ a.2 < b.2
instance (a b : Int × Int) : Decidable (ltK a b) := by unfold ltK;exact inferInstance
def keyD (e : EntD) : Int × Int := (e.ticket,e.line)
def keyW (w : WinD) : Int × Int := (w.ticket,w.line)
theorem ltK_trans {a b c : Int × Int} (h : ltK a b) (k : ltK b c) : ltK a c := by unfold ltK at *;omega
theorem ltK_irrefl {a : Int × Int} (h : ltK a a) : False := by unfold ltK at h;omega
theorem ltK_asymm {a b : Int × Int} (h : ltK a b) (k : ltK b a) : False := ltK_irrefl (ltK_trans h k)
def insE (e : EntD) : List EntD → List EntD
 | [] => [e]
 | x :: r => if ltK (keyD x) (keyD e) then x :: insE e r else e :: x :: r
theorem insE_perm (e : EntD) (l : List EntD) : (insE e l).Perm (e :: l) := by
 induction l with
 | nil => exact List.Perm.refl _
 | cons x r ih =>
  rw [insE]
  split
  ·exact (List.Perm.cons x ih).trans (List.Perm.swap e x r)
  ·exact List.Perm.refl _
theorem insE_sorted {e : EntD} {l : List EntD} (hs : l.Pairwise fun a b => ltK (keyD a) (keyD b)) (hn : ∀ x ∈ l,keyD x ≠ keyD e) : (insE e l).Pairwise fun a b => ltK (keyD a) (keyD b) := by
 induction l with
 | nil => exact List.pairwise_singleton _ _
 | cons x r ih =>
  have hs' := List.pairwise_cons.1 hs
  rw [insE]
  split
  ·rename_i hlt
   refine List.pairwise_cons.2 ⟨fun y hy => ?_,ih hs'.2 fun y hy => hn y (List.mem_cons_of_mem _ hy)⟩
   rcases List.mem_cons.1 ((insE_perm e r).mem_iff.1 hy) with rfl | hy
   ·exact hlt
   ·exact hs'.1 y hy
  ·rename_i hlt
   have hx : ltK (keyD e) (keyD x) := by
    have h1 := hn x List.mem_cons_self
    have h2 : ¬ ((keyD x).1 = (keyD e).1 ∧ (keyD x).2 = (keyD e).2) := fun h => h1 (Prod.ext h.1 h.2)
    unfold ltK at hlt ⊢
    omega
   refine List.pairwise_cons.2 ⟨fun y hy => ?_,hs⟩
   rcases List.mem_cons.1 hy with rfl | hy
   ·exact hx
   ·exact ltK_trans hx (hs'.1 y hy)
def sortE (es : List EntD) : List EntD := es.foldl (fun l e => insE e l) []
theorem foldE_perm (es l : List EntD) : (es.foldl (fun l e => insE e l) l).Perm (es ++ l) := by
 induction es generalizing l with
 | nil => exact List.Perm.refl _
 | cons e r ih =>
  rw [List.foldl_cons]
  exact (ih (insE e l)).trans (((insE_perm e l).append_left r).trans List.perm_middle)
theorem sortE_perm (es : List EntD) : (sortE es).Perm es := by have := foldE_perm es [];rwa [List.append_nil] at this
theorem sortE_snoc (es : List EntD) (e : EntD) : sortE (es ++ [e]) = insE e (sortE es) := by unfold sortE;rw [List.foldl_append];rfl
def DiffK (es : List EntD) : Prop := es.Pairwise fun a b => keyD a ≠ keyD b
theorem sortE_sorted {es : List EntD} (h : DiffK es) : (sortE es).Pairwise fun a b => ltK (keyD a) (keyD b) := by
 suffices H : ∀ (n : Nat) (a : List EntD),a.length = n → DiffK a → (sortE a).Pairwise fun a b => ltK (keyD a) (keyD b) from H _ es rfl h
 intro n
 induction n with
 | zero => intro a ha _;rw [List.eq_nil_of_length_eq_zero ha];exact List.Pairwise.nil
 | succ n ih =>
  intro a ha hd
  have hne : a ≠ [] := fun h => by rw [h] at ha;cases ha
  rw [← List.dropLast_concat_getLast hne] at hd ⊢
  have hd' := List.pairwise_append.1 hd
  rw [sortE_snoc]
  exact insE_sorted (ih _ (by rw [List.length_dropLast,ha];rfl) hd'.1) fun x hx => hd'.2.2 x ((sortE_perm _).mem_iff.1 hx) _ (List.mem_singleton.2 rfl)
theorem winE_key {g : GameD} {r : ResD} {e : EntD} {w : WinD} (h : winE g r e = some w) : keyW w = keyD e := by
 unfold winE at h
 split at h
 ·cases h
 ·injection h with h;subst h;rfl
theorem winsX_sorted {g : GameD} {r : ResD} {es : List EntD} (h : es.Pairwise fun a b => ltK (keyD a) (keyD b)) : (winsX g r es).Pairwise fun a b => ltK (keyW a) (keyW b) := by
 unfold winsX
 rw [List.pairwise_filterMap]
 refine h.imp fun hab b hb b' hb' => ?_
 rw [winE_key hb,winE_key hb'];exact hab
theorem wins_unique {a b : List WinD} (hp : a.Perm b) (ha : a.Pairwise fun x y => ltK (keyW x) (keyW y)) (hb : b.Pairwise fun x y => ltK (keyW x) (keyW y)) : a = b :=
 List.Perm.eq_of_pairwise (fun x y _ _ h1 h2 => (ltK_asymm h1 h2).elim) ha hb hp
theorem wins_sorted {g : GameD} {r : ResD} {es : List EntD} {a : List WinD} (hd : DiffK es) (hp : a.Perm (winsX g r es)) (ha : a.Pairwise fun x y => ltK (keyW x) (keyW y)) : a = winsX g r (sortE es) :=
 wins_unique (hp.trans ((sortE_perm es).symm.filterMap _)) ha (winsX_sorted (sortE_sorted hd))
theorem winsX_congr {g : GameD} {r : ResD} {es fs : List EntD} (hd : DiffK es) (hp : es.Perm fs) : winsX g r (sortE es) = winsX g r (sortE fs) := by
 have hd' : DiffK fs := hp.pairwise hd fun h => fun e => h e.symm
 exact wins_unique (((sortE_perm es).trans (hp.trans (sortE_perm fs).symm)).filterMap _) (winsX_sorted (sortE_sorted hd)) (winsX_sorted (sortE_sorted hd'))
def addX (g : GameD) (es : List EntD) (d : EntD) : Int :=
 if d.ticket < 0 ∨ d.line < 0 then 2 else if lineE g d.l.1 d.l.2 ≠ 0 then lineE g d.l.1 d.l.2 else if keyD d ∈ es.map keyD then 6 else 0
def putX (g : GameD) (es : List EntD) (d : EntD) : List EntD := if addX g es d = 0 then es ++ [d] else es
def buildX (g : GameD) (ds : List EntD) : List EntD := ds.foldl (putX g) []
def OkD (g : GameD) (d : EntD) : Prop := 0 ≤ d.ticket ∧ 0 ≤ d.line ∧ lineE g d.l.1 d.l.2 = 0
theorem addX_ok {g : GameD} {es : List EntD} {d : EntD} : addX g es d = 0 ↔ OkD g d ∧ ∀ x ∈ es,keyD x ≠ keyD d := by
 unfold addX OkD
 by_cases h1 : d.ticket < 0 ∨ d.line < 0
 ·rw [if_pos h1];constructor
  ·intro h;cases h
  ·intro h;omega
 rw [if_neg h1]
 by_cases h2 : lineE g d.l.1 d.l.2 = 0
 ·rw [if_neg (by simpa using h2)]
  by_cases h3 : keyD d ∈ es.map keyD
  ·rw [if_pos h3]
   obtain ⟨x,hx,he⟩ := List.mem_map.1 h3
   exact ⟨fun h => absurd h (by decide),fun h => absurd he (h.2 x hx)⟩
  ·rw [if_neg h3]
   exact ⟨fun _ => ⟨⟨by omega,by omega,h2⟩,fun x hx he => h3 (List.mem_map.2 ⟨x,hx,he⟩)⟩,fun _ => rfl⟩
 ·rw [if_pos h2]
  exact ⟨fun h => absurd h h2,fun h => absurd h.1.2.2 h2⟩
theorem diff_snoc {es : List EntD} {d : EntD} (h : DiffK es) (hn : ∀ x ∈ es,keyD x ≠ keyD d) : DiffK (es ++ [d]) :=
 List.pairwise_append.2 ⟨h,List.pairwise_singleton _ _,fun x hx y hy => by rw [List.mem_singleton.1 hy];exact hn x hx⟩
theorem fold_all {g : GameD} (ds es : List EntD) (hd : DiffK (es ++ ds)) (ho : ∀ x ∈ ds,OkD g x) : ds.foldl (putX g) es = es ++ ds := by
 induction ds generalizing es with
 | nil => simp
 | cons d r ih =>
  have h1 : addX g es d = 0 := addX_ok.2 ⟨ho d List.mem_cons_self,fun x hx => (List.pairwise_append.1 hd).2.2 x hx d List.mem_cons_self⟩
  rw [List.foldl_cons,putX,if_pos h1,ih (es ++ [d]) (by rw [List.append_assoc];exact hd) fun x hx => ho x (List.mem_cons_of_mem _ hx),List.append_assoc]
  rfl
theorem build_all {g : GameD} {ds : List EntD} (hd : DiffK ds) (ho : ∀ x ∈ ds,OkD g x) : buildX g ds = ds := by
 have := fold_all (g := g) ds [] (by simpa using hd) ho
 simpa [buildX] using this
theorem diff_perm {es fs : List EntD} (h : DiffK es) (hp : es.Perm fs) : DiffK fs := hp.pairwise h fun h => fun e => h e.symm
theorem wins_le (g : GameD) (r : ResD) (es : List EntD) : (winsX g r es).length ≤ es.length := List.length_filterMap_le _ _
theorem ltK_ne {a b : Int × Int} (h : ltK a b) : a ≠ b := fun he => ltK_irrefl (a := a) (by rw [← he] at h;exact h)
theorem diff_of {es : List EntD} (h : es.Pairwise fun a b => ltK (keyD a) (keyD b)) : DiffK es := List.Pairwise.imp (fun hab => ltK_ne hab) h
theorem sortE_of {es : List EntD} (h : es.Pairwise fun a b => ltK (keyD a) (keyD b)) : sortE es = es :=
 List.Perm.eq_of_pairwise (fun x y _ _ h1 h2 => (ltK_asymm h1 h2).elim) (sortE_sorted (diff_of h)) h (sortE_perm es)
def mainP (g : GameD) (i : Nat) (n : Int) : Int × Int × Int := if g.kind = 2 then (1,i,n) else (1,0,n)
def bonusP (n : Int) : Int × Int × Int := (2,0,n)
def mainsP (g : GameD) : List Int → Nat → List (Int × Int × Int)
 | [],_ => []
 | n :: r,i => mainP g i n :: mainsP g r (i + 1)
theorem mainsP_len (g : GameD) (l : List Int) (i : Nat) : (mainsP g l i).length = l.length := by
 induction l generalizing i with
 | nil => rfl
 | cons n r ih => rw [mainsP,List.length_cons,ih,List.length_cons]
theorem mainsP_app (g : GameD) (a b : List Int) (i : Nat) : mainsP g (a ++ b) i = mainsP g a i ++ mainsP g b (i + a.length) := by
 induction a generalizing i with
 | nil => simp [mainsP]
 | cons n r ih => rw [List.cons_append,mainsP,mainsP,ih,List.length_cons,show i + 1 + r.length = i + (r.length + 1) by omega];rfl
theorem mainsP_snoc (g : GameD) (l : List Int) (i : Nat) (h : i < l.length) : mainsP g (l.take (i + 1)) 0 = mainsP g (l.take i) 0 ++ [mainP g i l[i]] := by
 rw [List.take_succ_eq_append_getElem h,mainsP_app,List.length_take,Nat.zero_add,Nat.min_eq_left (by omega)];rfl
def placesE (g : GameD) (l : LineD) : List (Int × Int × Int) := mainsP g l.1 0 ++ l.2.map bonusP
def occP (g : GameD) (p : Int × Int × Int) : List LineD → Nat → List Nat
 | [],_ => []
 | l :: r,i => List.replicate ((placesE g l).count p) i ++ occP g p r (i + 1)
theorem occP_app (g : GameD) (p : Int × Int × Int) (a b : List LineD) (i : Nat) : occP g p (a ++ b) i = occP g p a i ++ occP g p b (i + a.length) := by
 induction a generalizing i with
 | nil => simp [occP]
 | cons x t ih => rw [List.cons_append,occP,occP,ih,List.append_assoc,List.length_cons,show i + 1 + t.length = i + (t.length + 1) by omega]
theorem occP_snoc (g : GameD) (p : Int × Int × Int) (a : List LineD) (l : LineD) : occP g p (a ++ [l]) 0 = occP g p a 0 ++ List.replicate ((placesE g l).count p) a.length := by
 rw [occP_app];simp [occP]
theorem occP_lt (g : GameD) (p : Int × Int × Int) (a : List LineD) (i : Nat) : ∀ k ∈ occP g p a i,i ≤ k ∧ k < i + a.length := by
 induction a generalizing i with
 | nil => intro k hk;cases hk
 | cons x t ih =>
  intro k hk
  rw [occP,List.mem_append] at hk
  rw [List.length_cons]
  rcases hk with hk | hk
  ·have := List.eq_of_mem_replicate hk;omega
  ·have := ih (i + 1) k hk;omega
theorem occP_count (g : GameD) (p : Int × Int × Int) (a : List LineD) (i k : Nat) (h : k < a.length) : (occP g p a i).count (i + k) = (placesE g a[k]).count p := by
 induction a generalizing i k with
 | nil => simp at h
 | cons x t ih =>
  rw [occP,List.count_append,List.count_replicate]
  cases k with
  | zero =>
   have h0 : (occP g p t (i + 1)).count (i + 0) = 0 := List.count_eq_zero.2 fun hm => by have := occP_lt g p t (i + 1) _ hm;omega
   rw [h0];simp
  | succ k =>
   have h1 := ih (i + 1) k (by simpa using h)
   rw [show i + (k + 1) = i + 1 + k by omega,h1]
   have h2 : ¬ (i == i + 1 + k) = true := by simp;omega
   rw [if_neg h2];simp
theorem bonus_count (l : List Int) (n : Int) : (l.map bonusP).count (bonusP n) = l.count n := by
 induction l with
 | nil => rfl
 | cons x r ih =>
  rw [List.map_cons,List.count_cons,List.count_cons,ih]
  by_cases h : x = n
  ·subst h;simp
  ·have h2 : ¬ bonusP x = bonusP n := fun e => h (by simp [bonusP] at e;exact e)
   simp [h,h2]
theorem bonus_count0 (l : List Int) (p : Int × Int × Int) (h : p.1 ≠ 2) : (l.map bonusP).count p = 0 :=
 List.count_eq_zero.2 fun hm => by obtain ⟨x,_,rfl⟩ := List.mem_map.1 hm;exact h rfl
theorem main_count0 (g : GameD) (l : List Int) (i : Nat) (p : Int × Int × Int) (h : p.1 ≠ 1) : (mainsP g l i).count p = 0 := by
 induction l generalizing i with
 | nil => rfl
 | cons x r ih =>
  rw [mainsP,List.count_cons,ih]
  have h2 : ¬ mainP g i x = p := fun e => h (by rw [← e];unfold mainP;split <;> rfl)
  simp [h2]
theorem main_count (g : GameD) (hk : g.kind ≠ 2) (l : List Int) (i j : Nat) (n : Int) : (mainsP g l i).count (mainP g j n) = l.count n := by
 induction l generalizing i with
 | nil => rfl
 | cons x r ih =>
  rw [mainsP,List.count_cons,List.count_cons,ih]
  unfold mainP
  rw [if_neg hk,if_neg hk]
  by_cases h : x = n
  ·subst h;simp
  ·have h2 : ¬ ((1,0,x) : Int × Int × Int) = (1,0,n) := fun e => h (by simp at e;exact e)
   simp [h]
theorem main_countD (g : GameD) (hk : g.kind = 2) (l : List Int) (i j : Nat) (n : Int) : (mainsP g l i).count (mainP g (i + j) n) = if l[j]? = some n then 1 else 0 := by
 induction l generalizing i j with
 | nil => rfl
 | cons x r ih =>
  rw [mainsP,List.count_cons]
  cases j with
  | zero =>
   have h0 : (mainsP g r (i + 1)).count (mainP g (i + 0) n) = 0 := by
    have : ∀ (t : List Int) (a b : Nat),b < a → (mainsP g t a).count (mainP g b n) = 0 := by
     intro t
     induction t with
     | nil => intro a b _;rfl
     | cons y s ih2 =>
      intro a b hab
      rw [mainsP,List.count_cons,ih2 _ _ (by omega)]
      have h2 : ¬ mainP g a y = mainP g b n := fun e => by
       unfold mainP at e
       rw [if_pos hk,if_pos hk] at e
       simp at e
       omega
      simp [h2]
    exact this _ _ _ (by omega)
   rw [h0]
   unfold mainP
   rw [if_pos hk,if_pos hk]
   by_cases h : x = n
   ·subst h;simp
   ·simp [h]
  | succ j =>
   have h1 := ih (i + 1) j
   rw [show i + (j + 1) = i + 1 + j by omega,h1]
   have h2 : ¬ mainP g i x = mainP g (i + 1 + j) n := fun e => by
    unfold mainP at e
    rw [if_pos hk,if_pos hk] at e
    simp at e
    omega
   simp [h2]
theorem place_main (g : GameD) (hk : g.kind ≠ 2) (l : LineD) (j : Nat) (n : Int) : (placesE g l).count (mainP g j n) = l.1.count n := by
 unfold placesE
 rw [List.count_append,main_count g hk,bonus_count0 _ _ (by unfold mainP;rw [if_neg hk];simp),Nat.add_zero]
theorem place_mainD (g : GameD) (hk : g.kind = 2) (l : LineD) (j : Nat) (n : Int) : (placesE g l).count (mainP g j n) = if l.1[j]? = some n then 1 else 0 := by
 have h := main_countD g hk l.1 0 j n
 rw [Nat.zero_add] at h
 unfold placesE
 rw [List.count_append,h,bonus_count0 _ _ (by unfold mainP;rw [if_pos hk];simp),Nat.add_zero]
theorem place_bonus (g : GameD) (l : LineD) (n : Int) : (placesE g l).count (bonusP n) = l.2.count n := by
 unfold placesE
 rw [List.count_append,main_count0 _ _ _ _ (by unfold bonusP;simp),bonus_count,Nat.zero_add]
end Go.Proofs.YtelgllgaofjgjaaGreat
end
section
open Go.RowKit
set_option linter.unusedVariables false
set_option linter.unusedSimpArgs false
namespace Go.Proofs.YtelgllgaofjgjaaGreat
structure Chg (p : Nat → Prop) (w X : World) : Prop where
 os : X.os = w.os
 tape : X.tape = w.tape
 output : X.output = w.output
 size : w.heap.size ≤ X.heap.size
 block : ∀ k,k < w.heap.size → ¬ p k → X.heap[k]? = w.heap[k]?
section
variable {p q : Nat → Prop} {w X Y : World}
theorem Chg.refl (p : Nat → Prop) (w : World) : Chg p w w := ⟨rfl,rfl,rfl,Nat.le_refl _,fun _ _ _ => rfl⟩
theorem Chg.trans (h : Chg p w X) (k : Chg p X Y) : Chg p w Y :=
 ⟨k.os.trans h.os,k.tape.trans h.tape,k.output.trans h.output,Nat.le_trans h.size k.size,fun i hi hp => (k.block i (Nat.lt_of_lt_of_le hi h.size) hp).trans (h.block i hi hp)⟩
theorem Chg.mono (h : Chg p w X) (hpq : ∀ k,k < w.heap.size → p k → q k) : Chg q w X := ⟨h.os,h.tape,h.output,h.size,fun i hi hq => h.block i hi fun hp => hq (hpq i hi hp)⟩
theorem Chg.then (h : Chg p w X) (k : Chg q X Y) (hqp : ∀ i,i < w.heap.size → q i → p i) : Chg p w Y :=
 ⟨k.os.trans h.os,k.tape.trans h.tape,k.output.trans h.output,Nat.le_trans h.size k.size,fun i hi hp => (k.block i (Nat.lt_of_lt_of_le hi h.size) fun hq => hp (hqp i hi hq)).trans (h.block i hi hp)⟩
theorem Chg.ofBelow (h : Below w.heap.size w X) : Chg p w X := ⟨h.os,h.tape,h.output,h.size,fun k hk _ => h.block k hk⟩
theorem Chg.ofGb {row : Option Nat} (h : w.grownBy X row) (hp : ∀ k,row = some k → p k) : Chg p w X := ⟨h.os,h.tape,h.output,h.size,fun k hk hn => h.block k hk fun e => hn (hp k e.symm)⟩
theorem Chg.below (h : Chg p w X) {B : Nat} (hB : B ≤ w.heap.size) (hp : ∀ k,k < B → ¬ p k) : Below B w X := ⟨h.os,h.tape,h.output,h.size,fun k hk => h.block k (by omega) (hp k hk)⟩
theorem Chg.set {b : Nat} (hb : p b) (i : Nat) (u : Value) : Chg p w (w.setCell ⟨b,i,none⟩ u) :=
 ⟨rfl,rfl,rfl,by simp [World.setCell],fun k hk hn => Below.heap_setCell w _ u k (fun e => hn (by rw [e];exact hb))⟩
end
def Hold (col : Nat → Nat) (c : Nat) (w : World) (P : World → Prop) : Prop := ∀ X,Chg (fun k => col k ≠ c) w X → P X
def extC (col : Nat → Nat) (n c : Nat) (k : Nat) : Nat := if n ≤ k then c else col k
theorem extC_lt {col : Nat → Nat} {n c k : Nat} (h : k < n) : extC col n c k = col k := if_neg (by omega)
theorem extC_ge {col : Nat → Nat} {n c k : Nat} (h : n ≤ k) : extC col n c k = c := if_pos h
section
variable {p : Nat → Prop} {col col' : Nat → Nat} {c : Nat} {w X Y : World} {P Q : World → Prop}
theorem Hold.now (h : Hold col c w P) : P w := h w (Chg.refl _ _)
theorem Hold.mono (h : Hold col c w P) (hPQ : ∀ X,P X → Q X) : Hold col c w Q := fun X hX => hPQ X (h X hX)
theorem Hold.and (h : Hold col c w P) (k : Hold col c w Q) : Hold col c w fun X => P X ∧ Q X := fun X hX => ⟨h X hX,k X hX⟩
theorem Hold.step (h : Hold col c w P) (hc : Chg p w X) (hp : ∀ k,k < w.heap.size → p k → col k ≠ c) (he : ∀ k,k < w.heap.size → col' k = col k) : Hold col' c X P := by
 intro Y hY
 refine h Y ⟨hY.os.trans hc.os,hY.tape.trans hc.tape,hY.output.trans hc.output,Nat.le_trans hc.size hY.size,fun k hk hn => ?_⟩
 have hn : col k = c := Classical.not_not.1 hn
 exact (hY.block k (Nat.lt_of_lt_of_le hk hc.size) (by rw [he k hk];exact fun h => h hn)).trans (hc.block k hk fun hpk => hp k hk hpk hn)
theorem Hold.below (h : Hold col c w P) (hb : Below w.heap.size w X) : Hold col c X P := h.step (p := fun _ => False) (Chg.ofBelow hb) (fun _ _ h => h.elim) fun _ _ => rfl
theorem Hold.of {b : Nat} (hcol : col b = c) (hb : b < w.heap.size) (h : ∀ X,w.heap.size ≤ X.heap.size → X.heap[b]? = w.heap[b]? → P X) : Hold col c w P :=
 fun X hX => h X hX.size (hX.block b hb fun h => h hcol)
theorem Row.hold {b : Nat} {t : TypeId} {cs : List Value} (h : Row w b t cs) (hcol : col b = c) : Hold col c w fun X => Row X b t cs :=
 Hold.of hcol h.lt fun X _ he => he.trans h
end
section
variable {α : Type} {V : α → Value} {V' : α → List Value} {sz : Nat} {col : Nat → Nat} {c : Nat} {w X : World} {base e : Nat} {v : Value} {l : List α}
theorem ownsRow_block {n : Nat} {xs : List Value} (h : w.ownsRow base e sz v n xs) (hX : ∀ k,v.ownBlock = some k → X.heap[k]? = w.heap[k]?) : X.ownsRow base e sz v n xs := by
 refine ⟨h.1,?_⟩
 rcases h.2 with hn | ⟨g,cap,cur,rfl,hb,hg,hr⟩
 ·exact .inl hn
 ·exact .inr ⟨g,cap,cur,rfl,hb,(hX g rfl).trans hg,hr⟩
theorem OwnS.hold (h : OwnS sz V' (fun _ _ => True) w base e v l) (hcol : ∀ k,v.ownBlock = some k → col k = c) : Hold col c w fun X => OwnS sz V' (fun _ _ => True) X base e v l := by
 intro X hX
 have hlt := h.lt
 exact ⟨ownsRow_block h.1 fun k hk => hX.block k (hlt k hk).2 fun hn => hn (hcol k hk),fun _ _ _ _ => trivial⟩
theorem Own.block (h : Own V w base e v l) (hX : ∀ k,v.ownBlock = some k → X.heap[k]? = w.heap[k]?) : Own V X base e v l := ownsRow_block h hX
theorem Rd.block (h : Rd V w v l) (hs : w.heap.size ≤ X.heap.size) (hX : ∀ k,v.ownBlock = some k → l ≠ [] → X.heap[k]? = w.heap[k]?) : Rd V X v l := by
 obtain ⟨ao,cap,rfl,h1,h2,h3⟩ := h
 refine ⟨ao,cap,rfl,h1,h2,fun hl => ?_⟩
 obtain ⟨b,off,rfl,hb,hc⟩ := h3 hl
 exact ⟨b,off,rfl,by omega,fun i x hx => (World.cell?_of_block (a := ⟨b,off + i,none⟩) (hX b rfl (List.length_pos_iff.1 hl))).trans (hc i x hx)⟩
theorem Rd.hold {n : Nat} (h : Rd V w v l) (hf : Fr n v l) (hcol : ∀ k,n ≤ k → k < w.heap.size → col k = c) : Hold col c w fun X => Rd V X v l := by
 intro X hX
 refine h.block hX.size fun k hk hl => ?_
 rcases hf with rfl | ⟨j,hj,hnj⟩
 ·exact absurd rfl hl
 ·rw [hj] at hk
  injection hk with hk
  subst hk
  have hlt : j < w.heap.size := by
   obtain ⟨ao,cap,rfl,h1,h2,h3⟩ := h
   obtain ⟨b,off,rfl,hb,hc⟩ := h3 (List.length_pos_iff.2 hl)
   injection hj with hj
   subst hj
   exact hb
  exact hX.block j hlt fun hn => hn (hcol j hnj hlt)
end
def PlT (w : World) (T : Nat → Prop) (mp n : Nat) (F : Int × Int × Int → List Nat) : Prop :=
 ∃ f : Int × Int × Int → Option Value,MapV Tryz.prog 90 placeV w mp n f ∧ T mp ∧
  (∀ p,Own natI w 0 3 ((f p).getD (.slice none 0 0)) (F p)) ∧ (∀ p k,((f p).getD (.slice none 0 0)).ownBlock = some k → T k) ∧
  ∀ p q,p ≠ q → ((f p).getD (.slice none 0 0)).ownBlock = none ∨ ((f p).getD (.slice none 0 0)).ownBlock ≠ ((f q).getD (.slice none 0 0)).ownBlock
theorem MapV.isMap {α : Type} {P : Program} {k : TypeId} {kV : α → Value} {w : World} {b n : Nat} {f : α → Option Value} (h : MapV P k kV w b n f) : ∃ es c,w.heap[b]? = some (.map es c) := by
 obtain ⟨D,⟨es,clock,h1,h3⟩,h2⟩ := h
 exact ⟨_,_,h1⟩
theorem own_not_map {α : Type} {V : α → Value} {w : World} {base e : Nat} {v : Value} {l : List α} (h : Own V w base e v l) {b : Nat} (hb : ∃ es c,w.heap[b]? = some (.map es c)) : v.ownBlock ≠ some b := by
 intro he
 rcases h.2 with ⟨rfl,h0⟩ | ⟨g,cap,cur,rfl,_,hg,_⟩
 ·cases he
 ·injection he with he
  subst he
  obtain ⟨es,c,hb⟩ := hb
  simp only at hb
  rw [hb] at hg
  cases hg
section
variable {T : Nat → Prop} {w w1 X : World} {mp n : Nat} {F G : Int × Int × Int → List Nat}
theorem PlT.new (h : w.heap[mp]? = some (.map #[] 0)) (hT : T mp) : PlT w T mp 0 fun _ => [] :=
 ⟨fun _ => none,MapV.ofEmpty _ _ _ h,hT,fun p => Own.nil _ _ _,⟨fun p k h => by simp [Value.ownBlock] at h,fun p q _ => Or.inl rfl⟩⟩
theorem PlT.congr (h : PlT w T mp n F) (hFG : ∀ p,F p = G p) : PlT w T mp n G := by
 have : F = G := funext hFG
 subst this
 exact h
theorem PlT.same (h : PlT w T mp n F) (hs : w.heap.size ≤ X.heap.size) (hX : ∀ k,k < w.heap.size → T k → X.heap[k]? = w.heap[k]?) : PlT X T mp n F := by
 obtain ⟨f,h1,h2,h3,h4,h5⟩ := h
 exact ⟨f,h1.block (hX mp h1.lt h2),h2,fun p => (h3 p).block fun k hk => hX k ((h3 p).lt k hk).2 (h4 p k hk),h4,h5⟩
theorem PlT.mono {T' : Nat → Prop} (h : PlT w T mp n F) (hT : ∀ k,k < w.heap.size → T k → T' k) : PlT w T' mp n F := by
 obtain ⟨f,h1,h2,h3,h4,h5⟩ := h
 exact ⟨f,h1,hT mp h1.lt h2,h3,fun p k hk => hT k ((h3 p).lt k hk).2 (h4 p k hk),h5⟩
theorem PlT.add {f : Int × Int × Int → Option Value} {p : Int × Int × Int} {v' : Value} {l' : List Nat} (hT : ∀ k,w.heap.size ≤ k → T k)
  (h1 : MapV Tryz.prog 90 placeV w mp n f) (h2 : T mp) (h3 : ∀ p,Own natI w 0 3 ((f p).getD (.slice none 0 0)) (F p)) (h4 : ∀ p k,((f p).getD (.slice none 0 0)).ownBlock = some k → T k)
  (h5 : ∀ p q,p ≠ q → ((f p).getD (.slice none 0 0)).ownBlock = none ∨ ((f p).getD (.slice none 0 0)).ownBlock ≠ ((f q).getD (.slice none 0 0)).ownBlock)
  (hg : w.grownBy w1 ((f p).getD (.slice none 0 0)).ownBlock) (ho : Own natI w1 0 3 v' l') (hloc : v'.ownBlock = ((f p).getD (.slice none 0 0)).ownBlock ∨ ∃ k,v'.ownBlock = some k ∧ w.heap.size ≤ k)
  (hm1 : MapV Tryz.prog 90 placeV w1 mp n f)
  (hm : MapV Tryz.prog 90 placeV X mp (n + 1) fun q => if q = p then some v' else f q) (hg2 : w1.grownBy X (some mp)) :
  PlT X T mp (n + 1) (fun q => if q = p then l' else F q) ∧ Chg T w X := by
 have hnm : ∀ {v : Value} {l : List Nat},Own natI w1 0 3 v l → v.ownBlock = none ∨ v.ownBlock ≠ some mp := fun {v l} h => .inr (own_not_map h hm1.isMap)
 have hap : ∀ q,q ≠ p → ((f q).getD (.slice none 0 0)).ownBlock = none ∨ ((f q).getD (.slice none 0 0)).ownBlock ≠ v'.ownBlock := fun q hq => by
  rcases hloc with h | ⟨k,h,hk⟩
  ·rw [h];exact h5 q p hq
  ·cases hv : ((f q).getD (.slice none 0 0)).ownBlock with
   | none => exact .inl rfl
   | some j =>
    refine .inr fun e => ?_
    rw [h] at e
    injection e with e
    have := ((h3 q).lt j hv).2
    omega
 refine ⟨⟨fun q => if q = p then some v' else f q,hm,h2,fun q => ?_,fun q k hk => ?_,fun q r hqr => ?_⟩,?_⟩
 ·by_cases hq : q = p
  ·simp only [if_pos hq,Option.getD_some]
   exact ho.grown hg2 (hnm ho)
  ·simp only [if_neg hq]
   have h6 := (h3 q).grown hg (h5 q p hq)
   exact h6.grown hg2 (hnm h6)
 ·by_cases hq : q = p
  ·simp only [if_pos hq,Option.getD_some] at hk
   rcases hloc with h | ⟨j,h,hj⟩
   ·exact h4 p k (h ▸ hk)
   ·rw [h] at hk
    injection hk with hk
    exact hT k (hk ▸ hj)
  ·simp only [if_neg hq] at hk
   exact h4 q k hk
 ·by_cases hq : q = p
  ·by_cases hr : r = p
   ·exact absurd (hq.trans hr.symm) hqr
   ·simp only [if_pos hq,if_neg hr,Option.getD_some]
    cases hv : v'.ownBlock with
    | none => exact .inl rfl
    | some k =>
     refine .inr fun e => ?_
     rcases hap r hr with h | h
     ·rw [h] at e;cases e
     ·exact h (by rw [hv];exact e.symm)
  ·by_cases hr : r = p
   ·simp only [if_neg hq,if_pos hr,Option.getD_some]
    exact hap q hq
   ·simp only [if_neg hq,if_neg hr]
    exact h5 q r hqr
 ·refine (Chg.ofGb hg fun k hk => h4 p k hk).trans (Chg.ofGb hg2 fun k hk => ?_)
  injection hk with hk
  exact hk ▸ h2
theorem PlT.rd (h : PlT w T mp n F) : ∃ f : Int × Int × Int → Option Value,MapV Tryz.prog 90 placeV w mp n f ∧ ∀ p,Rd natI w ((f p).getD (.slice none 0 0)) (F p) := by
 obtain ⟨f,h1,h2,h3,h4,h5⟩ := h
 exact ⟨f,h1,fun p => (h3 p).rd⟩
end
end Go.Proofs.YtelgllgaofjgjaaGreat
end
section
set_option linter.unusedVariables false
set_option linter.unusedSimpArgs false
namespace Go.Proofs.YtelgllgaofjgjaaGreat
theorem res_num {g : GameD} {r : ResD} (h : resE g r = 0) : gameE g = 0 ∧ numE g r = 0 := by
 unfold resE at h
 by_cases h1 : gameE g = 0
 ·rw [if_neg (by simpa using h1)] at h
  by_cases h2 : numE g r = 0
  ·exact ⟨h1,h2⟩
  ·rw [if_pos h2] at h;exact absurd h h2
 ·rw [if_pos h1] at h;exact absurd h h1
theorem num_lens {g : GameD} {r : ResD} (h : numE g r = 0) : (r.main.length : Int) = g.main ∧ (r.bonus.length : Int) = g.bonus ∧ (r.extra.length : Int) = g.extra := by
 unfold numE at h
 by_cases h1 : (r.main.length : Int) ≠ g.main ∨ (r.bonus.length : Int) ≠ g.bonus ∨ (r.extra.length : Int) ≠ g.extra
 ·rw [if_pos h1] at h;exact absurd h (by decide)
 ·omega
theorem num_nodup {g : GameD} {r : ResD} (h : numE g r = 0) (hk : g.kind ≠ 2) : r.main.Nodup ∧ r.bonus.Nodup ∧ r.extra.Nodup := by
 unfold numE at h
 by_cases h1 : (r.main.length : Int) ≠ g.main ∨ (r.bonus.length : Int) ≠ g.bonus ∨ (r.extra.length : Int) ≠ g.extra
 ·rw [if_pos h1] at h;exact absurd h (by decide)
 rw [if_neg h1,if_neg hk] at h
 by_cases h2 : orderE true 1 g.of none r.main = 0
 ·rw [if_neg (by simpa using h2)] at h
  by_cases h3 : orderE true 1 g.bonusOf none r.bonus = 0
  ·rw [if_neg (by simpa using h3)] at h
   by_cases h4 : orderE true 1 g.of none r.extra = 0
   ·exact ⟨order_nodup h2,order_nodup h3,order_nodup h4⟩
   ·rw [if_pos h4] at h;exact absurd h h4
  ·rw [if_pos h3] at h;exact absurd h h3
 ·rw [if_pos h2] at h;exact absurd h h2
theorem res_main {g : GameD} {r : ResD} (h : resE g r = 0) : r.main ≠ [] := fun h0 => by
 have h1 := res_num h
 have h2 := num_lens h1.2
 have h3 := mat_facts (game_mat h1.1)
 rw [h0] at h2
 have := h2.1
 simp at this
 omega
theorem meet_hits {g : GameD} {r : ResD} (h : resE g r = 0) (hk : g.kind ≠ 2) (l : LineD) (t : TierD) :
  meetM g l r t = decide (t.main ≤ (hitN l.1 r.main : Int) ∧ t.bonus ≤ (hitN l.2 r.bonus : Int) ∧ t.extra ≤ (hitN l.1 r.extra : Int)) := by
 have h1 := num_nodup (res_num h).2 hk
 unfold meetM
 rw [if_neg hk,hitN_com h1.1,hitN_com h1.2.1,hitN_com h1.2.2]
def cmpI (a b : Int) : Int := if a < b then -1 else if b < a then 1 else 0
def cmpW (a b : WinD) : Int := if cmpI a.ticket b.ticket ≠ 0 then cmpI a.ticket b.ticket else cmpI a.line b.line
theorem cmpW_lt {a b : WinD} : cmpW a b < 0 ↔ ltK (keyW a) (keyW b) := by
 unfold cmpW cmpI ltK keyW
 simp only
 by_cases h1 : a.ticket < b.ticket
 ·rw [if_pos h1];simp [h1]
 ·rw [if_neg h1]
  by_cases h2 : b.ticket < a.ticket
  ·rw [if_pos h2];simp;omega
  ·rw [if_neg h2]
   by_cases h3 : a.line < b.line
   ·rw [if_pos h3];simp;omega
   ·rw [if_neg h3]
    by_cases h4 : b.line < a.line
    ·rw [if_pos h4];simp;omega
    ·rw [if_neg h4];simp;omega
theorem cmpW_swo [Inhabited WinD] : Sort.SWO (fun x y : WinD => decide (cmpW x y < 0)) where
 irrefl x := decide_eq_false fun h => ltK_irrefl (cmpW_lt.1 h)
 trans x y z h1 h2 := decide_eq_true (cmpW_lt.2 (ltK_trans (cmpW_lt.1 (of_decide_eq_true h1)) (cmpW_lt.1 (of_decide_eq_true h2))))
 ntrans x y z h1 h2 := decide_eq_false fun h => by
  have h1 := of_decide_eq_false h1
  have h2 := of_decide_eq_false h2
  rw [cmpW_lt] at h h1 h2
  unfold ltK at h h1 h2
  omega
theorem ltK_tri {a b : Int × Int} (h : ¬ ltK b a) (hn : a ≠ b) : ltK a b := by
 have h2 : ¬ (a.1 = b.1 ∧ a.2 = b.2) := fun e => hn (Prod.ext e.1 e.2)
 unfold ltK at h ⊢
 omega
theorem wins_diff {g : GameD} {r : ResD} {es : List EntD} (h : DiffK es) : (winsX g r es).Pairwise fun a b => keyW a ≠ keyW b := by
 unfold winsX
 rw [List.pairwise_filterMap]
 refine h.imp fun hab b hb b' hb' => ?_
 rw [winE_key hb,winE_key hb'];exact hab
theorem sort_wins [Inhabited WinD] {g : GameD} {r : ResD} {es : List EntD} {d d' : Array WinD} (hd : DiffK es) (he : d.toList = winsX g r es) (hp : Sort.PermIn 0 d.size d d') (hs : Sort.SortedIn (fun x y => decide (cmpW x y < 0)) 0 d.size d') :
  d'.toList = winsX g r (sortE es) := by
 have hp' : d'.toList.Perm d.toList := by
  have h1 := hp.2.2
  have h2 : d'.extract 0 d.size = d' := by rw [← hp.1,Array.extract_size]
  have h3 : d.extract 0 d.size = d := Array.extract_size
  rwa [h2,h3] at h1
 have hk : d'.toList.Pairwise fun a b => keyW a ≠ keyW b := (hp'.symm.pairwise (he ▸ wins_diff hd) fun h e => h e.symm)
 refine wins_sorted hd (he ▸ hp') ?_
 rw [List.pairwise_iff_getElem] at hk ⊢
 intro i j hi hj hij
 refine ltK_tri (fun hlt => ?_) (hk i j hi hj hij)
 have h1 := hs i j (Nat.zero_le _) hij (by rw [← hp.1];simpa using hj)
 have hi' : i < d'.size := by simpa using hi
 have hj' : j < d'.size := by simpa using hj
 rw [getElem!_pos d' i hi',getElem!_pos d' j hj'] at h1
 exact absurd (cmpW_lt.2 hlt) (of_decide_eq_false h1)
theorem cand_iff {g : GameD} (hk : g.kind = 2) (l : LineD) {b : List Int} (hb : b ≠ []) :
  candD l.1 b ↔ (∃ i,i < b.length ∧ 0 < (placesE g l).count (mainP g i (b[0]'(List.length_pos_iff.2 hb)))) ∨ 0 < (placesE g l).count (mainP g (b.length - 1) (b[b.length - 1]'(by have := List.length_pos_iff.2 hb;omega))) := by
 have hpos := List.length_pos_iff.2 hb
 unfold candD
 constructor
 ·rintro ⟨i,hi,h | ⟨h1,h2⟩⟩
  ·refine .inl ⟨i,hi,?_⟩
   rw [place_mainD g hk,h,List.getElem?_eq_getElem hpos,if_pos rfl]
   decide
  ·right
   obtain rfl : i = b.length - 1 := by omega
   rw [place_mainD g hk,h2,List.getElem?_eq_getElem (by omega),if_pos rfl]
   decide
 ·rintro (⟨i,hi,h⟩ | h)
  ·refine ⟨i,hi,.inl ?_⟩
   rw [place_mainD g hk] at h
   split at h
   ·rename_i h1
    rw [h1,List.getElem?_eq_getElem hpos]
   ·omega
  ·refine ⟨b.length - 1,by omega,.inr ⟨by omega,?_⟩⟩
   rw [place_mainD g hk] at h
   split at h
   ·rename_i h1
    rw [h1,List.getElem?_eq_getElem (by omega)]
   ·omega
def occE (g : GameD) (es : List EntD) (p : Int × Int × Int) : List Nat := occP g p (es.map (·.l)) 0
theorem occE_lt {g : GameD} {es : List EntD} {p : Int × Int × Int} : ∀ k ∈ occE g es p,k < es.length := fun k hk => by
 unfold occE at hk
 have := occP_lt g p _ 0 k hk
 rw [List.length_map] at this
 omega
theorem occE_count {g : GameD} {es : List EntD} {p : Int × Int × Int} {i : Nat} {e : EntD} (h : es[i]? = some e) : (occE g es p).count i = (placesE g e.l).count p := by
 obtain ⟨hi,he⟩ := List.getElem?_eq_some_iff.1 h
 have := occP_count g p (es.map (·.l)) 0 i (by rw [List.length_map];exact hi)
 rw [Nat.zero_add] at this
 unfold occE
 rw [this,List.getElem_map,he]
theorem occE_mem {g : GameD} {es : List EntD} {p : Int × Int × Int} {i : Nat} {e : EntD} (h : es[i]? = some e) : i ∈ occE g es p ↔ 0 < (placesE g e.l).count p := by
 rw [← occE_count h,List.count_pos_iff]
theorem places_len (g : GameD) (l : LineD) : (placesE g l).length = l.1.length + l.2.length := by
 unfold placesE
 rw [List.length_append,mainsP_len,List.length_map]
def hitF (es : List EntD) (a b c : List Int) (i j : Nat) : Nat :=
 match es[i]? with
 | none => 0
 | some e => if j = 0 then hitN e.l.1 a else if j = 1 then hitN e.l.2 b else hitN e.l.1 c
theorem hitN_nil (a : List Int) : hitN a [] = 0 := rfl
theorem hitF_nil (es : List EntD) (i j : Nat) : hitF es [] [] [] i j = 0 := by
 unfold hitF
 split
 ·rfl
 ·simp only [hitN_nil];split <;> (try split) <;> rfl
theorem hitF_main {g : GameD} (hk : g.kind ≠ 2) (es : List EntD) (a b c : List Int) (k : Nat) (h : k < a.length) (i j : Nat) (hi : i < es.length) (p : Int × Int × Int) (hp : p = (1,0,a[k])) :
  hitF es (a.take (k + 1)) b c i j = hitF es (a.take k) b c i j + if j = 0 then (occE g es p).count i else 0 := by
 have he := List.getElem?_eq_getElem hi
 unfold hitF
 rw [he]
 by_cases h0 : j = 0
 ·subst h0
  have h1 := place_main g hk es[i].l 0 a[k]
  unfold mainP at h1
  rw [if_neg hk] at h1
  simp only [if_true]
  rw [hitN_snoc _ _ _ h,occE_count he,hp,h1]
 ·simp only [if_neg h0];rfl
theorem hitF_extra {g : GameD} (hk : g.kind ≠ 2) (es : List EntD) (a b c : List Int) (k : Nat) (h : k < c.length) (i j : Nat) (hi : i < es.length) (hj : j < 3) (p : Int × Int × Int) (hp : p = (1,0,c[k])) :
  hitF es a b (c.take (k + 1)) i j = hitF es a b (c.take k) i j + if j = 2 then (occE g es p).count i else 0 := by
 have he := List.getElem?_eq_getElem hi
 unfold hitF
 rw [he]
 by_cases h0 : j = 2
 ·subst h0
  have h1 := place_main g hk es[i].l 0 c[k]
  unfold mainP at h1
  rw [if_neg hk] at h1
  simp only [if_true]
  rw [hitN_snoc _ _ _ h,occE_count he,hp,h1]
  rfl
 ·simp only [if_neg h0]
  have : j = 0 ∨ j = 1 := by omega
  rcases this with rfl | rfl <;> rfl
theorem hitF_bonus {g : GameD} (es : List EntD) (a b c : List Int) (k : Nat) (h : k < b.length) (i j : Nat) (hi : i < es.length) (p : Int × Int × Int) (hp : p = (2,0,b[k])) :
  hitF es a (b.take (k + 1)) c i j = hitF es a (b.take k) c i j + if j = 1 then (occE g es p).count i else 0 := by
 have he := List.getElem?_eq_getElem hi
 unfold hitF
 rw [he]
 by_cases h0 : j = 1
 ·subst h0
  have h1 := place_bonus g es[i].l b[k]
  unfold bonusP at h1
  simp only [if_true]
  rw [hitN_snoc _ _ _ h,occE_count he,hp,h1]
  rfl
 ·by_cases h1 : j = 0
  ·subst h1;rfl
  ·simp only [if_neg h0,if_neg h1];rfl
theorem hitN_le (a r : List Int) : hitN a r ≤ a.length * r.length := by
 induction a with
 | nil =>
  have : hitN [] r = 0 := by
   induction r with
   | nil => rfl
   | cons x t ih => unfold hitN;rw [ih];rfl
  rw [this];exact Nat.zero_le _
 | cons x t ih =>
  rw [hitN_cons,List.length_cons,Nat.add_mul,Nat.one_mul]
  have := List.count_le_length (a := x) (l := r)
  omega
theorem hitF_le {es : List EntD} {a b c : List Int} {i j : Nat} (h : ∀ e ∈ es,e.l.1.length ≤ 1000 ∧ e.l.2.length ≤ 1000) (ha : a.length ≤ 1000) (hb : b.length ≤ 1000) (hc : c.length ≤ 1000) : hitF es a b c i j ≤ 1000000 := by
 unfold hitF
 split
 ·omega
 ·rename_i e he
  obtain ⟨h1,h2⟩ := h e (List.mem_of_getElem? he)
  have key : ∀ (x y : List Int),x.length ≤ 1000 → y.length ≤ 1000 → hitN x y ≤ 1000000 := fun x y hx hy =>
   Nat.le_trans (hitN_le x y) (Nat.le_trans (Nat.mul_le_mul hx hy) (by omega))
  split
  ·exact key _ _ h1 ha
  ·split
   ·exact key _ _ h2 hb
   ·exact key _ _ h1 hc
def midF (F : Nat → Nat → Nat) (jj : Nat) (L : List Nat) (m i j : Nat) : Nat := F i j + if j = jj then (L.take m).count i else 0
theorem midF_zero (F : Nat → Nat → Nat) (jj : Nat) (L : List Nat) (i j : Nat) : midF F jj L 0 i j = F i j := by simp [midF]
theorem midF_step (F : Nat → Nat → Nat) (jj : Nat) (L : List Nat) (m : Nat) (h : m < L.length) (x : Nat) (hx : x = L[m]) (i j : Nat) :
  (if i = x ∧ j = jj then midF F jj L m x jj + 1 else midF F jj L m i j) = midF F jj L (m + 1) i j := by
 unfold midF
 rw [List.take_succ_eq_append_getElem h,← hx]
 simp only [List.count_append]
 by_cases h1 : j = jj
 ·subst h1
  by_cases h2 : i = x
  ·subst h2
   simp
   omega
  ·have : ([x] : List Nat).count i = 0 := List.count_eq_zero.2 (by simpa using h2)
   rw [if_neg (by simp [h2])]
   simp [this]
 ·rw [if_neg (by simp [h1])]
  simp [h1]
theorem midF_le {F : Nat → Nat → Nat} {jj : Nat} {L : List Nat} {m i j B C : Nat} (h : F i j ≤ B) (hL : L.count i ≤ C) : midF F jj L m i j ≤ B + C := by
 unfold midF
 split
 ·have : (L.take m).count i ≤ L.count i := (List.take_sublist m L).count_le i
  omega
 ·omega
theorem midF_end (F : Nat → Nat → Nat) (jj : Nat) (L : List Nat) (m : Nat) (h : m = L.length) (i j : Nat) : midF F jj L m i j = F i j + if j = jj then L.count i else 0 := by
 unfold midF
 rw [List.take_of_length_le (by omega)]
def candK (g : GameD) (es : List EntD) (x : Int) (k i : Nat) : Bool := (List.range k).any fun j => decide (i ∈ occE g es (mainP g j x))
theorem candK_step (g : GameD) (es : List EntD) (x : Int) (k i : Nat) : candK g es x (k + 1) i = (candK g es x k i || decide (i ∈ occE g es (mainP g k x))) := by
 unfold candK
 rw [List.range_succ,List.any_append]
 simp
def midB (F : Nat → Bool) (L : List Nat) (m i : Nat) : Bool := F i || decide (i ∈ L.take m)
theorem midB_zero (F : Nat → Bool) (L : List Nat) (i : Nat) : midB F L 0 i = F i := by simp [midB]
theorem midB_step (F : Nat → Bool) (L : List Nat) (m : Nat) (h : m < L.length) (x : Nat) (hx : x = L[m]) (i : Nat) : (if i = x then true else midB F L m i) = midB F L (m + 1) i := by
 unfold midB
 rw [List.take_succ_eq_append_getElem h,← hx]
 by_cases h2 : i = x
 ·simp [h2]
 ·simp [h2]
theorem midB_end (F : Nat → Bool) (L : List Nat) (m : Nat) (h : m = L.length) (i : Nat) : midB F L m i = (F i || decide (i ∈ L)) := by
 unfold midB
 rw [List.take_of_length_le (by omega)]
theorem candK_iff {g : GameD} (hk : g.kind = 2) {es : List EntD} {b : List Int} (x y : Int) (n : Nat) (hn : n = b.length) (hx : b[0]? = some x) (hy : b[n - 1]? = some y) {i : Nat} {e : EntD} (he : es[i]? = some e) :
  (candK g es x n i || decide (i ∈ occE g es (mainP g (n - 1) y))) = true ↔ candD e.l.1 b := by
 subst hn
 have hb : b ≠ [] := by intro h;subst h;simp at hx
 have hpos := List.length_pos_iff.2 hb
 have e0 : b[0]'hpos = x := by rw [List.getElem?_eq_getElem hpos] at hx;injection hx
 have e1 : b[b.length - 1]'(by omega) = y := by rw [List.getElem?_eq_getElem (by omega)] at hy;injection hy
 rw [cand_iff hk e.l hb,e0,e1]
 unfold candK
 rw [Bool.or_eq_true,List.any_eq_true,decide_eq_true_eq]
 constructor
 ·rintro (⟨j,hj,h⟩ | h)
  ·exact .inl ⟨j,List.mem_range.1 hj,(occE_mem he).1 (of_decide_eq_true h)⟩
  ·exact .inr ((occE_mem he).1 h)
 ·rintro (⟨j,hj,h⟩ | h)
  ·exact .inl ⟨j,List.mem_range.2 hj,decide_eq_true ((occE_mem he).2 h)⟩
  ·exact .inr ((occE_mem he).2 h)
theorem winsX_snoc {g : GameD} {r : ResD} {es : List EntD} {i : Nat} {e : EntD} (h : es[i]? = some e) :
  winsX g r (es.take (i + 1)) = winsX g r (es.take i) ++ if tierM g e.l r = -1 then [] else [⟨e.ticket,e.line,tierM g e.l r⟩] := by
 obtain ⟨hi,he⟩ := List.getElem?_eq_some_iff.1 h
 rw [List.take_succ_eq_append_getElem hi,he]
 unfold winsX
 rw [List.filterMap_append]
 congr 1
 by_cases h1 : tierM g e.l r = -1
 ·simp [winE,h1]
 ·simp [winE,h1]
theorem idxBy_tier (f : TierD → Bool) (x : TierD) (l : List TierD) (i : Nat) : Lib.idxByFrom (fun _ y => f y) x l i = tierGo f l i := by
 induction l generalizing i with
 | nil => rfl
 | cons t q ih =>
  rw [tierGo,← ih]
  rfl
end Go.Proofs.YtelgllgaofjgjaaGreat
end
section
open Go.RowKit
set_option linter.unusedVariables false
set_option linter.unusedSimpArgs false
namespace Go.Proofs.YtelgllgaofjgjaaGreat
def idxCells (g : GameD) (av tv kv lv : Value) (mk mp : Nat) : List Value := gameCells g av tv ++ [.map (some mk),kv,lv,.map (some mp)]
def keyC (a : Int × Int) : List Value := [.int .i64 a.1,.int .i64 a.2]
theorem keyC_len (a : Int × Int) : (keyC a).length = 2 := rfl
theorem LnV_len (a : Value × Value) : (LnV a).length = 2 := rfl
def knownF (K : List (Int × Int)) (k : Int × Int) : Option Value := if k ∈ K then some (.bool true) else none
def EachR (X : World) (vs : List (Value × Value)) (L : List LineD) : Prop := ∀ (i : Nat) p x,vs[i]? = some p → L[i]? = some x → LineR X p.1 p.2 x.1 x.2
structure IdxS (w : World) (col : Nat → Nat) (ib : Nat) (g : GameD) (av tv kv lv : Value) (ms : List AddonM) (mk mp n : Nat) (vs : List (Value × Value)) (K Y : List (Int × Int)) (L : List LineD) (F : Int × Int × Int → List Nat) : Prop where
 ci : col ib = 0
 ck : col mk = 1
 cm : col mp = 4
 ckv : ∀ k,kv.ownBlock = some k → col k = 2
 clv : ∀ k,lv.ownBlock = some k → col k = 3
 row : Hold col 0 w fun X => Row X ib 80 (idxCells g av tv kv lv mk mp)
 game : Hold col 5 w fun X => GameR X av tv ms g
 known : Hold col 1 w fun X => ∃ n,n ≤ K.length ∧ MapV Tryz.prog 87 keyV X mk n (knownF K)
 keys : Hold col 2 w fun X => OwnS 2 keyC (fun _ _ => True) X 0 87 kv Y
 lines : Hold col 3 w fun X => OwnS 2 LnV (fun _ _ => True) X 0 53 lv vs
 vlen : vs.length = L.length
 each : Hold col 5 w fun X => EachR X vs L
 places : Hold col 4 w fun X => PlT X (fun k => col k = 4) mp n F
def IdxR (w : World) (col : Nat → Nat) (ib : Nat) (g : GameD) (es : List EntD) : Prop :=
 (∀ k,w.heap.size ≤ k → col k = 6) ∧ gameE g = 0 ∧ (∀ x ∈ es,OkD g x) ∧ DiffK es ∧
 ∃ av tv kv lv ms mk mp n vs,n ≤ es.length * 400 ∧ IdxS w col ib g av tv kv lv ms mk mp n vs (es.map keyD) (es.map keyD) (es.map (·.l)) (occE g es)
def Mine (col : Nat → Nat) (k : Nat) : Prop := col k < 5
def Later (w : World) (col col' : Nat → Nat) : Prop := ∀ k,k < w.heap.size → col' k = col k
section
variable {w X Y : World} {p : Nat → Prop} {col col' : Nat → Nat} {ib : Nat} {g : GameD} {av tv kv lv : Value} {ms : List AddonM} {mk mp n c : Nat} {vs : List (Value × Value)} {K Q : List (Int × Int)} {L : List LineD} {F : Int × Int × Int → List Nat}
theorem Hold.lt {P : World → Prop} {b : Nat} (h : Hold col c w P) (hP : ∀ X,P X → b < X.heap.size) : b < w.heap.size := hP w h.now
theorem IdxS.ilt (h : IdxS w col ib g av tv kv lv ms mk mp n vs K Q L F) : ib < w.heap.size := h.row.now.lt
theorem IdxS.klt (h : IdxS w col ib g av tv kv lv ms mk mp n vs K Q L F) : mk < w.heap.size := by
 obtain ⟨n,_,hm⟩ := h.known.now
 exact hm.lt
theorem IdxS.mlt (h : IdxS w col ib g av tv kv lv ms mk mp n vs K Q L F) : mp < w.heap.size := by
 obtain ⟨f,hm,_⟩ := h.places.now
 exact hm.lt
theorem IdxS.kvlt (h : IdxS w col ib g av tv kv lv ms mk mp n vs K Q L F) : ∀ k,kv.ownBlock = some k → k < w.heap.size := fun k hk => (h.keys.now.lt k hk).2
theorem IdxS.lvlt (h : IdxS w col ib g av tv kv lv ms mk mp n vs K Q L F) : ∀ k,lv.ownBlock = some k → k < w.heap.size := fun k hk => (h.lines.now.lt k hk).2
theorem IdxS.part {P : World → Prop} {d : Nat} (hne : d ≠ c) (hh : Hold col d w P) (hc : Chg p w X) (hp : ∀ k,k < w.heap.size → p k → col k = c) (he : ∀ k,k < w.heap.size → col' k = col k) : Hold col' d X P :=
 hh.step hc (fun k hk hpk e => hne (e.symm.trans (hp k hk hpk))) he
theorem PlT.later (h : PlT w (fun k => col k = 4) mp n F) (he : ∀ k,k < w.heap.size → col' k = col k) : PlT w (fun k => col' k = 4) mp n F := h.mono fun k hk h => (he k hk).trans h
theorem Hold.places (h : Hold col 4 w fun X => PlT X (fun k => col k = 4) mp n F) (he : ∀ k,k < w.heap.size → col' k = col k) : Hold col 4 w fun X => PlT X (fun k => col' k = 4) mp n F := by
 intro X hX
 refine (h.now.later he).same hX.size fun k hk h4 => ?_
 exact hX.block k hk fun hn => hn ((he k hk).symm.trans h4)
theorem IdxS.turn (h : IdxS w col ib g av tv kv lv ms mk mp n vs K Q L F) (hc : Chg p w X) (hp : ∀ k, k < w.heap.size → p k → col k = 6) (he : ∀ k, k < w.heap.size → col' k = col k) : IdxS X col' ib g av tv kv lv ms mk mp n vs K Q L F :=
  ⟨(he _ h.ilt).trans h.ci, (he _ h.klt).trans h.ck, (he _ h.mlt).trans h.cm, fun k hk => (he _ (h.kvlt k hk)).trans (h.ckv k hk), fun k hk => (he _ (h.lvlt k hk)).trans (h.clv k hk),
   IdxS.part (by decide) h.row hc hp he, IdxS.part (by decide) h.game hc hp he, IdxS.part (by decide) h.known hc hp he, IdxS.part (by decide) h.keys hc hp he, IdxS.part (by decide) h.lines hc hp he, h.vlen, IdxS.part (by decide) h.each hc hp he, IdxS.part (by decide) (h.places.places he) hc hp he⟩
theorem IdxS.below (h : IdxS w col ib g av tv kv lv ms mk mp n vs K Q L F) (hb : Below w.heap.size w X) (he : ∀ k,k < w.heap.size → col' k = col k) : IdxS X col' ib g av tv kv lv ms mk mp n vs K Q L F := h.turn (p := fun _ => False) (Chg.ofBelow hb) (fun _ _ h => h.elim) he
theorem IdxS.putK {K' : List (Int × Int)} {m : Nat} (h : IdxS w col ib g av tv kv lv ms mk mp n vs K Q L F) (hg : w.grownBy X (some mk)) (hm : m ≤ K'.length) (hM : MapV Tryz.prog 87 keyV X mk m (knownF K')) : IdxS X col ib g av tv kv lv ms mk mp n vs K' Q L F := by
 have hc : Chg (fun k => k = mk) w X := Chg.ofGb hg fun k hk => by injection hk with hk;exact hk.symm
 have hp : ∀ k,k < w.heap.size → k = mk → col k = 1 := fun k _ e => e ▸ h.ck
 have he : ∀ k,k < w.heap.size → col k = col k := fun _ _ => rfl
 exact ⟨h.ci,h.ck,h.cm,h.ckv,h.clv,IdxS.part (by decide) h.row hc hp he,IdxS.part (by decide) h.game hc hp he,Hold.of h.ck hM.lt fun Y _ hY => ⟨m,hm,hM.block hY⟩,IdxS.part (by decide) h.keys hc hp he,IdxS.part (by decide) h.lines hc hp he,h.vlen,IdxS.part (by decide) h.each hc hp he,IdxS.part (by decide) h.places hc hp he⟩
theorem IdxS.cell {cs : List Value} (h : Hold col 0 w fun X => Row X ib 80 cs) (hci : col ib = 0) (i : Nat) (u : Value) : Hold col 0 (w.setCell ⟨ib,i,none⟩ u) fun X => Row X ib 80 (cs.set i u) :=
 Row.hold (h.now.set i u) hci
theorem Chg.cell (w : World) (b i : Nat) (u : Value) : Chg (fun k => k = b) w (w.setCell ⟨b,i,none⟩ u) := Chg.set (p := fun k => k = b) rfl i u
theorem IdxS.putY {Q' : List (Int × Int)} {kv' : Value} (h : IdxS w col ib g av tv kv lv ms mk mp n vs K Q L F) (hg : w.grownBy X kv.ownBlock) (ho : OwnS 2 keyC (fun _ _ => True) X 0 87 kv' Q') (hl : kv'.ownBlock = kv.ownBlock ∨ kv'.ownBlock = some w.heap.size) :
  IdxS (X.setCell ⟨ib,23,none⟩ kv') (extC col w.heap.size 2) ib g av tv kv' lv ms mk mp n vs K Q' L F := by
 have hc : Chg (fun k => kv.ownBlock = some k) w X := Chg.ofGb hg fun k hk => hk
 have hp : ∀ k,k < w.heap.size → kv.ownBlock = some k → col k = 2 := fun k _ e => h.ckv k e
 have he : ∀ k,k < w.heap.size → extC col w.heap.size 2 k = col k := fun k hk => extC_lt hk
 have c2 : ∀ k,kv'.ownBlock = some k → extC col w.heap.size 2 k = 2 := fun k hk => by
  rcases hl with hl | hl
  ·have := h.kvlt k (hl ▸ hk)
   exact (he k this).trans (h.ckv k (hl ▸ hk))
  ·rw [hl] at hk
   injection hk with hk
   exact extC_ge (by omega)
 have ci := (he _ h.ilt).trans h.ci
 have hs : ∀ {d : Nat} {P : World → Prop},d ≠ 0 → Hold (extC col w.heap.size 2) d X P → Hold (extC col w.heap.size 2) d (X.setCell ⟨ib,23,none⟩ kv') P := fun hne hh => IdxS.part hne hh (Chg.cell X ib 23 kv') (fun k _ e => e ▸ ci) fun _ _ => rfl
 exact ⟨ci,(he _ h.klt).trans h.ck,(he _ h.mlt).trans h.cm,c2,fun k hk => (he _ (h.lvlt k hk)).trans (h.clv k hk),IdxS.cell (IdxS.part (by decide) h.row hc hp he) ci 23 kv',
  hs (by decide) (IdxS.part (by decide) h.game hc hp he),hs (by decide) (IdxS.part (by decide) h.known hc hp he),hs (by decide) (ho.hold c2),hs (by decide) (IdxS.part (by decide) h.lines hc hp he),h.vlen,hs (by decide) (IdxS.part (by decide) h.each hc hp he),hs (by decide) (IdxS.part (by decide) (h.places.places he) hc hp he)⟩
theorem IdxS.putL {p5 : Value × Value} {x : LineD} {lv' : Value} (h : IdxS w col ib g av tv kv lv ms mk mp n vs K Q L F) (h5 : Hold col 5 w fun X => LineR X p5.1 p5.2 x.1 x.2) (hg : w.grownBy X lv.ownBlock) (ho : OwnS 2 LnV (fun _ _ => True) X 0 53 lv' (vs ++ [p5])) (hl : lv'.ownBlock = lv.ownBlock ∨ lv'.ownBlock = some w.heap.size) :
  IdxS (X.setCell ⟨ib,24,none⟩ lv') (extC col w.heap.size 3) ib g av tv kv lv' ms mk mp n (vs ++ [p5]) K Q (L ++ [x]) F := by
 have hc : Chg (fun k => lv.ownBlock = some k) w X := Chg.ofGb hg fun k hk => hk
 have hp : ∀ k,k < w.heap.size → lv.ownBlock = some k → col k = 3 := fun k _ e => h.clv k e
 have he : ∀ k,k < w.heap.size → extC col w.heap.size 3 k = col k := fun k hk => extC_lt hk
 have c3 : ∀ k,lv'.ownBlock = some k → extC col w.heap.size 3 k = 3 := fun k hk => by
  rcases hl with hl | hl
  ·have := h.lvlt k (hl ▸ hk)
   exact (he k this).trans (h.clv k (hl ▸ hk))
  ·rw [hl] at hk
   injection hk with hk
   exact extC_ge (by omega)
 have ci := (he _ h.ilt).trans h.ci
 have hs : ∀ {d : Nat} {P : World → Prop},d ≠ 0 → Hold (extC col w.heap.size 3) d X P → Hold (extC col w.heap.size 3) d (X.setCell ⟨ib,24,none⟩ lv') P := fun hne hh => IdxS.part hne hh (Chg.cell X ib 24 lv') (fun k _ e => e ▸ ci) fun _ _ => rfl
 have hE : Hold (extC col w.heap.size 3) 5 X fun X => EachR X (vs ++ [p5]) (L ++ [x]) := by
  refine ((IdxS.part (by decide) h.each hc hp he).and (IdxS.part (by decide) h5 hc hp he)).mono fun Y hY i q y hq hy => ?_
  by_cases hi : i < vs.length
  ·rw [List.getElem?_append_left hi] at hq
   rw [List.getElem?_append_left (by rw [← h.vlen];exact hi)] at hy
   exact hY.1 i q y hq hy
  ·rw [List.getElem?_append_right (by omega)] at hq
   rw [List.getElem?_append_right (by rw [← h.vlen];omega),← h.vlen] at hy
   have h0 : i - vs.length = 0 := by
    rcases Nat.eq_zero_or_pos (i - vs.length) with h0 | h0
    ·exact h0
    ·rw [List.getElem?_eq_none (by simp;omega)] at hq;cases hq
   rw [h0] at hq hy
   simp at hq hy
   subst hq hy
   exact hY.2
 exact ⟨ci,(he _ h.klt).trans h.ck,(he _ h.mlt).trans h.cm,fun k hk => (he _ (h.kvlt k hk)).trans (h.ckv k hk),c3,IdxS.cell (IdxS.part (by decide) h.row hc hp he) ci 24 lv',
  hs (by decide) (IdxS.part (by decide) h.game hc hp he),hs (by decide) (IdxS.part (by decide) h.known hc hp he),hs (by decide) (IdxS.part (by decide) h.keys hc hp he),hs (by decide) (ho.hold c3),by simp [h.vlen],hs (by decide) hE,hs (by decide) (IdxS.part (by decide) (h.places.places he) hc hp he)⟩
theorem IdxS.putP {F' : Int × Int × Int → List Nat} {m : Nat} (h : IdxS w col ib g av tv kv lv ms mk mp n vs K Q L F) (hc : Chg (fun k => extC col w.heap.size 4 k = 4) w X) (hP : PlT X (fun k => extC col w.heap.size 4 k = 4) mp m F') : IdxS X (extC col w.heap.size 4) ib g av tv kv lv ms mk mp m vs K Q L F' := by
  have he : ∀ k, k < w.heap.size → extC col w.heap.size 4 k = col k := fun k hk => extC_lt hk
  have hp : ∀ k, k < w.heap.size → extC col w.heap.size 4 k = 4 → col k = 4 := fun k hk e => (he k hk).symm.trans e
  refine ⟨(he _ h.ilt).trans h.ci, (he _ h.klt).trans h.ck, (he _ h.mlt).trans h.cm, fun k hk => (he _ (h.kvlt k hk)).trans (h.ckv k hk), fun k hk => (he _ (h.lvlt k hk)).trans (h.clv k hk),
   IdxS.part (by decide) h.row hc hp he, IdxS.part (by decide) h.game hc hp he, IdxS.part (by decide) h.known hc hp he, IdxS.part (by decide) h.keys hc hp he, IdxS.part (by decide) h.lines hc hp he, h.vlen, IdxS.part (by decide) h.each hc hp he, fun Y hY => ?_⟩
  exact hP.same hY.size fun k hk h4 => hY.block k hk fun hn => hn h4
theorem IdxS.startP (h : IdxS w col ib g av tv kv lv ms mk mp n vs K Q L F) : PlT w (fun k => extC col w.heap.size 4 k = 4) mp n F := h.places.now.later fun k hk => extC_lt hk
theorem IdxS.linesR (h : IdxS w col ib g av tv kv lv ms mk mp n vs K Q L F) : LinesR w lv L :=
 ⟨vs,h.lines.now.rd LnV_len,h.vlen,h.each.now⟩
end
section
variable {w X : World} {p : Nat → Prop} {col col' : Nat → Nat} {ib : Nat} {g : GameD} {es : List EntD}
theorem IdxR.turn (h : IdxR w col ib g es) (hc : Chg p w X) (hp : ∀ k,k < w.heap.size → p k → col k = 6) : IdxR X col ib g es := by
 obtain ⟨h1,h2,h3,h4,av,tv,kv,lv,ms,mk,mp,n,vs,h5,h6⟩ := h
 exact ⟨fun k hk => h1 k (Nat.le_trans hc.size hk),h2,h3,h4,_,_,_,_,_,_,_,_,_,h5,h6.turn hc hp fun _ _ => rfl⟩
theorem IdxR.below (h : IdxR w col ib g es) (hb : Below w.heap.size w X) : IdxR X col ib g es := h.turn (p := fun _ => False) (Chg.ofBelow hb) fun _ _ h => h.elim
theorem IdxR.bound (h : IdxR w col ib g es) : ∀ k,w.heap.size ≤ k → col k = 6 := h.1
theorem IdxR.good (h : IdxR w col ib g es) : gameE g = 0 := h.2.1
theorem IdxR.ok (h : IdxR w col ib g es) : ∀ x ∈ es,OkD g x := h.2.2.1
theorem IdxR.ilt (h : IdxR w col ib g es) : ib < w.heap.size := by
 obtain ⟨h1,h2,h3,h4,av,tv,kv,lv,ms,mk,mp,n,vs,h5,h6⟩ := h
 exact h6.ilt
end
theorem NewO.idx {g : GameD} {w w' : World} {e : Ending} (hg : gameE g = 0) (h : NewO g w e w') :
  ∃ ib col,e = .returned (.tuple #[.pointer (some ⟨ib,0,none⟩),.int .i64 0]) ∧ Below w.heap.size w w' ∧ IdxR w' col ib g [] ∧ (∀ k,k < w.heap.size → col k = 5) := by
 obtain ⟨Wm,ib,mk,mp,av,tv,ms,rfl,h1,h2,h3,h4,h5,h6,h7,h8,h9,h10,h11,h12⟩ := h
 have hk := (Array.getElem?_eq_some_iff.1 h10).1
 have hm := (Array.getElem?_eq_some_iff.1 h11).1
 have hib := h12.lt
 have hsz := h3.size
 obtain ⟨col,hcol⟩ : ∃ col : Nat → Nat,col = fun k => if k < Wm.heap.size then 5 else if k = ib then 0 else if k = mk then 1 else if k = mp then 4 else 6 := ⟨_,rfl⟩
 have c0 : col ib = 0 := by subst hcol;show ite _ _ _ = _;rw [if_neg (by omega),if_pos rfl]
 have c1 : col mk = 1 := by subst hcol;show ite _ _ _ = _;rw [if_neg (by omega),if_neg (by omega),if_pos rfl]
 have c4 : col mp = 4 := by subst hcol;show ite _ _ _ = _;rw [if_neg (by omega),if_neg (by omega),if_neg (by omega),if_pos rfl]
 have c5 : ∀ k,k < Wm.heap.size → col k = 5 := fun k hk => by subst hcol;exact if_pos hk
 have c6 : ∀ k,w'.heap.size ≤ k → col k = 6 := fun k hk => by
  subst hcol
  simp only
  rw [if_neg (by omega),if_neg (by omega),if_neg (by omega),if_neg (by omega)]
 refine ⟨ib,col,rfl,Bel.to h2 h3,⟨c6,hg,fun x hx => by simp at hx,List.Pairwise.nil,av,tv,.slice none 0 0,.slice none 0 0,ms,mk,mp,0,[],Nat.zero_le _,?_⟩,fun k hk => c5 k (Nat.lt_of_lt_of_le hk h2.size)⟩
 refine ⟨c0,c1,c4,(fun k hk => by simp [Value.ownBlock] at hk),(fun k hk => by simp [Value.ownBlock] at hk),Row.hold h12 c0,(fun X hX => h1.below ⟨hX.os.trans h3.os,hX.tape.trans h3.tape,hX.output.trans h3.output,Nat.le_trans h3.size hX.size,fun k hk => (hX.block k (Nat.lt_of_lt_of_le hk h3.size) fun hn => hn (c5 k hk)).trans (h3.block k hk)⟩),?_,(fun X _ => OwnS.nil _ _ _),(fun X _ => OwnS.nil _ _ _),rfl,(fun X _ i p x hp => by simp at hp),?_⟩
 ·exact Hold.of c1 hk fun X _ he => ⟨0,Nat.le_refl _,(MapV.ofEmpty _ _ _ (he.trans h10)).congr fun x => rfl⟩
 ·exact Hold.of c4 hm fun X _ he => PlT.congr (PlT.new (he.trans h11) c4) fun p => rfl
end Go.Proofs.YtelgllgaofjgjaaGreat
end
section
open Go.RowKit
set_option linter.unusedVariables false
set_option linter.unusedSimpArgs false
namespace Go.Proofs.YtelgllgaofjgjaaGreat
open Go.ChangeMaps Go.MapKept
open Go.Maps (Keyed)
theorem Below.gb' {w X : World} (h : Below w.heap.size w X) : w.grownBy X none := ⟨h.os,h.tape,h.output,h.size,fun k hk _ => h.block k hk⟩
theorem Gb.al {w X : World} {row : Option Nat} (h : w.grownBy X row) (o : Obj) : w.grownBy (X.alloc o) row :=
 ⟨h.os,h.tape,h.output,Nat.le_trans h.size (by simp),fun k hk hne => (Below.heap_alloc X o k (Nat.lt_of_lt_of_le hk h.size)).trans (h.block k hk hne)⟩
section
variable {α : Type} {P : Program} {k : TypeId} {kV : α → Value} {w : World} {b n : Nat} {f : α → Option Value}
theorem yieldsIf_look_mapV {ops : Array Oper} {S : World → Prop} {op : Oper} {a : Act} (hw : Region.wanted op (yielded ops a.tmps) = true) (m x : Operand) (t : TypeId) (hop : op.op = .lookup t m x false)
  (e : TypeId) (K : Keyed P k) (ht : P.underlying t = some (.map k e)) {z : Value} (hz : ∀ w,(zeroValue e).run P w = .ok z w) (hm : a.eval m = .map (some b)) (hS : ∀ w,S w → MapV P k kV w b n f) (key : α) (kl : Lit) (hx : a.eval x = kV key) (hkey : keyOf P k (kV key) = some kl) :
  YieldsIf P ops S op ((f key).getD z) a := .inl ⟨hw,fun w hw' => by
 have hr := (hS w hw').look K ht (hz w) hkey
 unfold execOp
 simp [hop,hm,hx,hr,Result.andThen]⟩
theorem wp_put_mapV [DecidableEq α] (hinj : ∀ x y,kV x = kV y → x = y) {o : Oper} {a : Act} {K' : Act → World → Prop} {Q : Exit → Act → World → Prop} (m x v : Operand) (t : TypeId) (hop : o.op = Op.mapUpdate t m x v)
  (e : TypeId) (K : Keyed P k) (ht : P.underlying t = some (.map k e)) (hm : a.eval m = .map (some b)) (h : MapV P k kV w b n f) (hn : n < maxLen) (key : α) (val : Value) (kl : Lit) (hx : a.eval x = kV key) (hv : a.eval v = val) (hkey : keyOf P k (kV key) = some kl)
  (hK : ∀ X,MapV P k kV X b (n + 1) (fun x => if x = key then some val else f x) → w.grownBy X (some b) → K' (a.put o.dst undef) X) : o.wp P a w K' Q := by
 obtain ⟨X,hr,h1,h2⟩ := h.put hinj K ht hn hkey val
 unfold Oper.wp
 simp [execOp,hop,hm,hx,hv,hr,Result.andThen]
 exact hK X h1 h2
end
theorem wp_append_rd2 {P : Program} {w : World} {α : Type} {V : α → Value} {o : Oper} {a : Act} {K : Act → World → Prop} {Q : Exit → Act → World → Prop} (s x : Operand) (t : TypeId)
  (ho : o.op = .call { callee := .builtin .append,args := #[s,x],argTypes := #[t,t] })
  (hone : ∀ x,(V x).oneCell' = true) (base : Nat) (e : TypeId) (z : Value) (bytes : Nat) (ht : P.underlying t = some (.slice e)) (hi : (P.info? e).map (fun i => (i.zero,i.size,i.bytes)) = some (some z,1,bytes)) (hzs : z.cells.size = 1)
  (v : Value) (l : List α) (hs : a.eval s = v) (hown : Own V w base e v l) (u : Value) (l2 : List α) (hx : a.eval x = u) (hr : Rd V w u l2)
  (h63 : l.length + l2.length ≤ 9223372036854775807) (hbytes : (l.length + l2.length) * bytes ≤ 140737488355328) (hbase : base ≤ w.heap.size)
  (h : ∀ v' w',Own V w' base e v' (l ++ l2) → w.grownBy w' v.ownBlock → (v'.ownBlock = v.ownBlock ∨ v'.ownBlock = some w.heap.size) → K (a.put o.dst v') w') : o.wp P a w K Q := by
 obtain ⟨v',w',hr,h2,h3,h4⟩ := run_append_rd (P := P) w hone base t o.type e z bytes ht hi hzs v l hown u l2 hr h63 hbytes hbase
 unfold Oper.wp execOp
 simp only [ho,resolve,invoke,builtin,Sem.run_bind,Sem.run_pure,Result.andThen_ok,List.map_toArray,List.map_cons,List.map_nil,hs,hx,hr]
 exact h v' w' h2 h3 h4
def wfI (x : Int) : Prop := (Lit.int .i64 x).wf = true
theorem wfI_of {x : Int} (h1 : -9223372036854775808 ≤ x) (h2 : x ≤ 9223372036854775807) : wfI x := by
 unfold wfI Lit.wf
 simp [IntKind.min,IntKind.max,IntKind.bits,IntKind.signed]
 omega
theorem zeroIL (w : World) : (zeroValue 27).run Tryz.prog w = .ok (.slice none 0 0) w := by kernel_rfl
set_option maxHeartbeats 4000000 in
set_option maxRecDepth 100000 in
theorem pladd_any (ib mp n i : Nat) (p : Int × Int × Int) (T : Nat → Prop) (F : Int × Int × Int → List Nat) (w : World) (hcell : w.cell? ⟨ib,25,none⟩ = some (.map (some mp))) (hib : ¬ T ib) (hT : ∀ k,w.heap.size ≤ k → T k) (hP : PlT w T mp n F)
  (hnn : n ≤ 1000000000) (hLL : (F p).length ≤ 1000000000) (hp1 : wfI p.1) (hp2 : wfI p.2.1) (hp3 : wfI p.2.2) :
  Calls Tryz.prog 31 #[.pointer (some ⟨ib,25,none⟩),placeV p,.int .i64 (i : Int)] w (fun e w' => e = .returned (.tuple #[]) ∧ PlT w' T mp (n + 1) (fun q => if q = p then F p ++ [i] else F q) ∧ Chg T w w') := by
 obtain ⟨f,h1,h2,h3,h4,h5⟩ := hP
 obtain ⟨kl,hkey⟩ := placeV_key hp1 hp2 hp3
 replace hkey := hide hkey
 have hibs : ib < w.heap.size := World.block_lt_of_cell? _ _ hcell
 have hms := h1.lt
 have hne : ib ≠ mp := fun e => hib (e ▸ h2)
 have n1 : some ib ≠ ((f p).getD (.slice none 0 0)).ownBlock := fun e => hib (h4 p ib e.symm)
 have n2 : some w.heap.size ≠ ((f p).getD (.slice none 0 0)).ownBlock := fun e => by have := ((h3 p).lt _ e.symm).2;omega
 have n3 : some mp ≠ ((f p).getD (.slice none 0 0)).ownBlock := fun e => own_not_map (h3 p) h1.isMap e.symm
 have h3p := h3 p
 obtain ⟨fv,hfv⟩ : ∃ v,v = (f p).getD (.slice none 0 0) := ⟨_,rfl⟩
 rw [← hfv] at n1 n2 n3 h3p
 obtain ⟨L,hLe⟩ : ∃ L,L = F p := ⟨_,rfl⟩
 rw [← hLe] at h3p hLL
 have hL := hide hLL
 have hn := hide hnn
 replace hfv := hide hfv
 replace hLe := hide hLe
 have hTh := hide hT
 have h2h := hide h2
 have h3h := hide h3
 have h4h := hide h4
 have h5h := hide h5
 clear hib hT h2 h3 h4 h5 hnn hLL hp1 hp2 hp3
 unfold placeV
 go_enter Tryz.func31,Tryz.ntmps31
 go_upto_region 1 with (fail)
 obtain ⟨W,hW⟩ : ∃ W,W = w.alloc (Obj.cells #[.int .i64 p.1,.int .i64 p.2.1,.int .i64 p.2.2] 90) := ⟨_,rfl⟩
 have bW : Below w.heap.size w W := by rw [hW];exact Bel.al (Below.refl _ _) _
 have r0 : Row W w.heap.size 90 [.int .i64 p.1,.int .i64 p.2.1,.int .i64 p.2.2] := by rw [hW];exact Row.new _ _ _
 have sW : W.heap.size = w.heap.size + 1 := by rw [hW];simp
 have d0 : W.drew.cell? ⟨ib,25,none⟩ = some (.map (some mp)) := Bel.cellOf (Below.drew bW) hcell
 have m0 : MapV Tryz.prog 90 placeV W.drew mp n f := h1.kept (Below.gb' (Below.drew bW)) (by simp)
 have oW : Hid (Own natI W.drew 0 3 fv L) := h3p.keep (Below.drew bW)
 have hWs := hide sW
 rw [← hW]
 clear hW h1 h3p hcell sW
 refine till_begin 14 (fun X => X.cell? ⟨ib,25,none⟩ = some (.map (some mp)) ∧ X.rangeAt w.heap.size 0 [.int .i64 p.1,.int .i64 p.2.1,.int .i64 p.2.2] ∧ MapV Tryz.prog 90 placeV X mp n f) (by kernel_rfl) (⟨d0,fun j u hu => by rw [Nat.zero_add];exact ((r0.drew).cell? j).trans hu,m0⟩) (fun hHeld => ?_)
 refine' till_pure (i := 0) (oi := _) (v := .pointer (some ⟨ib,25,none⟩)) rfl (by kernel_rfl) (by kernel_rfl) (by kernel_rfl) (by kernel_rfl) (fun _ _ _ h => h) (Or.inl ⟨by first | (go_simp;done) | rfl,fun X _ => by go_simp⟩) hHeld ?_
 try simp only [Act.put,zsA,zsB,zsC]
 refine' till_pure (i := 1) (oi := _) (v := .pointer (some ⟨ib,25,none⟩)) rfl (by kernel_rfl) (by kernel_rfl) (by kernel_rfl) (by kernel_rfl) (fun _ _ _ h => h) (Or.inl ⟨by first | (go_simp;done) | rfl,fun X _ => by go_simp⟩) hHeld ?_
 try simp only [Act.put,zsA,zsB,zsC]
 refine' till_pure (i := 2) (oi := _) (v := .pointer (some ⟨ib,25,none⟩)) rfl (by kernel_rfl) (by kernel_rfl) (by kernel_rfl) (by kernel_rfl) (fun _ _ _ h => h) (Or.inl ⟨by first | (go_simp;done) | rfl,fun X _ => by go_simp⟩) hHeld ?_
 try simp only [Act.put,zsA,zsB,zsC]
 refine' till_take (i := 3) (oi := _) (v := .map (some mp)) rfl (by kernel_rfl) (by kernel_rfl) (by kernel_rfl) (by kernel_rfl) (fun _ _ _ h => h) (Or.inl ⟨by first | (go_simp;done) | rfl,fun X hX => by have h0 := hX.1;go_simp⟩) hHeld ?_
 try simp only [Act.put,zsA,zsB,zsC]
 refine' till_take (i := 4) (oi := _) (v := .agg #[.int .i64 p.1,.int .i64 p.2.1,.int .i64 p.2.2]) rfl (by kernel_rfl) (by kernel_rfl) (by kernel_rfl) (by kernel_rfl) (fun _ _ _ h => h) (by refine (yieldsIf_load_mid ?_ 90 (.tmp 4) rfl w.heap.size 0 ?_ [.int .i64 p.1,.int .i64 p.2.1,.int .i64 p.2.2] _ (fun X h => h.2.1) Tryz.underlying90 rfl (by kernel_rfl)) <;> go_simp) hHeld ?_
 try simp only [Act.put,zsA,zsB,zsC]
 refine' till_pure (i := 5) (oi := _) (v := .pointer (some ⟨ib,25,none⟩)) rfl (by kernel_rfl) (by kernel_rfl) (by kernel_rfl) (by kernel_rfl) (fun _ _ _ h => h) (Or.inl ⟨by first | (go_simp;done) | rfl,fun X _ => by go_simp⟩) hHeld ?_
 try simp only [Act.put,zsA,zsB,zsC]
 refine' till_pure (i := 6) (oi := _) (v := .pointer (some ⟨ib,25,none⟩)) rfl (by kernel_rfl) (by kernel_rfl) (by kernel_rfl) (by kernel_rfl) (fun _ _ _ h => h) (Or.inl ⟨by first | (go_simp;done) | rfl,fun X _ => by go_simp⟩) hHeld ?_
 try simp only [Act.put,zsA,zsB,zsC]
 refine' till_pure (i := 7) (oi := _) (v := .pointer (some ⟨ib,25,none⟩)) rfl (by kernel_rfl) (by kernel_rfl) (by kernel_rfl) (by kernel_rfl) (fun _ _ _ h => h) (Or.inl ⟨by first | (go_simp;done) | rfl,fun X _ => by go_simp⟩) hHeld ?_
 try simp only [Act.put,zsA,zsB,zsC]
 refine' till_take (i := 8) (oi := _) (v := .map (some mp)) rfl (by kernel_rfl) (by kernel_rfl) (by kernel_rfl) (by kernel_rfl) (fun _ _ _ h => h) (Or.inl ⟨by first | (go_simp;done) | rfl,fun X hX => by have h0 := hX.1;go_simp⟩) hHeld ?_
 try simp only [Act.put,zsA,zsB,zsC]
 refine' till_take (i := 9) (oi := _) (v := .agg #[.int .i64 p.1,.int .i64 p.2.1,.int .i64 p.2.2]) rfl (by kernel_rfl) (by kernel_rfl) (by kernel_rfl) (by kernel_rfl) (fun _ _ _ h => h) (by refine (yieldsIf_load_mid ?_ 90 (.tmp 4) rfl w.heap.size 0 ?_ [.int .i64 p.1,.int .i64 p.2.1,.int .i64 p.2.2] _ (fun X h => h.2.1) Tryz.underlying90 rfl (by kernel_rfl)) <;> go_simp) hHeld ?_
 try simp only [Act.put,zsA,zsB,zsC]
 refine' till_take (i := 10) (oi := _) (v := (f p).getD (.slice none 0 0)) rfl (by kernel_rfl) (by kernel_rfl) (by kernel_rfl) (by kernel_rfl) (fun _ _ _ h => h) (by refine (yieldsIf_look_mapV (P := Tryz.prog) (k := 90) (kV := placeV) (b := mp) (n := n) (f := f) ?_ (.tmp 14) (.tmp 15) 76 rfl 27 place_keyed Tryz.underlying76 (z := .slice none 0 0) zeroIL ?_ (fun X h => h.2.2) p kl ?_ hkey.out) <;> (try unfold placeV) <;> go_simp) hHeld ?_
 try simp only [Act.put,zsA,zsB,zsC]
 rw [← hfv.out]
 refine' till_pure (i := 11) (oi := _) (v := .int .i64 (i : Int)) rfl (by kernel_rfl) (by kernel_rfl) (by kernel_rfl) (by kernel_rfl) (fun _ _ _ h => h) (Or.inl ⟨by first | (go_simp;done) | rfl,fun X _ => by go_simp⟩) hHeld ?_
 try simp only [Act.put,zsA,zsB,zsC]
 refine till_ready (rs := [12]) (by kernel_rfl) (by simp) ?_
 refine TillReady.cons (o := _) rfl (fun K hK => ?_) TillReady.nil
 go_simp
 refine hK.out _ _ ⟨cell_alloc hHeld.1 _,fun j u hu => cell_alloc (hHeld.2.1 j u hu) _,hHeld.2.2.kept (Gb.al (Gb.refl _ none) _) (by simp)⟩ (fun hHeld => ?_)
 clear hK K
 try simp only [Act.put,zsA,zsB,zsC]
 refine till_ready (rs := [13]) (by kernel_rfl) (by simp) ?_
 refine TillReady.cons (o := _) rfl (fun K hK => ?_) TillReady.nil
 rw [if_pos (by first | rfl | (go_simp;done))]
 refine wp_append_rd2 _ _ 27 rfl (fun _ => rfl) 0 3 (.int .i64 0) 8 Tryz.underlying27 (by kernel_rfl) rfl fv L rfl (oW.out.alloc _) _ [i] rfl (Rd.new [i] (by simp) rfl (Nat.le_refl _) (by decide) rfl) (by have := hL.out;simp;omega) (by have := hL.out;simp;omega) (Nat.zero_le _) ?_
 intro v' w1 ho1 hg1 hloc
 refine hK.out _ _ ⟨(World.cell?_of_block (hg1.block ib (World.block_lt_of_cell? _ _ hHeld.1) n1)).trans hHeld.1,fun j u hu => (World.cell?_of_block (hg1.block w.heap.size (by have := hWs.out;simp;omega) n2)).trans (hHeld.2.1 j u hu),hHeld.2.2.kept hg1 n3⟩ (fun hHeld => ?_)
 clear hK K
 try simp only [Act.put,zsA,zsB,zsC]
 refine till_ready (rs := [14]) (by kernel_rfl) (by simp) ?_
 refine TillReady.last (o := _) rfl (by kernel_rfl) (fun K hK => ?_) TillReady.nil
 rw [if_pos (by first | rfl | (go_simp;done))]
 refine wp_put_mapV placeV_inj _ _ _ 76 rfl 27 place_keyed Tryz.underlying76 (b := mp) rfl hHeld.2.2 (by have := hn.out;unfold maxLen;omega) p v' kl rfl rfl hkey.out ?_
 intro X hX hgX
 refine hK.out _ _ ?_
 clear hK K
 try simp only [Act.put,zsA,zsB,zsC]
 refine till_done (by kernel_rfl) ?_ _
 go_simp
 have hfin : PlT X T mp (n + 1) (fun q => if q = p then L ++ [i] else F q) ∧ Chg T (W.drew.alloc (.cells #[.int .i64 (i : Int)] 3)) X :=
  PlT.add (f := f) (fun k hk => hTh.out k (by have := hWs.out;simp at hk;omega)) (m0.kept (Gb.al (Gb.refl _ none) _) (by simp)) h2h.out (fun q => ((h3h.out q).keep (Below.drew bW)).alloc _) h4h.out h5h.out (hfv.out ▸ hg1) ho1 (by rw [← hfv.out];exact hloc.imp id fun h => ⟨_,h,Nat.le_refl _⟩) hHeld.2.2 hX hgX
 go_wp2
 go_end0
 rw [← hLe.out]
 exact ⟨rfl,hfin.1,(Chg.ofBelow (Bel.al (Below.drew bW) _)).then hfin.2 (fun k _ hk => hk)⟩
set_option maxHeartbeats 4000000 in
set_option maxRecDepth 100000 in
theorem plget_any (ib mp n : Nat) (p : Int × Int × Int) (T : Nat → Prop) (F : Int × Int × Int → List Nat) (w : World) (hcell : w.cell? ⟨ib,25,none⟩ = some (.map (some mp))) (hP : PlT w T mp n F)
  (hp1 : wfI p.1) (hp2 : wfI p.2.1) (hp3 : wfI p.2.2) :
  Calls Tryz.prog 61 #[.pointer (some ⟨ib,25,none⟩),placeV p] w (fun e w' => ∃ v,e = .returned v ∧ Rd natI w' v (F p) ∧ (∀ k,v.ownBlock = some k → T k) ∧ Below w.heap.size w w') := by
 obtain ⟨f,h1,h2,h3,h4,h5⟩ := hP
 obtain ⟨kl,hkey⟩ := placeV_key hp1 hp2 hp3
 replace hkey := hide hkey
 have h3p := (h3 p).rd
 have h4p := h4 p
 have hms := h1.lt
 obtain ⟨fv,hfv⟩ : ∃ v,v = (f p).getD (.slice none 0 0) := ⟨_,rfl⟩
 rw [← hfv] at h3p h4p
 obtain ⟨fa,fn,fc,hfs⟩ := h3p.shape
 replace hfv := hide hfv
 clear h2 h3 h4 h5 hp1 hp2 hp3
 subst hfs
 replace h4p := hide h4p
 unfold placeV
 go_enter Tryz.func61,Tryz.ntmps61
 go_upto_region 1 with (fail)
 obtain ⟨W,hW⟩ : ∃ W,W = w.alloc (Obj.cells #[.int .i64 p.1,.int .i64 p.2.1,.int .i64 p.2.2] 90) := ⟨_,rfl⟩
 have bW : Below w.heap.size w W := by rw [hW];exact Bel.al (Below.refl _ _) _
 have r0 : Row W w.heap.size 90 [.int .i64 p.1,.int .i64 p.2.1,.int .i64 p.2.2] := by rw [hW];exact Row.new _ _ _
 have d0 : W.drew.cell? ⟨ib,25,none⟩ = some (.map (some mp)) := Bel.cellOf (Below.drew bW) hcell
 have m0 : MapV Tryz.prog 90 placeV W.drew mp n f := h1.kept (Below.gb' (Below.drew bW)) (by simp)
 rw [← hW]
 clear hW h1 hcell
 refine wp_region_held_drew (S := fun X => X.cell? ⟨ib,25,none⟩ = some (.map (some mp)) ∧ X.rangeAt w.heap.size 0 [.int .i64 p.1,.int .i64 p.2.1,.int .i64 p.2.2] ∧ MapV Tryz.prog 90 placeV X mp n f) (by kernel_rfl) ⟨d0,fun j u hu => by rw [Nat.zero_add];exact ((r0.drew).cell? j).trans hu,m0⟩ (fun hHeld => ?_)
 refine' wpAnyH_take (i := 0) (oi := _) (v := .pointer (some ⟨ib,25,none⟩)) rfl (by kernel_rfl) (by kernel_rfl) (by kernel_rfl) (fun _ _ _ h => h) (Or.inl ⟨by first | (go_simp;done) | rfl,fun X hX => by go_simp⟩) hHeld ?_
 try simp only [Act.put,zsA,zsB,zsC]
 refine' wpAnyH_take (i := 1) (oi := _) (v := .pointer (some ⟨ib,25,none⟩)) rfl (by kernel_rfl) (by kernel_rfl) (by kernel_rfl) (fun _ _ _ h => h) (Or.inl ⟨by first | (go_simp;done) | rfl,fun X hX => by go_simp⟩) hHeld ?_
 try simp only [Act.put,zsA,zsB,zsC]
 refine' wpAnyH_take (i := 2) (oi := _) (v := .pointer (some ⟨ib,25,none⟩)) rfl (by kernel_rfl) (by kernel_rfl) (by kernel_rfl) (fun _ _ _ h => h) (Or.inl ⟨by first | (go_simp;done) | rfl,fun X hX => by go_simp⟩) hHeld ?_
 try simp only [Act.put,zsA,zsB,zsC]
 refine' wpAnyH_take (i := 3) (oi := _) (v := .map (some mp)) rfl (by kernel_rfl) (by kernel_rfl) (by kernel_rfl) (fun _ _ _ h => h) (Or.inl ⟨by first | (go_simp;done) | rfl,fun X hX => by have h0 := hX.1;go_simp⟩) hHeld ?_
 try simp only [Act.put,zsA,zsB,zsC]
 refine' wpAnyH_take (i := 4) (oi := _) (v := .agg #[.int .i64 p.1,.int .i64 p.2.1,.int .i64 p.2.2]) rfl (by kernel_rfl) (by kernel_rfl) (by kernel_rfl) (fun _ _ _ h => h) (by refine (yieldsIf_load_mid ?_ 90 (.tmp 3) rfl w.heap.size 0 ?_ [.int .i64 p.1,.int .i64 p.2.1,.int .i64 p.2.2] _ (fun X h => h.2.1) Tryz.underlying90 rfl (by kernel_rfl)) <;> go_simp) hHeld ?_
 try simp only [Act.put,zsA,zsB,zsC]
 refine' wpAnyH_take (i := 5) (oi := _) (v := (f p).getD (.slice none 0 0)) rfl (by kernel_rfl) (by kernel_rfl) (by kernel_rfl) (fun _ _ _ h => h) (by refine (yieldsIf_look_mapV (P := Tryz.prog) (k := 90) (kV := placeV) (b := mp) (n := n) (f := f) ?_ (.tmp 8) (.tmp 9) 76 rfl 27 place_keyed Tryz.underlying76 (z := .slice none 0 0) zeroIL ?_ (fun X h => h.2.2) p kl ?_ hkey.out) <;> (try unfold placeV) <;> go_simp) hHeld ?_
 try simp only [Act.put,zsA,zsB,zsC]
 rw [← hfv.out]
 refine' wpAnyH_take (i := 6) (oi := _) (v := .slice fa fn fc) rfl (by kernel_rfl) (by kernel_rfl) (by kernel_rfl) (fun _ _ _ h => h) (Or.inl ⟨by first | (go_simp;done) | rfl,fun X hX => by go_simp⟩) hHeld ?_
 try simp only [Act.put,zsA,zsB,zsC]
 refine wpAnyH_done (by kernel_rfl) ?_ _
 go_simp
 go_wp2
 go_ret
 exact ⟨_,rfl,h3p.below (Below.drew bW),h4p.out,Below.drew bW⟩
end Go.Proofs.YtelgllgaofjgjaaGreat
end
section
open Go.RowKit
set_option linter.unusedVariables false
set_option linter.unusedSimpArgs false
namespace Go.Proofs.YtelgllgaofjgjaaGreat
set_option maxHeartbeats 2000000 in
set_option maxRecDepth 100000 in
theorem imain_any (ib : Nat) (g : GameD) (i : Nat) (x : Int) (w : World) (hk : w.cell? ⟨ib,1,none⟩ = some (.int .i64 g.kind)) :
  Calls Tryz.prog 32 #[.pointer (some ⟨ib,0,none⟩),.int .i64 (i : Int),.int .i64 x] w (fun e w' => e = .returned (placeV (mainP g i x)) ∧ Below w.heap.size w w') := by
 have hib : ib < w.heap.size := World.block_lt_of_cell? _ _ hk
 unfold mainP
 by_cases h2 : g.kind = 2
 ·have hb : (g.kind == 2) = true := by simpa using h2
  rw [if_pos h2]
  replace h2 := hide h2
  go_enter Tryz.func32,Tryz.ntmps32
  go_wp2
  exact bodyPost_ret (v := .agg #[.int .i64 1,.int .i64 (i : Int),.int .i64 x]) (by simp [results,Tryz.results32,go_sem]) rfl ⟨rfl,Bel.al (Below.refl _ _) _⟩
 ·have hb : (g.kind == 2) = false := by simpa using h2
  rw [if_neg h2]
  replace h2 := hide h2
  go_enter Tryz.func32,Tryz.ntmps32
  go_wp2
  exact bodyPost_ret (v := .agg #[.int .i64 1,.int .i64 0,.int .i64 x]) (by simp [results,Tryz.results32,go_sem]) rfl ⟨rfl,Bel.al (Below.refl _ _) _⟩
theorem line_small {g : GameD} {a b : List Int} (h : lineE g a b = 0) : a.length ≤ 10 ∧ b.length ≤ 4 ∧ (∀ x ∈ a,0 ≤ x ∧ x ≤ 80) ∧ ∀ x ∈ b,0 ≤ x ∧ x ≤ 80 := by
 obtain ⟨h1,h2,h3,h4,h5,h6,h7⟩ := lineE_ok.1 h
 obtain ⟨f1,f2,f3,f4,f5,f6,f7,f8,f9,f10,f11⟩ := mat_facts (game_mat h1)
 refine ⟨by omega,by omega,fun x hx => ?_,fun x hx => ?_⟩
 ·have := h4 x hx
  unfold lowG highG at this
  split at this <;> omega
 ·have := h5 x hx
  omega
theorem wfI_small {x : Int} (h : 0 ≤ x ∧ x ≤ 80) : wfI x := wfI_of (by omega) (by omega)
theorem wfI_nat {n : Nat} (h : n ≤ 1000000) : wfI (n : Int) := wfI_of (by omega) (by omega)
theorem mainP_wf {g : GameD} {i : Nat} {x : Int} (hi : i ≤ 1000000) (hx : 0 ≤ x ∧ x ≤ 80) : wfI (mainP g i x).1 ∧ wfI (mainP g i x).2.1 ∧ wfI (mainP g i x).2.2 := by
 unfold mainP
 split
 ·exact ⟨wfI_small (by simp),wfI_nat hi,wfI_small hx⟩
 ·exact ⟨wfI_small (by simp),wfI_small (by simp),wfI_small hx⟩
def addF (F : Int × Int × Int → List Nat) (ps : List (Int × Int × Int)) (E : Nat) (p : Int × Int × Int) : List Nat := F p ++ List.replicate (ps.count p) E
theorem addF_nil (F : Int × Int × Int → List Nat) (E : Nat) (p : Int × Int × Int) : addF F [] E p = F p := by simp [addF]
theorem addF_snoc (F : Int × Int × Int → List Nat) (ps : List (Int × Int × Int)) (E : Nat) (q p : Int × Int × Int) : (if p = q then addF F ps E q ++ [E] else addF F ps E p) = addF F (ps ++ [q]) E p := by
 unfold addF
 by_cases h : p = q
 ·subst h
  rw [if_pos rfl,List.count_append,List.append_assoc]
  congr 1
  simp [List.replicate_succ']
 ·rw [if_neg h,List.count_append]
  have : ([q] : List (Int × Int × Int)).count p = 0 := List.count_eq_zero.2 (by simpa using h)
  rw [this,Nat.add_zero]
theorem addF_len (F : Int × Int × Int → List Nat) (ps : List (Int × Int × Int)) (E : Nat) (p : Int × Int × Int) (m : Nat) (h : (F p).length ≤ m) (hl : ps.length ≤ 100) : (addF F ps E p).length ≤ m + 100 := by
 unfold addF
 have := List.count_le_length (a := p) (l := ps)
 simp
 omega
theorem occE_snoc (g : GameD) (es : List EntD) (d : EntD) (p : Int × Int × Int) : addF (occE g es) (placesE g d.l) es.length p = occE g (es ++ [d]) p := by
 unfold addF occE
 rw [List.map_append]
 show _ = occP g p (es.map (·.l) ++ [d.l]) 0
 rw [occP_snoc,List.length_map]
theorem occE_len (g : GameD) (es : List EntD) (p : Int × Int × Int) (h : ∀ x ∈ es,OkD g x) : (occE g es p).length ≤ es.length * 14 := by
 refine snocInd' (P := fun es => (∀ x ∈ es,OkD g x) → (occE g es p).length ≤ es.length * 14) (fun _ => by simp [occE,occP]) (fun es d ih h => ?_) es h
 rw [← occE_snoc]
 have h1 := ih fun x hx => h x (List.mem_append_left _ hx)
 obtain ⟨s1,s2,-,-⟩ := line_small (h d (by simp)).2.2
 have := List.count_le_length (a := p) (l := placesE g d.l)
 rw [places_len] at this
 unfold addF
 simp
 omega
where
 snocInd' {α : Type} {P : List α → Prop} (h0 : P []) (h1 : ∀ l x,P l → P (l ++ [x])) (l : List α) : P l := by
  have h : ∀ r : List α,P r.reverse := by
   intro r
   induction r with
   | nil => exact h0
   | cons x r ih => rw [List.reverse_cons];exact h1 _ _ ih
  rw [← List.reverse_reverse l]
  exact h _
theorem knownF_snoc (K : List (Int × Int)) (k x : Int × Int) : (if x = k then some (.bool true) else knownF K x) = knownF (K ++ [k]) x := by
 unfold knownF
 by_cases h : x = k
 ·subst h
  rw [if_pos rfl,if_pos (by simp)]
 ·rw [if_neg h]
  by_cases h2 : x ∈ K
  ·rw [if_pos h2,if_pos (by simp [h2])]
  ·rw [if_neg h2,if_neg (by simp [h,h2])]
theorem IdxS.congrF {w : World} {col : Nat → Nat} {ib : Nat} {g : GameD} {av tv kv lv : Value} {ms : List AddonM} {mk mp n : Nat} {vs : List (Value × Value)} {K Q : List (Int × Int)} {L : List LineD} {F G : Int × Int × Int → List Nat}
  (h : IdxS w col ib g av tv kv lv ms mk mp n vs K Q L F) (hFG : ∀ p,F p = G p) : IdxS w col ib g av tv kv lv ms mk mp n vs K Q L G := by
 have : F = G := funext hFG
 subst this
 exact h
theorem IdxS.fin {w : World} {col : Nat → Nat} {ib : Nat} {g : GameD} {av tv kv lv : Value} {ms : List AddonM} {mk mp n : Nat} {vs : List (Value × Value)} {es : List EntD} {d : EntD} {F : Int × Int × Int → List Nat}
  (h : IdxS w col ib g av tv kv lv ms mk mp n vs (es.map keyD ++ [keyD d]) (es.map keyD ++ [keyD d]) (es.map (·.l) ++ [d.l]) F) (hF : ∀ p,F p = addF (occE g es) (placesE g d.l) es.length p)
  (hn : n ≤ (es.length + 1) * 400) (hg : gameE g = 0) (ho : ∀ x ∈ es,OkD g x) (hd : DiffK es) (hx : OkD g d) (hk : keyD d ∉ es.map keyD) : IdxR w (extC col w.heap.size 6) ib g (es ++ [d]) := by
 refine ⟨fun k hk => extC_ge hk,hg,fun x hx2 => ?_,diff_snoc hd fun x hx2 he => hk (List.mem_map.2 ⟨x,hx2,he⟩),av,tv,kv,lv,ms,mk,mp,n,vs,by simpa using hn,?_⟩
 ·rcases List.mem_append.1 hx2 with h1 | h1
  ·exact ho x h1
  ·rw [List.mem_singleton.1 h1];exact hx
 ·rw [List.map_append,List.map_append]
  exact ((h.turn (p := fun _ => False) (Chg.refl _ _) (fun _ _ h => h.elim) fun k hk => extC_lt hk).congrF fun p => (hF p).trans (occE_snoc g es d p))
section
variable {w : World} {col : Nat → Nat} {ib : Nat} {g : GameD} {av tv kv lv : Value} {ms : List AddonM} {mk mp n : Nat} {vs : List (Value × Value)} {K Q : List (Int × Int)} {L : List LineD} {F : Int × Int × Int → List Nat}
theorem IdxS.gameAt (h : IdxS w col ib g av tv kv lv ms mk mp n vs K Q L F) : w.rangeAt ib 0 (gameCells g av tv) := fun j u hu => by
 rw [Nat.zero_add,h.row.now.cell? j]
 unfold idxCells
 rw [List.getElem?_append_left (List.getElem?_eq_some_iff.1 hu).1]
 exact hu
theorem IdxS.at22 (h : IdxS w col ib g av tv kv lv ms mk mp n vs K Q L F) : w.cell? ⟨ib,22,none⟩ = some (.map (some mk)) := (h.row.now.cell? 22).trans rfl
theorem IdxS.at23 (h : IdxS w col ib g av tv kv lv ms mk mp n vs K Q L F) : w.cell? ⟨ib,23,none⟩ = some kv := (h.row.now.cell? 23).trans rfl
theorem IdxS.at24 (h : IdxS w col ib g av tv kv lv ms mk mp n vs K Q L F) : w.cell? ⟨ib,24,none⟩ = some lv := (h.row.now.cell? 24).trans rfl
theorem IdxS.at25 (h : IdxS w col ib g av tv kv lv ms mk mp n vs K Q L F) : w.cell? ⟨ib,25,none⟩ = some (.map (some mp)) := (h.row.now.cell? 25).trans rfl
theorem IdxS.at1 (h : IdxS w col ib g av tv kv lv ms mk mp n vs K Q L F) : w.cell? ⟨ib,1,none⟩ = some (.int .i64 g.kind) := (h.row.now.cell? 1).trans rfl
theorem IdxS.at21 (h : IdxS w col ib g av tv kv lv ms mk mp n vs K Q L F) : w.cell? ⟨ib,21,none⟩ = some tv := (h.row.now.cell? 21).trans rfl
end
theorem zeroBL (w : World) : (zeroValue 4).run Tryz.prog w = .ok (.bool false) w := by kernel_rfl
set_option maxHeartbeats 8000000 in
set_option maxRecDepth 100000 in
theorem iadd_range (ib : Nat) (t l : Int) (mv bv : Value) (w : World) (h : t < 0 ∨ l < 0) : Calls Tryz.prog 12 #[.pointer (some ⟨ib,0,none⟩),.int .i64 t,.int .i64 l,lineVal mv bv] w (fun e w' => e = .returned (.int .i64 2) ∧ Below w.heap.size w w') := by
 unfold lineVal
 by_cases ht : t < 0
 ·go_enter Tryz.func12,Tryz.ntmps12
  go_wp2
  go_ret
  exact ⟨rfl,Bel.al (Below.refl _ _) _⟩
 ·have hl : l < 0 := by omega
  go_enter Tryz.func12,Tryz.ntmps12
  go_wp2
  go_ret
  exact ⟨rfl,Bel.al (Below.refl _ _) _⟩
set_option maxHeartbeats 8000000 in
set_option maxRecDepth 100000 in
theorem iadd_line (ib : Nat) (col : Nat → Nat) (g : GameD) (es : List EntD) (d : EntD) (mv bv : Value) (w : World) (hI : IdxR w col ib g es) (hl : LineR w mv bv d.l.1 d.l.2) (t0 : 0 ≤ d.ticket) (l0 : 0 ≤ d.line) (hc : lineE g d.l.1 d.l.2 ≠ 0) :
  Calls Tryz.prog 12 #[.pointer (some ⟨ib,0,none⟩),.int .i64 d.ticket,.int .i64 d.line,lineVal mv bv] w (fun e w' => e = .returned (.int .i64 (lineE g d.l.1 d.l.2)) ∧ Below w.heap.size w w') := by
 obtain ⟨h1,h2,h3,h4,av,tv,kv,lv,ms,mk,mp,n,vs,h5,h6⟩ := hI
 have hS := hide h6
 obtain ⟨c,hcc⟩ : ∃ c,c = lineE g d.l.1 d.l.2 := ⟨_,rfl⟩
 have cC := hide (fun X (hX : Below w.heap.size w X) => mlcheck_any g av tv mv bv ms d.l.1 d.l.2 X (h6.below hX fun _ _ => rfl).game.now (hl.below hX))
 rw [← hcc] at cC
 have hib := h6.ilt
 have hlh := hide hl
 obtain ⟨ma,mn,mc,rfl⟩ := hl.1.shape
 obtain ⟨ba,bn,bc,rfl⟩ := hl.2.shape
 have hls := hide (show mn = d.l.1.length ∧ bn = d.l.2.length from ⟨hl.1.len_eq,hl.2.len_eq⟩)
 unfold lineVal IntB at cC
 unfold lineVal
 unfold gameVal at cC
 rw [← hcc] at hc ⊢
 have hcb : (c != 0) = true := by simpa using hc
 have n1 : ¬ d.ticket < 0 := by omega
 have n2 : ¬ d.line < 0 := by omega
 clear hcc hl h6 hc h1 h2 h3 h4 h5 hlh hls t0 l0
 go_enter Tryz.func12,Tryz.ntmps12
 go_upto_region 5 with (fail)
 obtain ⟨W,hW⟩ : ∃ W,W = w.alloc (Obj.cells #[.slice ma mn mc,.slice ba bn bc] 53) := ⟨_,rfl⟩
 have bW : Below w.heap.size w W := by rw [hW];exact Bel.al (Below.refl _ _) _
 have rl : Row W w.heap.size 53 [.slice ma mn mc,.slice ba bn bc] := by rw [hW];exact Row.new _ _ _
 have sW : W.heap.size = w.heap.size + 1 := by rw [hW];simp
 rw [← hW]
 clear hW
 have bD : Below w.heap.size w W.drew := Below.drew bW
 replace sW := hide sW
 refine wp_region_held_drew (S := fun X => X.rangeAt ib 0 (gameCells g av tv) ∧ X.rangeAt w.heap.size 0 [.slice ma mn mc,.slice ba bn bc]) (by kernel_rfl) ⟨(hS.out.below bD fun _ _ => rfl).gameAt,fun j u hu => by rw [Nat.zero_add];exact ((rl.drew).cell? j).trans hu⟩ (fun hHeld => ?_)
 refine' wpAnyH_take (i := 0) (oi := _) (v := .pointer (some ⟨ib,0,none⟩)) rfl (by kernel_rfl) (by kernel_rfl) (by kernel_rfl) (fun _ _ _ h => h) (Or.inl ⟨by first | (go_simp;done) | rfl,fun X hX => by go_simp⟩) hHeld ?_
 try simp only [Act.put,zsA,zsB,zsC]
 refine' wpAnyH_take (i := 1) (oi := _) (v := .pointer (some ⟨ib,0,none⟩)) rfl (by kernel_rfl) (by kernel_rfl) (by kernel_rfl) (fun _ _ _ h => h) (Or.inl ⟨by first | (go_simp;done) | rfl,fun X hX => by go_simp⟩) hHeld ?_
 try simp only [Act.put,zsA,zsB,zsC]
 refine' wpAnyH_take (i := 2) (oi := _) (v := .pointer (some ⟨ib,0,none⟩)) rfl (by kernel_rfl) (by kernel_rfl) (by kernel_rfl) (fun _ _ _ h => h) (Or.inl ⟨by first | (go_simp;done) | rfl,fun X hX => by go_simp⟩) hHeld ?_
 try simp only [Act.put,zsA,zsB,zsC]
 refine' wpAnyH_take (i := 3) (oi := _) (v := .agg (gameCells g av tv).toArray) rfl (by kernel_rfl) (by kernel_rfl) (by kernel_rfl) (fun _ _ _ h => h) (by refine (yieldsIf_load_mid ?_ 25 (.tmp 26) rfl ib 0 ?_ (gameCells g av tv) _ (fun X h => h.1) Tryz.underlying25 rfl (by kernel_rfl)) <;> go_simp) hHeld ?_
 try simp only [Act.put,zsA,zsB,zsC]
 refine' wpAnyH_take (i := 4) (oi := _) (v := .agg #[.slice ma mn mc,.slice ba bn bc]) rfl (by kernel_rfl) (by kernel_rfl) (by kernel_rfl) (fun _ _ _ h => h) (by refine (yieldsIf_load_mid ?_ 53 (.tmp 7) rfl w.heap.size 0 ?_ [.slice ma mn mc,.slice ba bn bc] _ (fun X h => h.2) Tryz.underlying53 rfl (by kernel_rfl)) <;> go_simp) hHeld ?_
 try simp only [Act.put,zsA,zsB,zsC]
 refine wpAnyH_ready (rs := [5]) (by kernel_rfl) (by simp) ?_
 refine AllReadyH.cons (o := _) rfl (fun K hK => ?_) AllReadyH.nil
 go_simp
 refine (cC.out W.drew bD).mono ?_
 rintro e w1 ⟨rfl,hb1⟩
 go_wp2_with fail
 refine hK.out _ _ ⟨fun j u hu => Bel.cellOf hb1 (hHeld.1 j u hu),fun j u hu => Bel.cellOf hb1 (hHeld.2 j u hu)⟩ (fun hHeld => ?_)
 clear hK K
 try simp only [Act.put,zsA,zsB,zsC]
 have b1 : Below w.heap.size w w1 := Bel.to bD hb1
 have rl1 := Row.keep rl.drew hb1
 clear hb1 bW bD
 refine' wpAnyH_take (i := 6) (oi := _) (v := .int .i64 c) rfl (by kernel_rfl) (by kernel_rfl) (by kernel_rfl) (fun _ _ _ h => h) (Or.inl ⟨by first | (go_simp;done) | rfl,fun X hX => by go_simp⟩) hHeld ?_
 try simp only [Act.put,zsA,zsB,zsC]
 refine wpAnyH_done (by kernel_rfl) ?_ _
 go_simp
 go_wp2
 go_ret
 exact ⟨rfl,b1⟩
set_option maxHeartbeats 8000000 in
set_option maxRecDepth 100000 in
theorem iadd_there (ib : Nat) (col : Nat → Nat) (g : GameD) (es : List EntD) (d : EntD) (mv bv : Value) (w : World) (hI : IdxR w col ib g es) (hl : LineR w mv bv d.l.1 d.l.2) (t0 : 0 ≤ d.ticket) (l0 : 0 ≤ d.line) (it : d.ticket ≤ 9223372036854775807) (il : d.line ≤ 9223372036854775807) (hc : lineE g d.l.1 d.l.2 = 0) (hk : keyD d ∈ es.map keyD) :
  Calls Tryz.prog 12 #[.pointer (some ⟨ib,0,none⟩),.int .i64 d.ticket,.int .i64 d.line,lineVal mv bv] w (fun e w' => e = .returned (.int .i64 6) ∧ Below w.heap.size w w') := by
 obtain ⟨h1,h2,h3,h4,av,tv,kv,lv,ms,mk,mp,n,vs,h5,h6⟩ := hI
 have hS := hide h6
 obtain ⟨c,hcc⟩ : ∃ c,c = lineE g d.l.1 d.l.2 := ⟨_,rfl⟩
 have cC := hide (fun X (hX : Below w.heap.size w X) => mlcheck_any g av tv mv bv ms d.l.1 d.l.2 X (h6.below hX fun _ _ => rfl).game.now (hl.below hX))
 rw [← hcc] at cC
 have hib := h6.ilt
 have hlh := hide hl
 obtain ⟨ma,mn,mc,rfl⟩ := hl.1.shape
 obtain ⟨ba,bn,bc,rfl⟩ := hl.2.shape
 have hls := hide (show mn = d.l.1.length ∧ bn = d.l.2.length from ⟨hl.1.len_eq,hl.2.len_eq⟩)
 unfold lineVal IntB at cC
 unfold lineVal
 unfold gameVal at cC
 rw [← hcc] at hc
 have n1 : ¬ d.ticket < 0 := by omega
 have n2 : ¬ d.line < 0 := by omega
 obtain ⟨kl,hkey⟩ := keyV_key (a := keyD d) (wfI_of (by simp only [keyD];omega) it) (wfI_of (by simp only [keyD];omega) il)
 replace hkey := hide hkey
 obtain ⟨kn,hkn,hM⟩ := h6.known.now
 have hM := hide hM
 have hq : Hid (((knownF (es.map keyD)) (keyD d)).getD (.bool false) = .bool true) := by show _ = _;unfold knownF;rw [if_pos hk];rfl
 subst hc
 clear hcc hl h6 h1 h2 h3 h4 h5 hlh hls t0 l0 hk hkn it il
 go_enter Tryz.func12,Tryz.ntmps12
 go_upto_region 5 with (fail)
 obtain ⟨W,hW⟩ : ∃ W,W = w.alloc (Obj.cells #[.slice ma mn mc,.slice ba bn bc] 53) := ⟨_,rfl⟩
 have bW : Below w.heap.size w W := by rw [hW];exact Bel.al (Below.refl _ _) _
 have rl : Row W w.heap.size 53 [.slice ma mn mc,.slice ba bn bc] := by rw [hW];exact Row.new _ _ _
 have sW : W.heap.size = w.heap.size + 1 := by rw [hW];simp
 rw [← hW]
 clear hW
 have bD : Below w.heap.size w W.drew := Below.drew bW
 replace sW := hide sW
 refine wp_region_held_drew (S := fun X => X.rangeAt ib 0 (gameCells g av tv) ∧ X.rangeAt w.heap.size 0 [.slice ma mn mc,.slice ba bn bc]) (by kernel_rfl) ⟨(hS.out.below bD fun _ _ => rfl).gameAt,fun j u hu => by rw [Nat.zero_add];exact ((rl.drew).cell? j).trans hu⟩ (fun hHeld => ?_)
 refine' wpAnyH_take (i := 0) (oi := _) (v := .pointer (some ⟨ib,0,none⟩)) rfl (by kernel_rfl) (by kernel_rfl) (by kernel_rfl) (fun _ _ _ h => h) (Or.inl ⟨by first | (go_simp;done) | rfl,fun X hX => by go_simp⟩) hHeld ?_
 try simp only [Act.put,zsA,zsB,zsC]
 refine' wpAnyH_take (i := 1) (oi := _) (v := .pointer (some ⟨ib,0,none⟩)) rfl (by kernel_rfl) (by kernel_rfl) (by kernel_rfl) (fun _ _ _ h => h) (Or.inl ⟨by first | (go_simp;done) | rfl,fun X hX => by go_simp⟩) hHeld ?_
 try simp only [Act.put,zsA,zsB,zsC]
 refine' wpAnyH_take (i := 2) (oi := _) (v := .pointer (some ⟨ib,0,none⟩)) rfl (by kernel_rfl) (by kernel_rfl) (by kernel_rfl) (fun _ _ _ h => h) (Or.inl ⟨by first | (go_simp;done) | rfl,fun X hX => by go_simp⟩) hHeld ?_
 try simp only [Act.put,zsA,zsB,zsC]
 refine' wpAnyH_take (i := 3) (oi := _) (v := .agg (gameCells g av tv).toArray) rfl (by kernel_rfl) (by kernel_rfl) (by kernel_rfl) (fun _ _ _ h => h) (by refine (yieldsIf_load_mid ?_ 25 (.tmp 26) rfl ib 0 ?_ (gameCells g av tv) _ (fun X h => h.1) Tryz.underlying25 rfl (by kernel_rfl)) <;> go_simp) hHeld ?_
 try simp only [Act.put,zsA,zsB,zsC]
 refine' wpAnyH_take (i := 4) (oi := _) (v := .agg #[.slice ma mn mc,.slice ba bn bc]) rfl (by kernel_rfl) (by kernel_rfl) (by kernel_rfl) (fun _ _ _ h => h) (by refine (yieldsIf_load_mid ?_ 53 (.tmp 7) rfl w.heap.size 0 ?_ [.slice ma mn mc,.slice ba bn bc] _ (fun X h => h.2) Tryz.underlying53 rfl (by kernel_rfl)) <;> go_simp) hHeld ?_
 try simp only [Act.put,zsA,zsB,zsC]
 refine wpAnyH_ready (rs := [5]) (by kernel_rfl) (by simp) ?_
 refine AllReadyH.cons (o := _) rfl (fun K hK => ?_) AllReadyH.nil
 go_simp
 refine (cC.out W.drew bD).mono ?_
 rintro e w1 ⟨rfl,hb1⟩
 go_wp2_with fail
 refine hK.out _ _ ⟨fun j u hu => Bel.cellOf hb1 (hHeld.1 j u hu),fun j u hu => Bel.cellOf hb1 (hHeld.2 j u hu)⟩ (fun hHeld => ?_)
 clear hK K
 try simp only [Act.put,zsA,zsB,zsC]
 have b1 : Below w.heap.size w w1 := Bel.to bD hb1
 have rl1 := Row.keep rl.drew hb1
 clear hb1 bW bD
 refine' wpAnyH_take (i := 6) (oi := _) (v := .int .i64 0) rfl (by kernel_rfl) (by kernel_rfl) (by kernel_rfl) (fun _ _ _ h => h) (Or.inl ⟨by first | (go_simp;done) | rfl,fun X hX => by go_simp⟩) hHeld ?_
 try simp only [Act.put,zsA,zsB,zsC]
 refine wpAnyH_done (by kernel_rfl) ?_ _
 go_simp
 go_upto_region 9 with (fail)
 obtain ⟨W2,hW2⟩ : ∃ W2,W2 = w1.alloc (Obj.cells #[.int .i64 d.ticket,.int .i64 d.line] 87) := ⟨_,rfl⟩
 have b2 : Below w.heap.size w W2 := by rw [hW2];exact Bel.al b1 _
 have rk : Row W2 w1.heap.size 87 [.int .i64 d.ticket,.int .i64 d.line] := by rw [hW2];exact Row.new _ _ _
 have rl2 : Row W2 w.heap.size 53 [.slice ma mn mc,.slice ba bn bc] := by rw [hW2];exact rl1.alloc _
 have s1 := b1.size
 have sW2 : W2.heap.size = w1.heap.size + 1 := by rw [hW2];simp
 rw [← hW2]
 clear hW2 rl1
 have bD2 : Below w.heap.size w W2.drew := Below.drew b2
 refine wp_region_held_drew (S := fun X => X.cell? ⟨ib,22,none⟩ = some (.map (some mk)) ∧ X.rangeAt w1.heap.size 0 [.int .i64 d.ticket,.int .i64 d.line] ∧ MapV Tryz.prog 87 keyV X mk kn (knownF (es.map keyD))) (by kernel_rfl) ⟨(hS.out.below bD2 fun _ _ => rfl).at22,fun j u hu => by rw [Nat.zero_add];exact ((rk.drew).cell? j).trans hu,hM.out.kept (Below.gb' bD2) (by simp)⟩ (fun hHeld => ?_)
 refine' wpAnyH_take (i := 0) (oi := _) (v := .pointer (some ⟨ib,0,none⟩)) rfl (by kernel_rfl) (by kernel_rfl) (by kernel_rfl) (fun _ _ _ h => h) (Or.inl ⟨by first | (go_simp;done) | rfl,fun X hX => by go_simp⟩) hHeld ?_
 try simp only [Act.put,zsA,zsB,zsC]
 refine' wpAnyH_take (i := 1) (oi := _) (v := .pointer (some ⟨ib,0,none⟩)) rfl (by kernel_rfl) (by kernel_rfl) (by kernel_rfl) (fun _ _ _ h => h) (Or.inl ⟨by first | (go_simp;done) | rfl,fun X hX => by go_simp⟩) hHeld ?_
 try simp only [Act.put,zsA,zsB,zsC]
 refine' wpAnyH_take (i := 2) (oi := _) (v := .pointer (some ⟨ib,22,none⟩)) rfl (by kernel_rfl) (by kernel_rfl) (by kernel_rfl) (fun _ _ _ h => h) (Or.inl ⟨by first | (go_simp;done) | rfl,fun X hX => by go_simp⟩) hHeld ?_
 try simp only [Act.put,zsA,zsB,zsC]
 refine' wpAnyH_take (i := 3) (oi := _) (v := .map (some mk)) rfl (by kernel_rfl) (by kernel_rfl) (by kernel_rfl) (fun _ _ _ h => h) (Or.inl ⟨by first | (go_simp;done) | rfl,fun X hX => by have h0 := hX.1;go_simp⟩) hHeld ?_
 try simp only [Act.put,zsA,zsB,zsC]
 refine' wpAnyH_take (i := 4) (oi := _) (v := .agg #[.int .i64 d.ticket,.int .i64 d.line]) rfl (by kernel_rfl) (by kernel_rfl) (by kernel_rfl) (fun _ _ _ h => h) (by refine (yieldsIf_load_mid ?_ 87 (.tmp 10) rfl w1.heap.size 0 ?_ [.int .i64 d.ticket,.int .i64 d.line] _ (fun X h => h.2.1) Tryz.underlying87 rfl (by kernel_rfl)) <;> go_simp) hHeld ?_
 try simp only [Act.put,zsA,zsB,zsC]
 refine' wpAnyH_take (i := 5) (oi := _) (v := ((knownF (es.map keyD)) (keyD d)).getD (.bool false)) rfl (by kernel_rfl) (by kernel_rfl) (by kernel_rfl) (fun _ _ _ h => h) (by refine (yieldsIf_look_mapV (P := Tryz.prog) (k := 87) (kV := keyV) (b := mk) (n := kn) (f := knownF (es.map keyD)) ?_ (.tmp 39) (.tmp 40) 74 rfl 4 key_keyed Tryz.underlying74 (z := .bool false) zeroBL ?_ (fun X h => h.2.2) (keyD d) kl ?_ hkey.out) <;> (try unfold keyV keyD) <;> go_simp) hHeld ?_
 try simp only [Act.put,zsA,zsB,zsC]
 rw [hq.out]
 refine wpAnyH_done (by kernel_rfl) ?_ _
 go_simp
 go_wp2
 go_ret
 exact ⟨rfl,bD2⟩
set_option maxHeartbeats 8000000 in
set_option maxRecDepth 100000 in
theorem iadd_ok (ib : Nat) (col : Nat → Nat) (g : GameD) (es : List EntD) (d : EntD) (mv bv : Value) (w : World) (hI : IdxR w col ib g es) (hlk : ∀ X,Chg (Mine col) w X → LineR X mv bv d.l.1 d.l.2) (hsize : es.length ≤ 100000) (t0 : 0 ≤ d.ticket) (l0 : 0 ≤ d.line) (it : d.ticket ≤ 9223372036854775807) (il : d.line ≤ 9223372036854775807) (hc : lineE g d.l.1 d.l.2 = 0) (hk : keyD d ∉ es.map keyD) :
  Calls Tryz.prog 12 #[.pointer (some ⟨ib,0,none⟩),.int .i64 d.ticket,.int .i64 d.line,lineVal mv bv] w (fun e w' => e = .returned (.int .i64 0) ∧ ∃ col',Later w col col' ∧ IdxR w' col' ib g (es ++ [d]) ∧ Chg (Mine col) w w') := by
 have hl := hlk w (Chg.refl _ _)
 obtain ⟨h1,h2,h3,h4,av,tv,kv,lv,ms,mk,mp,n,vs,h5,h6⟩ := hI
 have hS := hide h6
 obtain ⟨c,hcc⟩ : ∃ c,c = lineE g d.l.1 d.l.2 := ⟨_,rfl⟩
 have cC := hide (fun X (hX : Below w.heap.size w X) => mlcheck_any g av tv mv bv ms d.l.1 d.l.2 X (h6.below hX fun _ _ => rfl).game.now (hl.below hX))
 rw [← hcc] at cC
 have hib := h6.ilt
 have hlh := hide hl
 obtain ⟨ma,mn,mc,rfl⟩ := hl.1.shape
 obtain ⟨ba,bn,bc,rfl⟩ := hl.2.shape
 have hls := hide (show mn = d.l.1.length ∧ bn = d.l.2.length from ⟨hl.1.len_eq,hl.2.len_eq⟩)
 unfold lineVal IntB at cC
 unfold lineVal
 unfold gameVal at cC
 have hx : Hid (OkD g d) := ⟨t0,l0,hc⟩
 have hsm := hide (line_small hc)
 rw [← hcc] at hc
 have n1 : ¬ d.ticket < 0 := by omega
 have n2 : ¬ d.line < 0 := by omega
 obtain ⟨kl,hkey⟩ := keyV_key (a := keyD d) (wfI_of (by simp only [keyD];omega) it) (wfI_of (by simp only [keyD];omega) il)
 replace hkey := hide hkey
 obtain ⟨kn,hkn,hM⟩ := h6.known.now
 have hM := hide hM
 have hq : Hid (((knownF (es.map keyD)) (keyD d)).getD (.bool false) = .bool false) := by show _ = _;unfold knownF;rw [if_neg hk];rfl
 obtain ⟨E,hE0⟩ : ∃ E,E = es.length := ⟨_,rfl⟩
 have hE : Hid (es.length ≤ 100000) := hsize
 have hEe := hide hE0
 have hvl : Hid (vs.length = es.length) := by show _ = _;rw [h6.vlen,List.length_map]
 obtain ⟨ka,kc,hkv⟩ := h6.keys.now.shape
 obtain ⟨la,lc,hlv⟩ := h6.lines.now.shape
 rw [List.length_map,← hE0] at hkv
 rw [h6.vlen,List.length_map,← hE0] at hlv
 subst hkv hlv
 have hkvl := hide h6.kvlt
 have hlvl := hide h6.lvlt
 have hmk := hide h6.klt
 have hckk := hide h6.ck
 have hbound := hide h1
 have hol := hide (fun p => occE_len g es p h3)
 have cA1 := hide (fun X (hX : Chg (Mine col) w X) => sclone15_any _ d.l.1 X (hlk X hX).1 (by have := hsm.out.1;omega))
 have cA2 := hide (fun X (hX : Chg (Mine col) w X) => sclone15_any _ d.l.2 X (hlk X hX).2 (by have := hsm.out.2.1;omega))
 have hnle := hide h5
 replace h2 := hide h2
 replace h3 := hide h3
 replace h4 := hide h4
 replace hk := hide hk
 have hknl := hide hkn
 replace hkn := hide (show kn ≤ 100000 by rw [List.length_map] at hkn;omega)
 replace hlk := hide hlk
 replace hib := hide hib
 subst hc
 clear hcc hl h6 h1 h5 hlh t0 l0 it il hsize hE0
 go_enter Tryz.func12,Tryz.ntmps12
 go_upto_region 5 with (fail)
 obtain ⟨W,hW⟩ : ∃ W,W = w.alloc (Obj.cells #[.slice ma mn mc,.slice ba bn bc] 53) := ⟨_,rfl⟩
 have bW : Below w.heap.size w W := by rw [hW];exact Bel.al (Below.refl _ _) _
 have rl : Row W w.heap.size 53 [.slice ma mn mc,.slice ba bn bc] := by rw [hW];exact Row.new _ _ _
 have sW : W.heap.size = w.heap.size + 1 := by rw [hW];simp
 rw [← hW]
 clear hW
 have bD : Below w.heap.size w W.drew := Below.drew bW
 replace sW := hide sW
 refine wp_region_held_drew (S := fun X => X.rangeAt ib 0 (gameCells g av tv) ∧ X.rangeAt w.heap.size 0 [.slice ma mn mc,.slice ba bn bc]) (by kernel_rfl) ⟨(hS.out.below bD fun _ _ => rfl).gameAt,fun j u hu => by rw [Nat.zero_add];exact ((rl.drew).cell? j).trans hu⟩ (fun hHeld => ?_)
 refine' wpAnyH_take (i := 0) (oi := _) (v := .pointer (some ⟨ib,0,none⟩)) rfl (by kernel_rfl) (by kernel_rfl) (by kernel_rfl) (fun _ _ _ h => h) (Or.inl ⟨by first | (go_simp;done) | rfl,fun X hX => by go_simp⟩) hHeld ?_
 try simp only [Act.put,zsA,zsB,zsC]
 refine' wpAnyH_take (i := 1) (oi := _) (v := .pointer (some ⟨ib,0,none⟩)) rfl (by kernel_rfl) (by kernel_rfl) (by kernel_rfl) (fun _ _ _ h => h) (Or.inl ⟨by first | (go_simp;done) | rfl,fun X hX => by go_simp⟩) hHeld ?_
 try simp only [Act.put,zsA,zsB,zsC]
 refine' wpAnyH_take (i := 2) (oi := _) (v := .pointer (some ⟨ib,0,none⟩)) rfl (by kernel_rfl) (by kernel_rfl) (by kernel_rfl) (fun _ _ _ h => h) (Or.inl ⟨by first | (go_simp;done) | rfl,fun X hX => by go_simp⟩) hHeld ?_
 try simp only [Act.put,zsA,zsB,zsC]
 refine' wpAnyH_take (i := 3) (oi := _) (v := .agg (gameCells g av tv).toArray) rfl (by kernel_rfl) (by kernel_rfl) (by kernel_rfl) (fun _ _ _ h => h) (by refine (yieldsIf_load_mid ?_ 25 (.tmp 26) rfl ib 0 ?_ (gameCells g av tv) _ (fun X h => h.1) Tryz.underlying25 rfl (by kernel_rfl)) <;> go_simp) hHeld ?_
 try simp only [Act.put,zsA,zsB,zsC]
 refine' wpAnyH_take (i := 4) (oi := _) (v := .agg #[.slice ma mn mc,.slice ba bn bc]) rfl (by kernel_rfl) (by kernel_rfl) (by kernel_rfl) (fun _ _ _ h => h) (by refine (yieldsIf_load_mid ?_ 53 (.tmp 7) rfl w.heap.size 0 ?_ [.slice ma mn mc,.slice ba bn bc] _ (fun X h => h.2) Tryz.underlying53 rfl (by kernel_rfl)) <;> go_simp) hHeld ?_
 try simp only [Act.put,zsA,zsB,zsC]
 refine wpAnyH_ready (rs := [5]) (by kernel_rfl) (by simp) ?_
 refine AllReadyH.cons (o := _) rfl (fun K hK => ?_) AllReadyH.nil
 go_simp
 refine (cC.out W.drew bD).mono ?_
 rintro e w1 ⟨rfl,hb1⟩
 go_wp2_with fail
 refine hK.out _ _ ⟨fun j u hu => Bel.cellOf hb1 (hHeld.1 j u hu),fun j u hu => Bel.cellOf hb1 (hHeld.2 j u hu)⟩ (fun hHeld => ?_)
 clear hK K
 try simp only [Act.put,zsA,zsB,zsC]
 have b1 : Below w.heap.size w w1 := Bel.to bD hb1
 have rl1 := Row.keep rl.drew hb1
 clear hb1 bW bD
 refine' wpAnyH_take (i := 6) (oi := _) (v := .int .i64 0) rfl (by kernel_rfl) (by kernel_rfl) (by kernel_rfl) (fun _ _ _ h => h) (Or.inl ⟨by first | (go_simp;done) | rfl,fun X hX => by go_simp⟩) hHeld ?_
 try simp only [Act.put,zsA,zsB,zsC]
 refine wpAnyH_done (by kernel_rfl) ?_ _
 go_simp
 go_upto_region 9 with (fail)
 obtain ⟨W2,hW2⟩ : ∃ W2,W2 = w1.alloc (Obj.cells #[.int .i64 d.ticket,.int .i64 d.line] 87) := ⟨_,rfl⟩
 have b2 : Below w.heap.size w W2 := by rw [hW2];exact Bel.al b1 _
 have rk : Row W2 w1.heap.size 87 [.int .i64 d.ticket,.int .i64 d.line] := by rw [hW2];exact Row.new _ _ _
 have rl2 : Row W2 w.heap.size 53 [.slice ma mn mc,.slice ba bn bc] := by rw [hW2];exact rl1.alloc _
 have s1 := b1.size
 have sW2 : W2.heap.size = w1.heap.size + 1 := by rw [hW2];simp
 rw [← hW2]
 clear hW2 rl1
 have bD2 : Below w.heap.size w W2.drew := Below.drew b2
 refine wp_region_held_drew (S := fun X => X.cell? ⟨ib,22,none⟩ = some (.map (some mk)) ∧ X.rangeAt w1.heap.size 0 [.int .i64 d.ticket,.int .i64 d.line] ∧ MapV Tryz.prog 87 keyV X mk kn (knownF (es.map keyD))) (by kernel_rfl) ⟨(hS.out.below bD2 fun _ _ => rfl).at22,fun j u hu => by rw [Nat.zero_add];exact ((rk.drew).cell? j).trans hu,hM.out.kept (Below.gb' bD2) (by simp)⟩ (fun hHeld => ?_)
 refine' wpAnyH_take (i := 0) (oi := _) (v := .pointer (some ⟨ib,0,none⟩)) rfl (by kernel_rfl) (by kernel_rfl) (by kernel_rfl) (fun _ _ _ h => h) (Or.inl ⟨by first | (go_simp;done) | rfl,fun X hX => by go_simp⟩) hHeld ?_
 try simp only [Act.put,zsA,zsB,zsC]
 refine' wpAnyH_take (i := 1) (oi := _) (v := .pointer (some ⟨ib,0,none⟩)) rfl (by kernel_rfl) (by kernel_rfl) (by kernel_rfl) (fun _ _ _ h => h) (Or.inl ⟨by first | (go_simp;done) | rfl,fun X hX => by go_simp⟩) hHeld ?_
 try simp only [Act.put,zsA,zsB,zsC]
 refine' wpAnyH_take (i := 2) (oi := _) (v := .pointer (some ⟨ib,22,none⟩)) rfl (by kernel_rfl) (by kernel_rfl) (by kernel_rfl) (fun _ _ _ h => h) (Or.inl ⟨by first | (go_simp;done) | rfl,fun X hX => by go_simp⟩) hHeld ?_
 try simp only [Act.put,zsA,zsB,zsC]
 refine' wpAnyH_take (i := 3) (oi := _) (v := .map (some mk)) rfl (by kernel_rfl) (by kernel_rfl) (by kernel_rfl) (fun _ _ _ h => h) (Or.inl ⟨by first | (go_simp;done) | rfl,fun X hX => by have h0 := hX.1;go_simp⟩) hHeld ?_
 try simp only [Act.put,zsA,zsB,zsC]
 refine' wpAnyH_take (i := 4) (oi := _) (v := .agg #[.int .i64 d.ticket,.int .i64 d.line]) rfl (by kernel_rfl) (by kernel_rfl) (by kernel_rfl) (fun _ _ _ h => h) (by refine (yieldsIf_load_mid ?_ 87 (.tmp 10) rfl w1.heap.size 0 ?_ [.int .i64 d.ticket,.int .i64 d.line] _ (fun X h => h.2.1) Tryz.underlying87 rfl (by kernel_rfl)) <;> go_simp) hHeld ?_
 try simp only [Act.put,zsA,zsB,zsC]
 refine' wpAnyH_take (i := 5) (oi := _) (v := ((knownF (es.map keyD)) (keyD d)).getD (.bool false)) rfl (by kernel_rfl) (by kernel_rfl) (by kernel_rfl) (fun _ _ _ h => h) (by refine (yieldsIf_look_mapV (P := Tryz.prog) (k := 87) (kV := keyV) (b := mk) (n := kn) (f := knownF (es.map keyD)) ?_ (.tmp 39) (.tmp 40) 74 rfl 4 key_keyed Tryz.underlying74 (z := .bool false) zeroBL ?_ (fun X h => h.2.2) (keyD d) kl ?_ hkey.out) <;> (try unfold keyV keyD) <;> go_simp) hHeld ?_
 try simp only [Act.put,zsA,zsB,zsC]
 rw [hq.out]
 refine wpAnyH_done (by kernel_rfl) ?_ _
 go_simp
 have k23 : W2.drew.cell? ⟨ib,23,none⟩ = some (.slice ka E kc) := (hS.out.below bD2 fun _ _ => rfl).at23
 go_upto_region 12 with (fail)
 have bD3 : Below w.heap.size w W2.drew.drew := Below.drew bD2
 replace s1 := hide s1
 have rk2 := Row.drew rk
 have rl2d := Row.drew (Row.drew rl2)
 clear k23 rk rl2 bD2 b2 hHeld
 refine till_begin 5 (fun X => X.cell? ⟨ib,22,none⟩ = some (.map (some mk)) ∧ X.rangeAt w1.heap.size 0 [.int .i64 d.ticket,.int .i64 d.line]) (by kernel_rfl) ⟨(hS.out.below bD3 fun _ _ => rfl).at22,fun j u hu => by rw [Nat.zero_add];exact ((rk2.drew).cell? j).trans hu⟩ (fun hHeld => ?_)
 refine' till_pure (i := 0) (oi := _) (v := .pointer (some ⟨ib,0,none⟩)) rfl (by kernel_rfl) (by kernel_rfl) (by kernel_rfl) (by kernel_rfl) (fun _ _ _ h => h) (Or.inl ⟨by first | (go_simp;done) | rfl,fun X _ => by go_simp⟩) hHeld ?_
 try simp only [Act.put,zsA,zsB,zsC]
 refine' till_pure (i := 1) (oi := _) (v := .pointer (some ⟨ib,0,none⟩)) rfl (by kernel_rfl) (by kernel_rfl) (by kernel_rfl) (by kernel_rfl) (fun _ _ _ h => h) (Or.inl ⟨by first | (go_simp;done) | rfl,fun X _ => by go_simp⟩) hHeld ?_
 try simp only [Act.put,zsA,zsB,zsC]
 refine' till_pure (i := 2) (oi := _) (v := .pointer (some ⟨ib,22,none⟩)) rfl (by kernel_rfl) (by kernel_rfl) (by kernel_rfl) (by kernel_rfl) (fun _ _ _ h => h) (Or.inl ⟨by first | (go_simp;done) | rfl,fun X _ => by go_simp⟩) hHeld ?_
 try simp only [Act.put,zsA,zsB,zsC]
 refine' till_take (i := 3) (oi := _) (v := .map (some mk)) rfl (by kernel_rfl) (by kernel_rfl) (by kernel_rfl) (by kernel_rfl) (fun _ _ _ h => h) (Or.inl ⟨by first | (go_simp;done) | rfl,fun X hX => by have h0 := hX.1;go_simp⟩) hHeld ?_
 try simp only [Act.put,zsA,zsB,zsC]
 refine' till_take (i := 4) (oi := _) (v := .agg #[.int .i64 d.ticket,.int .i64 d.line]) rfl (by kernel_rfl) (by kernel_rfl) (by kernel_rfl) (by kernel_rfl) (fun _ _ _ h => h) (by refine (yieldsIf_load_mid ?_ 87 (.tmp 10) rfl w1.heap.size 0 ?_ [.int .i64 d.ticket,.int .i64 d.line] _ (fun X h => h.2) Tryz.underlying87 rfl (by kernel_rfl)) <;> go_simp) hHeld ?_
 try simp only [Act.put,zsA,zsB,zsC]
 refine till_ready (rs := [5]) (by kernel_rfl) (by simp) ?_
 refine TillReady.last (o := _) rfl (by kernel_rfl) (fun K hK => ?_) TillReady.nil
 rw [if_pos (by first | rfl | (go_simp;done))]
 refine wp_put_mapV keyV_inj _ _ _ 74 rfl 4 key_keyed Tryz.underlying74 (b := mk) rfl (hM.out.kept (Below.gb' bD3) (by simp)) (by have := hkn.out;unfold maxLen;omega) (keyD d) (.bool true) kl rfl rfl hkey.out ?_
 intro X3 hX3 hg3
 refine hK.out _ _ ?_
 clear hK K
 try simp only [Act.put,zsA,zsB,zsC]
 refine till_done (by kernel_rfl) ?_ _
 go_simp
 have hS3 : Hid (IdxS X3 col ib g av tv (.slice ka E kc) (.slice la E lc) ms mk mp n vs (es.map keyD ++ [keyD d]) (es.map keyD) (es.map (·.l)) (occE g es)) := (hS.out.below bD3 fun _ _ => rfl).putK hg3 (m := kn + 1) (by have := hknl.out;simp at this ⊢;omega) (hX3.congr fun x => knownF_snoc _ _ x)
 have rk3 : Row X3 w1.heap.size 87 [.int .i64 d.ticket,.int .i64 d.line] := Row.grown rk2.drew hg3 (by have := hmk.out;have := s1.out;intro e;injection e with e;omega)
 have rl3 : Row X3 w.heap.size 53 [.slice ma mn mc,.slice ba bn bc] := Row.grown rl2d hg3 (by have := hmk.out;intro e;injection e with e;omega)
 have z3 : Chg (Mine col) w X3 := (Chg.ofBelow bD3).then (q := fun k => k = mk) (Chg.ofGb hg3 fun k hk => by injection hk with hk;exact hk.symm) (fun k _ hk => by have := hckk.out;show col k < 5;rw [hk,this];decide)
 have s3 : Hid (w1.heap.size < X3.heap.size) := rk3.lt
 clear hX3 hg3 rk2 rl2d bD3 hHeld
 go_upto_region 13 with (fail)
 have dS3 := hS3.out.below (col' := col) (Below.drew (Below.refl X3.heap.size X3)) fun _ _ => rfl
 refine till_begin 10 (fun X => Row X ib 80 (idxCells g av tv (.slice ka E kc) (.slice la E lc) mk mp) ∧ X.rangeAt w1.heap.size 0 [.int .i64 d.ticket,.int .i64 d.line]) (by kernel_rfl) ⟨dS3.row.now,fun j u hu => by rw [Nat.zero_add];exact ((rk3.drew).cell? j).trans hu⟩ (fun hHeld => ?_)
 refine' till_pure (i := 0) (oi := _) (v := .pointer (some ⟨ib,0,none⟩)) rfl (by kernel_rfl) (by kernel_rfl) (by kernel_rfl) (by kernel_rfl) (fun _ _ _ h => h) (Or.inl ⟨by first | (go_simp;done) | rfl,fun X _ => by go_simp⟩) hHeld ?_
 try simp only [Act.put,zsA,zsB,zsC]
 refine' till_pure (i := 1) (oi := _) (v := .pointer (some ⟨ib,0,none⟩)) rfl (by kernel_rfl) (by kernel_rfl) (by kernel_rfl) (by kernel_rfl) (fun _ _ _ h => h) (Or.inl ⟨by first | (go_simp;done) | rfl,fun X _ => by go_simp⟩) hHeld ?_
 try simp only [Act.put,zsA,zsB,zsC]
 refine' till_pure (i := 2) (oi := _) (v := .pointer (some ⟨ib,0,none⟩)) rfl (by kernel_rfl) (by kernel_rfl) (by kernel_rfl) (by kernel_rfl) (fun _ _ _ h => h) (Or.inl ⟨by first | (go_simp;done) | rfl,fun X _ => by go_simp⟩) hHeld ?_
 try simp only [Act.put,zsA,zsB,zsC]
 refine' till_pure (i := 3) (oi := _) (v := .pointer (some ⟨ib,23,none⟩)) rfl (by kernel_rfl) (by kernel_rfl) (by kernel_rfl) (by kernel_rfl) (fun _ _ _ h => h) (Or.inl ⟨by first | (go_simp;done) | rfl,fun X _ => by go_simp⟩) hHeld ?_
 try simp only [Act.put,zsA,zsB,zsC]
 refine' till_take (i := 4) (oi := _) (v := .slice ka E kc) rfl (by kernel_rfl) (by kernel_rfl) (by kernel_rfl) (by kernel_rfl) (fun _ _ _ h => h) (Or.inl ⟨by first | (go_simp;done) | rfl,fun X hX => by have h0 : X.cell? ⟨ib,23,none⟩ = some (.slice ka E kc) := (hX.1.cell? 23).trans rfl;go_simp⟩) hHeld ?_
 try simp only [Act.put,zsA,zsB,zsC]
 refine' till_take (i := 5) (oi := _) (v := .agg #[.int .i64 d.ticket,.int .i64 d.line]) rfl (by kernel_rfl) (by kernel_rfl) (by kernel_rfl) (by kernel_rfl) (fun _ _ _ h => h) (by refine (yieldsIf_load_mid ?_ 87 (.tmp 10) rfl w1.heap.size 0 ?_ [.int .i64 d.ticket,.int .i64 d.line] _ (fun X h => h.2) Tryz.underlying87 rfl (by kernel_rfl)) <;> go_simp) hHeld ?_
 try simp only [Act.put,zsA,zsB,zsC]
 refine till_ready (rs := [6]) (by kernel_rfl) (by simp) ?_
 refine TillReady.cons (o := _) rfl (fun K hK => ?_) TillReady.nil
 go_simp
 refine hK.out _ _ ⟨hHeld.1.alloc _,fun j u hu => cell_alloc (hHeld.2 j u hu) _⟩ (fun hHeld => ?_)
 clear hK K
 try simp only [Act.put,zsA,zsB,zsC]
 obtain ⟨Y4,hY4⟩ : ∃ Y4,Y4 = (X3.alloc (Obj.cells #[.int .i64 d.ticket,.int .i64 d.line] 87)).drew := ⟨_,rfl⟩
 have bY4 : Below X3.heap.size X3 Y4 := by rw [hY4];exact Below.drew (Bel.al (Below.refl _ _) _)
 have rn4 : Row Y4 X3.heap.size 87 [.int .i64 d.ticket,.int .i64 d.line] := by rw [hY4];exact (Row.new X3 _ _).drew
 rw [← hY4] at hHeld ⊢
 clear hY4 dS3
 have S4 := hS3.out.below (col' := col) bY4 fun _ _ => rfl
 have rk4 := Row.keep rk3 bY4
 have rl4 := Row.keep rl3 bY4
 have z4 := z3.then (q := fun _ => False) (Chg.ofBelow bY4) fun _ _ h => h.elim
 refine till_ready (rs := [7]) (by kernel_rfl) (by simp) ?_
 refine TillReady.cons (o := _) rfl (fun K hK => ?_) TillReady.nil
 rw [if_pos (by first | rfl | (go_simp;done))]
 refine wp_appendS _ _ _ 75 rfl (sz := 2) (V := keyC) (R := fun _ _ => True) keyC_len 0 87 (.agg #[.int .i64 0,.int .i64 0]) 16 Tryz.underlying75 (by kernel_rfl) rfl (by decide) (.slice ka E kc) (es.map keyD) rfl S4.keys.now (.slice (some ⟨X3.heap.size,0,none⟩) 1 1) [keyD d] rfl (rdS_one _ (V := keyC) (x := keyD d) rn4 (Nat.le_refl _) (by decide)) (fun _ _ _ _ => trivial) (fun x hx u hu => by rcases List.mem_singleton.1 hx with rfl;simp [keyC] at hu;rcases hu with rfl | rfl <;> rfl) (by have := hE.out;simp;omega) (by have := hE.out;simp;omega) (Nat.zero_le _) ?_
 intro v5 X4 ho4 hg4 hl4
 obtain ⟨k5,ka5,kc5,rfl⟩ : ∃ a b c,v5 = Value.slice a b c := by obtain ⟨a,c,h⟩ := ho4.shape;exact ⟨a,_,c,h⟩
 have n4 : some ib ≠ (Value.slice ka E kc).ownBlock := fun e => by have := S4.ckv ib e.symm;rw [S4.ci] at this;cases this
 have n4k : some w1.heap.size ≠ (Value.slice ka E kc).ownBlock := fun e => by have := hkvl.out _ e.symm;have := s1.out;omega
 have n4l : some w.heap.size ≠ (Value.slice ka E kc).ownBlock := fun e => by have := hkvl.out _ e.symm;omega
 refine hK.out _ _ ⟨Row.grown hHeld.1 hg4 n4,fun j u hu => (World.cell?_of_block (hg4.block w1.heap.size (by have := rk4.lt;exact this) n4k)).trans (hHeld.2 j u hu)⟩ (fun hHeld => ?_)
 clear hK K
 try simp only [Act.put,zsA,zsB,zsC]
 have rl5 := Row.grown rl4 hg4 n4l
 have d23 : X4.cell? ⟨ib,23,none⟩ = some (.slice ka E kc) := (hHeld.1.cell? 23).trans rfl
 have f23 := hHeld.1.frozen 23
 refine' till_pure (i := 8) (oi := _) (v := .pointer (some ⟨ib,0,none⟩)) rfl (by kernel_rfl) (by kernel_rfl) (by kernel_rfl) (by kernel_rfl) (fun _ _ _ h => h) (Or.inl ⟨by first | (go_simp;done) | rfl,fun X _ => by go_simp⟩) hHeld ?_
 try simp only [Act.put,zsA,zsB,zsC]
 refine' till_pure (i := 9) (oi := _) (v := .pointer (some ⟨ib,23,none⟩)) rfl (by kernel_rfl) (by kernel_rfl) (by kernel_rfl) (by kernel_rfl) (fun _ _ _ h => h) (Or.inl ⟨by first | (go_simp;done) | rfl,fun X _ => by go_simp⟩) hHeld ?_
 try simp only [Act.put,zsA,zsB,zsC]
 refine till_ready (rs := [10]) (by kernel_rfl) (by simp) ?_
 refine TillReady.last (o := _) rfl (by kernel_rfl) (fun K hK => ?_) TillReady.nil
 go_simp
 refine hK.out _ _ ?_
 clear hK K
 try simp only [Act.put,zsA,zsB,zsC]
 refine till_done (by kernel_rfl) ?_ _
 go_simp
 have S5 := S4.putY hg4 ho4 hl4
 have hl23 : ib ≠ w.heap.size := by have := hib.out;omega
 have rl6 : Row (X4.setCell ⟨ib,23,none⟩ (.slice k5 ka5 kc5)) w.heap.size 53 [.slice ma mn mc,.slice ba bn bc] := rl5.far (Ne.symm hl23) _
 have z5 : Chg (Mine col) w (X4.setCell ⟨ib,23,none⟩ (.slice k5 ka5 kc5)) := (z4.then (q := fun k => (Value.slice ka E kc).ownBlock = some k) (Chg.ofGb hg4 fun k hk => hk) (fun k _ hk => by show col k < 5;rw [S4.ckv k hk];decide)).then (Chg.cell _ _ _ _) (fun k _ hk => by show col k < 5;rw [hk,S4.ci];decide)
 obtain ⟨X5,hX5⟩ : ∃ X5,X5 = X4.setCell ⟨ib,23,none⟩ (.slice k5 ka5 kc5) := ⟨_,rfl⟩
 obtain ⟨cA,hcA⟩ : ∃ cA,cA = extC col Y4.heap.size 2 := ⟨_,rfl⟩
 have eA : ∀ k,k < w.heap.size → cA k = col k := fun k hk => by rw [hcA];exact extC_lt (by have := z4.size;omega)
 have eAw : cA w.heap.size = 6 := by rw [hcA,extC_lt (by have := rl4.lt;exact this)];exact hbound.out _ (Nat.le_refl _)
 rw [← hX5] at S5 rl6 z5 ⊢
 rw [← hcA] at S5
 clear hX5 hcA rn4 rk4 rl4 S4 z4 bY4 ho4 hg4 hl4 n4 n4k n4l rl5 d23 f23 hHeld hl23 rk3 rl3 z3 hS3 s3
 replace eA := hide eA
 replace S5 : Hid _ := hide S5
 go_upto_region 14 with (fail)
 have bD5 : Below X5.heap.size X5 X5.drew := Below.drew (Below.refl _ _)
 refine till_begin 16 (fun X => Row X ib 80 (idxCells g av tv (.slice k5 ka5 kc5) (.slice la E lc) mk mp) ∧ X.rangeAt w.heap.size 0 [.slice ma mn mc,.slice ba bn bc]) (by kernel_rfl) ⟨(S5.out.below (col' := cA) bD5 fun _ _ => rfl).row.now,fun j u hu => by rw [Nat.zero_add];exact ((rl6.drew).cell? j).trans hu⟩ (fun hHeld => ?_)
 refine' till_pure (i := 0) (oi := _) (v := .pointer (some ⟨ib,0,none⟩)) rfl (by kernel_rfl) (by kernel_rfl) (by kernel_rfl) (by kernel_rfl) (fun _ _ _ h => h) (Or.inl ⟨by first | (go_simp;done) | rfl,fun X _ => by go_simp⟩) hHeld ?_
 try simp only [Act.put,zsA,zsB,zsC]
 refine' till_pure (i := 1) (oi := _) (v := .pointer (some ⟨ib,0,none⟩)) rfl (by kernel_rfl) (by kernel_rfl) (by kernel_rfl) (by kernel_rfl) (fun _ _ _ h => h) (Or.inl ⟨by first | (go_simp;done) | rfl,fun X _ => by go_simp⟩) hHeld ?_
 try simp only [Act.put,zsA,zsB,zsC]
 refine' till_pure (i := 2) (oi := _) (v := .pointer (some ⟨ib,0,none⟩)) rfl (by kernel_rfl) (by kernel_rfl) (by kernel_rfl) (by kernel_rfl) (fun _ _ _ h => h) (Or.inl ⟨by first | (go_simp;done) | rfl,fun X _ => by go_simp⟩) hHeld ?_
 try simp only [Act.put,zsA,zsB,zsC]
 refine' till_pure (i := 3) (oi := _) (v := .pointer (some ⟨ib,24,none⟩)) rfl (by kernel_rfl) (by kernel_rfl) (by kernel_rfl) (by kernel_rfl) (fun _ _ _ h => h) (Or.inl ⟨by first | (go_simp;done) | rfl,fun X _ => by go_simp⟩) hHeld ?_
 try simp only [Act.put,zsA,zsB,zsC]
 refine' till_take (i := 4) (oi := _) (v := .slice la E lc) rfl (by kernel_rfl) (by kernel_rfl) (by kernel_rfl) (by kernel_rfl) (fun _ _ _ h => h) (Or.inl ⟨by first | (go_simp;done) | rfl,fun X hX => by have h0 : X.cell? ⟨ib,24,none⟩ = some (.slice la E lc) := (hX.1.cell? 24).trans rfl;go_simp⟩) hHeld ?_
 try simp only [Act.put,zsA,zsB,zsC]
 refine' till_pure (i := 5) (oi := _) (v := .pointer (some ⟨w.heap.size,0,none⟩)) rfl (by kernel_rfl) (by kernel_rfl) (by kernel_rfl) (by kernel_rfl) (fun _ _ _ h => h) (Or.inl ⟨by first | (go_simp;done) | rfl,fun X _ => by go_simp⟩) hHeld ?_
 try simp only [Act.put,zsA,zsB,zsC]
 refine' till_take (i := 6) (oi := _) (v := .slice ma mn mc) rfl (by kernel_rfl) (by kernel_rfl) (by kernel_rfl) (by kernel_rfl) (fun _ _ _ h => h) (Or.inl ⟨by first | (go_simp;done) | rfl,fun X hX => by have h0 : X.cell? ⟨w.heap.size,0,none⟩ = some (.slice ma mn mc) := hX.2 0 _ rfl;go_simp⟩) hHeld ?_
 try simp only [Act.put,zsA,zsB,zsC]
 refine' till_pure (i := 8) (oi := _) (v := .pointer (some ⟨w.heap.size,1,none⟩)) rfl (by kernel_rfl) (by kernel_rfl) (by kernel_rfl) (by kernel_rfl) (fun _ _ _ h => h) (Or.inl ⟨by first | (go_simp;done) | rfl,fun X _ => by go_simp⟩) hHeld ?_
 try simp only [Act.put,zsA,zsB,zsC]
 refine' till_take (i := 9) (oi := _) (v := .slice ba bn bc) rfl (by kernel_rfl) (by kernel_rfl) (by kernel_rfl) (by kernel_rfl) (fun _ _ _ h => h) (Or.inl ⟨by first | (go_simp;done) | rfl,fun X hX => by have h0 : X.cell? ⟨w.heap.size,1,none⟩ = some (.slice ba bn bc) := hX.2 1 _ rfl;go_simp⟩) hHeld ?_
 try simp only [Act.put,zsA,zsB,zsC]
 refine till_ready (rs := [7]) (by kernel_rfl) (by simp) ?_
 refine TillReady.cons (o := _) rfl (fun K hK => ?_) TillReady.nil
 go_simp
 refine (cA1.out X5.drew (z5.then (q := fun _ => False) (Chg.ofBelow bD5) fun _ _ h => h.elim)).mono ?_
 rintro e w6 ⟨u1,rfl,ru1,fu1,hb6⟩
 obtain ⟨m1,m2,m3,rfl⟩ := ru1.shape
 have B6 : Below X5.heap.size X5 w6 := Bel.to bD5 hb6
 go_wp2_with fail
 refine hK.out _ _ ⟨Row.keep hHeld.1 hb6,fun j u hu => Bel.cellOf hb6 (hHeld.2 j u hu)⟩ (fun hHeld => ?_)
 clear hK K
 try simp only [Act.put,zsA,zsB,zsC]
 refine till_ready (rs := [10]) (by kernel_rfl) (by simp) ?_
 refine TillReady.cons (o := _) rfl (fun K hK => ?_) TillReady.nil
 go_simp
 refine (cA2.out w6 (z5.then (q := fun _ => False) (Chg.ofBelow B6) fun _ _ h => h.elim)).mono ?_
 rintro e w7 ⟨u2,rfl,ru2,fu2,hb7⟩
 obtain ⟨o1,o2,o3,rfl⟩ := ru2.shape
 have B7 : Below X5.heap.size X5 w7 := Bel.to B6 hb7
 go_wp2_with fail
 refine hK.out _ _ ⟨Row.keep hHeld.1 hb7,fun j u hu => Bel.cellOf hb7 (hHeld.2 j u hu)⟩ (fun hHeld => ?_)
 clear hK K
 try simp only [Act.put,zsA,zsB,zsC]
 refine' till_pure (i := 11) (oi := _) (v := .agg #[.slice m1 m2 m3,.slice o1 o2 o3]) rfl (by kernel_rfl) (by kernel_rfl) (by kernel_rfl) (by kernel_rfl) (fun _ _ _ h => h) (Or.inl ⟨by first | (go_simp;done) | rfl,fun X _ => by go_simp⟩) hHeld ?_
 try simp only [Act.put,zsA,zsB,zsC]
 refine till_ready (rs := [12]) (by kernel_rfl) (by simp) ?_
 refine TillReady.cons (o := _) rfl (fun K hK => ?_) TillReady.nil
 go_simp
 refine hK.out _ _ ⟨hHeld.1.alloc _,fun j u hu => cell_alloc (hHeld.2 j u hu) _⟩ (fun hHeld => ?_)
 clear hK K
 try simp only [Act.put,zsA,zsB,zsC]
 obtain ⟨cB,hcB⟩ : ∃ cB,cB = extC cA X5.heap.size 5 := ⟨_,rfl⟩
 have S7 : IdxS w7 cB ib g av tv (.slice k5 ka5 kc5) (.slice la E lc) ms mk mp n vs _ _ _ _ := S5.out.below B7 fun k hk => by rw [hcB];exact extC_lt hk
 have cB5 : ∀ k,X5.heap.size ≤ k → cB k = 5 := fun k hk => by rw [hcB];exact extC_ge hk
 have H5 : Hold cB 5 w7 fun X => LineR X (.slice m1 m2 m3) (.slice o1 o2 o3) d.l.1 d.l.2 := (Rd.hold (n := X5.heap.size) (ru1.below hb7) fu1 fun k hk _ => cB5 k hk).and (Rd.hold (n := X5.heap.size) ru2 (fu2.mono (by have := hb6.size;exact this)) fun k hk _ => cB5 k hk)
 obtain ⟨Y8,hY8⟩ : ∃ Y8,Y8 = w7.alloc (Obj.cells #[.slice m1 m2 m3,.slice o1 o2 o3] 53) := ⟨_,rfl⟩
 have bY8 : Below w7.heap.size w7 Y8 := by rw [hY8];exact Bel.al (Below.refl _ _) _
 have rn8 : Row Y8 w7.heap.size 53 [.slice m1 m2 m3,.slice o1 o2 o3] := by rw [hY8];exact Row.new w7 _ _
 rw [← hY8] at hHeld ⊢
 clear hY8
 have S8 := S7.below (col' := cB) bY8 fun _ _ => rfl
 have H8 := H5.below bY8
 have rl8 := Row.keep (Row.keep rl6 B7) bY8
 have z8 := z5.then (q := fun _ => False) (Chg.ofBelow (Bel.to B7 bY8)) fun _ _ h => h.elim
 have eB : ∀ k,k < w.heap.size → cB k = col k := fun k hk => by rw [hcB,extC_lt (by have := z5.size;omega)];exact eA.out k hk
 have eBw : cB w.heap.size = 6 := by rw [hcB,extC_lt (by have := rl6.lt;exact this)];exact eAw
 refine till_ready (rs := [13]) (by kernel_rfl) (by simp) ?_
 refine TillReady.cons (o := _) rfl (fun K hK => ?_) TillReady.nil
 rw [if_pos (by first | rfl | (go_simp;done))]
 refine wp_appendS _ _ _ 44 rfl (sz := 2) (V := LnV) (R := fun _ _ => True) LnV_len 0 53 (.agg #[.slice none 0 0,.slice none 0 0]) 48 Tryz.underlying44 (by kernel_rfl) rfl (by decide) (.slice la E lc) vs rfl S8.lines.now (.slice (some ⟨w7.heap.size,0,none⟩) 1 1) [(.slice m1 m2 m3,.slice o1 o2 o3)] rfl (rdS_one _ (V := LnV) (x := (Value.slice m1 m2 m3,Value.slice o1 o2 o3)) rn8 (Nat.le_refl _) (by decide)) (fun _ _ _ _ => trivial) (fun x hx u hu => by rcases List.mem_singleton.1 hx with rfl;simp [LnV] at hu;rcases hu with rfl | rfl <;> rfl) (by have := hE.out;have := hvl.out;simp;omega) (by have := hE.out;have := hvl.out;simp;omega) (Nat.zero_le _) ?_
 intro v9 X9 ho9 hg9 hl9
 obtain ⟨k9,ka9,kc9,rfl⟩ : ∃ a b c,v9 = Value.slice a b c := by obtain ⟨a,c,h⟩ := ho9.shape;exact ⟨a,_,c,h⟩
 have n9 : some ib ≠ (Value.slice la E lc).ownBlock := fun e => by have := S8.clv ib e.symm;rw [S8.ci] at this;cases this
 have n9l : some w.heap.size ≠ (Value.slice la E lc).ownBlock := fun e => by have := hlvl.out _ e.symm;omega
 refine hK.out _ _ ⟨Row.grown hHeld.1 hg9 n9,fun j u hu => (World.cell?_of_block (hg9.block w.heap.size rl8.lt n9l)).trans (hHeld.2 j u hu)⟩ (fun hHeld => ?_)
 clear hK K
 try simp only [Act.put,zsA,zsB,zsC]
 have rl9 := Row.grown rl8 hg9 n9l
 have d24 : X9.cell? ⟨ib,24,none⟩ = some (.slice la E lc) := (hHeld.1.cell? 24).trans rfl
 have f24 := hHeld.1.frozen 24
 refine' till_pure (i := 14) (oi := _) (v := .pointer (some ⟨ib,0,none⟩)) rfl (by kernel_rfl) (by kernel_rfl) (by kernel_rfl) (by kernel_rfl) (fun _ _ _ h => h) (Or.inl ⟨by first | (go_simp;done) | rfl,fun X _ => by go_simp⟩) hHeld ?_
 try simp only [Act.put,zsA,zsB,zsC]
 refine' till_pure (i := 15) (oi := _) (v := .pointer (some ⟨ib,24,none⟩)) rfl (by kernel_rfl) (by kernel_rfl) (by kernel_rfl) (by kernel_rfl) (fun _ _ _ h => h) (Or.inl ⟨by first | (go_simp;done) | rfl,fun X _ => by go_simp⟩) hHeld ?_
 try simp only [Act.put,zsA,zsB,zsC]
 refine till_ready (rs := [16]) (by kernel_rfl) (by simp) ?_
 refine TillReady.last (o := _) rfl (by kernel_rfl) (fun K hK => ?_) TillReady.nil
 go_simp
 refine hK.out _ _ ?_
 clear hK K
 try simp only [Act.put,zsA,zsB,zsC]
 refine till_done (by kernel_rfl) ?_ _
 go_simp
 have S10 := S8.putL (x := d.l) H8 hg9 ho9 hl9
 have hl24 : ib ≠ w.heap.size := by have := hib.out;omega
 have r10 : Row (X9.setCell ⟨ib,24,none⟩ (.slice k9 ka9 kc9)) w.heap.size 53 [.slice ma mn mc,.slice ba bn bc] := rl9.far (Ne.symm hl24) _
 have z10 : Chg (Mine col) w (X9.setCell ⟨ib,24,none⟩ (.slice k9 ka9 kc9)) := (z8.then (q := fun k => (Value.slice la E lc).ownBlock = some k) (Chg.ofGb hg9 fun k hk => hk) (fun k hkw hk => by show col k < 5;rw [← eB k hkw,S8.clv k hk];decide)).then (Chg.cell _ _ _ _) (fun k hkw hk => by show col k < 5;rw [← eB k hkw,hk,S8.ci];decide)
 obtain ⟨X10,hX10⟩ : ∃ X10,X10 = X9.setCell ⟨ib,24,none⟩ (.slice k9 ka9 kc9) := ⟨_,rfl⟩
 obtain ⟨cC0,hcC⟩ : ∃ cC0,cC0 = extC cB Y8.heap.size 3 := ⟨_,rfl⟩
 have eC : ∀ k,k < w.heap.size → cC0 k = col k := fun k hk => by rw [hcC,extC_lt (by have := z8.size;omega)];exact eB k hk
 have eCw : cC0 w.heap.size = 6 := by rw [hcC,extC_lt (by have := rl8.lt;exact this)];exact eBw
 rw [← hX10] at S10 r10 z10 ⊢
 rw [← hcC] at S10
 clear hX10 hcC rn8 rl8 S7 S8 H5 H8 z8 bY8 ho9 hg9 hl9 n9 n9l rl9 d24 f24 hHeld hl24 rl6 z5 S5 B6 B7 hb6 hb7 ru1 ru2 fu1 fu2 eB eBw eA eAw cB5 hcB bD5
 obtain ⟨T,hT⟩ : ∃ T : Nat → Prop,T = fun k => extC cC0 X10.heap.size 4 k = 4 := ⟨_,rfl⟩
 have pl0 : PlT X10 T mp n (occE g es) := by rw [hT];exact S10.startP
 have hTn : Hid (∀ k,X10.heap.size ≤ k → T k) := fun k hk => by rw [hT];exact extC_ge hk
 have hTw : Hid (¬ T w.heap.size) := fun h => by rw [hT] at h;have h2 : extC cC0 X10.heap.size 4 w.heap.size = cC0 w.heap.size := extC_lt r10.lt;have h3 : extC cC0 X10.heap.size 4 w.heap.size = 4 := h;rw [h2,eCw] at h3;cases h3
 have hTi : Hid (¬ T ib) := fun h => by rw [hT] at h;have h2 : extC cC0 X10.heap.size 4 ib = cC0 ib := extC_lt S10.ilt;have h3 : extC cC0 X10.heap.size 4 ib = 4 := h;rw [h2,S10.ci] at h3;cases h3
 have z11 : Hid (∀ Y,Chg T X10 Y → Chg (Mine col) w Y) := fun Y hY => z10.then hY fun k hkw hk => by rw [hT] at hk;show col k < 5;have h2 : extC cC0 X10.heap.size 4 k = cC0 k := extC_lt (by have := z10.size;omega);have h3 : extC cC0 X10.heap.size 4 k = 4 := hk;rw [h2,eC k hkw] at h3;rw [h3];decide
 have fin : Hid (∀ Y m F',Chg T X10 Y → PlT Y T mp m F' → (∀ p,F' p = addF (occE g es) (placesE g d.l) es.length p) → m ≤ (es.length + 1) * 400 → ∃ col',Later w col col' ∧ IdxR Y col' ib g (es ++ [d])) := fun Y m F' hY hP hF hm => by
  rw [hT] at hY hP
  refine ⟨_,fun k hk => ?_,(S10.putP hY hP).fin hF hm h2.out h3.out h4.out hx.out hk.out⟩
  have hks : k < Y.heap.size := by have := hY.size;have := z10.size;omega
  rw [extC_lt hks,extC_lt (by have := z10.size;omega)]
  exact eC k hk
 have hrow10 : Hid (∀ Y,Chg T X10 Y → Row Y ib 80 (idxCells g av tv (.slice k5 ka5 kc5) (.slice k9 ka9 kc9) mk mp)) := fun Y hY => (hY.block ib S10.ilt hTi.out).trans S10.row.now
 have hbox10 : Hid (∀ Y,Chg T X10 Y → Row Y w.heap.size 53 [.slice ma mn mc,.slice ba bn bc]) := fun Y hY => (hY.block _ r10.lt hTw.out).trans r10
 clear hT S10 r10 z10 eC eCw
 have hbx := hbox10.out X10 (Chg.refl _ _)
 have c0 : X10.cell? ⟨w.heap.size,0,none⟩ = some (.slice ma mn mc) := (hbx.cell? 0).trans rfl
 clear hbx
 have p0 : PlT X10 T mp (n + 0) (addF (occE g es) (mainsP g (d.l.1.take 0) 0) es.length) := pl0.congr fun p => (addF_nil _ _ p).symm
 clear pl0
 go_wp2
 go_loopg [12,13,81] mn (fun gh _ _ t wr => ∃ (i : Nat),gh = mn - i ∧ i ≤ mn ∧ t = .int .i64 (i : Int) ∧ Hid (PlT wr T mp (n + i) (addF (occE g es) (mainsP g (d.l.1.take i) 0) es.length)) ∧ Hid (Chg T X10 wr))
 case atStart => exact ⟨0,rfl,Nat.zero_le _,rfl,p0,Chg.refl _ _⟩
 case round =>
  clear c0 p0
  obtain ⟨i,hgh,hi,rfl,hP,hC⟩ := hrel
  replace hgh := hide hgh
  by_cases hlt : i < mn
  ·have hlt2 := hide hlt
   have hil : i < d.l.1.length := by rw [← hls.out.1];exact hlt
   have hmr := (hlk.out wr (z11.out wr hC.out)).1
   obtain ⟨b,off,rfl,hbb,hcell⟩ := hmr.at_ hil
   have c1 := hcell i hil
   obtain ⟨x,hx0⟩ : ∃ x,x = d.l.1[i] := ⟨_,rfl⟩
   have hxm := hide (hsm.out.2.2.1 x (by rw [hx0];exact List.getElem_mem _))
   have hxs := hide (mainsP_snoc g d.l.1 i hil)
   rw [← hx0] at c1 hxs
   clear hcell hmr hx0
   have i1 : (0 : Int) ≤ (i : Int) := by omega
   have i2 : (i : Int) < (mn : Int) := by omega
   have i3 : (mn : Int) ≤ 100 := by have := hls.out.1;have := hsm.out.1;omega
   go_upto_region 18 with (fail)
   have bD : Below wr.heap.size wr wr.drew := Below.drew (Below.refl _ _)
   have hrw := hrow10.out wr hC.out
   refine wp_region_held_drew (S := fun X => True) (by kernel_rfl) trivial (fun hHeld => ?_)
   refine' wpAnyH_take (i := 0) (oi := _) (v := .pointer (some ⟨ib,0,none⟩)) rfl (by kernel_rfl) (by kernel_rfl) (by kernel_rfl) (fun _ _ _ h => h) (Or.inl ⟨by first | (go_simp;done) | rfl,fun X hX => by go_simp⟩) hHeld ?_
   try simp only [Act.put,zsA,zsB,zsC]
   refine' wpAnyH_take (i := 1) (oi := _) (v := .pointer (some ⟨ib,0,none⟩)) rfl (by kernel_rfl) (by kernel_rfl) (by kernel_rfl) (fun _ _ _ h => h) (Or.inl ⟨by first | (go_simp;done) | rfl,fun X hX => by go_simp⟩) hHeld ?_
   try simp only [Act.put,zsA,zsB,zsC]
   refine' wpAnyH_take (i := 2) (oi := _) (v := .pointer (some ⟨ib,25,none⟩)) rfl (by kernel_rfl) (by kernel_rfl) (by kernel_rfl) (fun _ _ _ h => h) (Or.inl ⟨by first | (go_simp;done) | rfl,fun X hX => by go_simp⟩) hHeld ?_
   try simp only [Act.put,zsA,zsB,zsC]
   refine' wpAnyH_take (i := 3) (oi := _) (v := .pointer (some ⟨ib,0,none⟩)) rfl (by kernel_rfl) (by kernel_rfl) (by kernel_rfl) (fun _ _ _ h => h) (Or.inl ⟨by first | (go_simp;done) | rfl,fun X hX => by go_simp⟩) hHeld ?_
   try simp only [Act.put,zsA,zsB,zsC]
   refine' wpAnyH_take (i := 4) (oi := _) (v := .int .i64 (i : Int)) rfl (by kernel_rfl) (by kernel_rfl) (by kernel_rfl) (fun _ _ _ h => h) (Or.inl ⟨by first | (go_simp;done) | rfl,fun X hX => by go_simp⟩) hHeld ?_
   try simp only [Act.put,zsA,zsB,zsC]
   refine' wpAnyH_take (i := 5) (oi := _) (v := .int .i64 x) rfl (by kernel_rfl) (by kernel_rfl) (by kernel_rfl) (fun _ _ _ h => h) (Or.inl ⟨by first | (go_simp;done) | rfl,fun X hX => by go_simp⟩) hHeld ?_
   try simp only [Act.put,zsA,zsB,zsC]
   refine' wpAnyH_take (i := 7) (oi := _) (v := .int .i64 (E : Int)) rfl (by kernel_rfl) (by kernel_rfl) (by kernel_rfl) (fun _ _ _ h => h) (Or.inl ⟨by first | (go_simp;done) | rfl,fun X hX => by go_simp⟩) hHeld ?_
   try simp only [Act.put,zsA,zsB,zsC]
   refine wpAnyH_ready (rs := [6]) (by kernel_rfl) (by simp) ?_
   refine AllReadyH.cons (o := _) rfl (fun K hK => ?_) AllReadyH.nil
   go_simp
   refine (imain_any ib g i x wr.drew ((hrw.drew.cell? 1).trans rfl)).mono ?_
   rintro e w2 ⟨rfl,hb2⟩
   go_wp2_with fail
   refine hK.out _ _ trivial (fun hHeld => ?_)
   clear hK K
   try simp only [Act.put,zsA,zsB,zsC]
   have bw2 : Below wr.heap.size wr w2 := Bel.to bD hb2
   have hxw := mainP_wf (g := g) (i := i) (x := x) (by have := hlt2.out;have := hls.out.1;have := hsm.out.1;omega) hxm.out
   have cAd := pladd_any ib mp (n + i) E (mainP g i x) T (addF (occE g es) (mainsP g (d.l.1.take i) 0) es.length) w2 ((Row.keep hrw bw2).cell? 25 |>.trans rfl) hTi.out (fun k hk => hTn.out k (by have := hC.out.size;have := bw2.size;omega)) (hP.out.same bw2.size fun k hk _ => bw2.block k hk) (by have := hnle.out;have := hE.out;have := hlt2.out;have := hls.out.1;have := hsm.out.1;omega) (Nat.le_trans (addF_len _ _ _ _ _ (hol.out _) (by rw [mainsP_len];have := hsm.out.1;rw [List.length_take];omega)) (by have := hE.out;omega)) hxw.1 hxw.2.1 hxw.2.2
   obtain ⟨PP,hPP⟩ : ∃ PP,PP = mainP g i x := ⟨_,rfl⟩
   rw [← hPP] at cAd hxs ⊢
   clear hPP hxw
   refine wpAnyH_ready (rs := [8]) (by kernel_rfl) (by simp) ?_
   refine AllReadyH.cons (o := _) rfl (fun K hK => ?_) AllReadyH.nil
   go_simp
   refine cAd.mono ?_
   rintro e w3 ⟨rfl,hP2,hC3⟩
   go_wp2_with fail
   refine hK.out _ _ trivial (fun hHeld => ?_)
   clear hK K cAd
   try simp only [Act.put,zsA,zsB,zsC]
   refine wpAnyH_done (by kernel_rfl) ?_ _
   go_simp
   have hC2 : Hid (Chg T X10 w3) := (hC.out.then (q := fun _ => False) (Chg.ofBelow bw2) fun _ _ h => h.elim).trans hC3
   rw [hEe.out] at hP2
   clear hC3 bw2 hb2 hrw bD hHeld c1
   go_wp2
   go_roundg (mn - (i + 1))
   case measure => have := hgh.out;have := hlt2.out;omega
   case rel =>
    refine ⟨i + 1,rfl,by have := hlt2.out;omega,by (have := hlt2.out;have := hls.out.1;have := hsm.out.1;go_num),?_,hC2⟩
    rw [hxs.out]
    exact hP2.congr fun p => addF_snoc _ _ _ _ p
  ·obtain rfl : i = mn := by omega
   have hrw := hbox10.out wr hC.out
   have c1 : wr.cell? ⟨w.heap.size,1,none⟩ = some (.slice ba bn bc) := (hrw.cell? 1).trans rfl
   have hP1 : Hid (PlT wr T mp (n + i) (addF (occE g es) (mainsP g d.l.1 0) es.length)) := by
    have h9 := hP.out
    rw [List.take_of_length_le (by rw [← hls.out.1];exact Nat.le_refl _)] at h9
    exact h9
   clear hP hrw hgh hi hlt
   have p0 : Hid (PlT wr T mp (n + i + 0) (addF (occE g es) (mainsP g d.l.1 0 ++ (d.l.2.take 0).map bonusP) es.length)) := by
    show PlT _ _ _ _ _
    rw [show d.l.2.take 0 = [] from rfl,List.map_nil,List.append_nil]
    exact hP1.out
   clear hP1
   obtain ⟨wa,hwa⟩ : ∃ wa,wa = wr := ⟨_,rfl⟩
   rw [← hwa] at hC p0 c1 ⊢
   clear hwa
   go_wp2
   go_loopg [15,99] bn (fun gh _ t wr => ∃ (j : Nat),gh = bn - j ∧ j ≤ bn ∧ t = .int .i64 (j : Int) ∧ Hid (PlT wr T mp (n + i + j) (addF (occE g es) (mainsP g d.l.1 0 ++ (d.l.2.take j).map bonusP) es.length)) ∧ Hid (Chg T X10 wr))
   case atStart => exact ⟨0,rfl,Nat.zero_le _,rfl,p0.out,hC.out⟩
   case round =>
    clear c1 p0 hC
    obtain ⟨j,hgh,hj,rfl,hP,hC⟩ := hrel
    replace hgh := hide hgh
    by_cases hlt : j < bn
    ·have hlt2 := hide hlt
     have hil : j < d.l.2.length := by rw [← hls.out.2];exact hlt
     have hmr := (hlk.out wr (z11.out wr hC.out)).2
     obtain ⟨b,off,rfl,hbb,hcell⟩ := hmr.at_ hil
     have c1 := hcell j hil
     obtain ⟨x,hx0⟩ : ∃ x,x = d.l.2[j] := ⟨_,rfl⟩
     have hxm := hide (hsm.out.2.2.2 x (by rw [hx0];exact List.getElem_mem _))
     have hxs : Hid ((d.l.2.take (j + 1)).map bonusP = (d.l.2.take j).map bonusP ++ [bonusP x]) := by show _ = _;rw [List.take_succ_eq_append_getElem hil,List.map_append,hx0];rfl
     rw [← hx0] at c1
     clear hcell hmr hx0
     have i1 : (0 : Int) ≤ (j : Int) := by omega
     have i2 : (j : Int) < (bn : Int) := by omega
     have i3 : (bn : Int) ≤ 100 := by have := hls.out.2;have := hsm.out.2.1;omega
     have hrw := hrow10.out wr hC.out
     have cAd := pladd_any ib mp (n + i + j) E (bonusP x) T (addF (occE g es) (mainsP g d.l.1 0 ++ (d.l.2.take j).map bonusP) es.length) wr ((hrw.cell? 25).trans rfl) hTi.out (fun k hk => hTn.out k (by have := hC.out.size;omega)) hP.out (by have := hnle.out;have := hE.out;have := hlt2.out;have := hls.out.1;have := hls.out.2;have := hsm.out.1;have := hsm.out.2.1;omega) (Nat.le_trans (addF_len _ _ _ _ _ (hol.out _) (by have := hsm.out.1;have := hsm.out.2.1;rw [List.length_append,mainsP_len,List.length_map,List.length_take];omega)) (by have := hE.out;omega)) (wfI_small (by simp [bonusP])) (wfI_small (by simp [bonusP])) (wfI_small hxm.out)
     unfold bonusP placeV at cAd
     clear hrw
     replace cAd := hide cAd
     go_wp2_with (first | (go_at_call 31;(refine cAd.out.mono ?_);rintro e w3 ⟨rfl,hP2,hC3⟩;rw [hEe.out] at hP2) | fail)
     have hC2 : Hid (Chg T X10 w3) := hC.out.trans hC3
     go_roundg (bn - (j + 1))
     case measure => have := hgh.out;have := hlt2.out;omega
     case rel =>
      refine ⟨j + 1,rfl,by have := hlt2.out;omega,by (have := hlt2.out;have := hls.out.2;have := hsm.out.2.1;go_num),?_,hC2⟩
      rw [hxs.out,← List.append_assoc]
      exact hP2.congr fun p => addF_snoc _ _ _ _ p
    ·obtain rfl : j = bn := by omega
     go_wp2
     go_ret
     obtain ⟨col',hL,hI2⟩ := fin.out wr _ _ hC.out hP.out (fun p => by rw [List.take_of_length_le (by rw [← hls.out.2];exact Nat.le_refl _)];rfl) (by have := hnle.out;have := hls.out.1;have := hls.out.2;have := hsm.out.1;have := hsm.out.2.1;have := hEe.out;omega)
     exact ⟨rfl,col',hL,hI2,z11.out wr hC.out⟩
end Go.Proofs.YtelgllgaofjgjaaGreat
end
section
set_option linter.unusedVariables false
set_option linter.unusedSimpArgs false
namespace Go.Proofs.YtelgllgaofjgjaaGreat
def entL (i : Int) : List LineD → Nat → List EntD
 | [],_ => []
 | x :: r,k => ⟨i,k,x⟩ :: entL i r (k + 1)
def entT (g : GameD) (p : Nat × TicketD) : List EntD := entL p.1 (linesB g p.2.bet) 0
def entsT (g : GameD) (l : List (Nat × TicketD)) : List EntD := l.flatMap (entT g)
theorem entL_wins (g : GameD) (r : ResD) (i : Int) (ls : List LineD) (k : Nat) : winsX g r (entL i ls k) = winsL (fun x => tierM g x r) i ls k := by
 induction ls generalizing k with
 | nil => rfl
 | cons x t ih =>
  unfold winsX at ih ⊢
  rw [entL,winsL,List.filterMap_cons,ih]
  unfold winE
  by_cases h : tierM g x r = -1
  ·simp [h]
  ·simp [h]
theorem entsT_wins (g : GameD) (r : ResD) (l : List (Nat × TicketD)) : winsX g r (entsT g l) = winsF g r l := by
 induction l with
 | nil => rfl
 | cons p q ih =>
  have h1 := entL_wins g r p.1 (linesB g p.2.bet) 0
  unfold winsX entsT at ih ⊢
  unfold winsX at h1
  unfold winsF at ih ⊢
  rw [List.flatMap_cons,List.flatMap_cons,List.filterMap_append,ih]
  unfold entT
  rw [h1]
theorem entL_mem {i : Int} {ls : List LineD} {k : Nat} {e : EntD} (h : e ∈ entL i ls k) : e.ticket = i ∧ (k : Int) ≤ e.line ∧ e.l ∈ ls := by
 induction ls generalizing k with
 | nil => cases h
 | cons x t ih =>
  rw [entL] at h
  rcases List.mem_cons.1 h with rfl | h
  ·exact ⟨rfl,Int.le_refl _,List.mem_cons_self⟩
  ·have h1 := ih h
   exact ⟨h1.1,by have := h1.2.1;omega,List.mem_cons_of_mem _ h1.2.2⟩
theorem entL_sorted (i : Int) (ls : List LineD) (k : Nat) : (entL i ls k).Pairwise fun a b => ltK (keyD a) (keyD b) := by
 induction ls generalizing k with
 | nil => exact List.Pairwise.nil
 | cons x t ih =>
  rw [entL]
  refine List.pairwise_cons.2 ⟨fun e he => ?_,ih (k + 1)⟩
  have h1 := entL_mem he
  right
  refine ⟨h1.1.symm,?_⟩
  show (k : Int) < e.line
  have := h1.2.1
  omega
theorem eligGo_rise (f : TicketD → Bool) (l : List TicketD) (i : Nat) : (eligGo f l i).Pairwise fun a b => a.1 < b.1 := by
 induction l generalizing i with
 | nil => exact List.Pairwise.nil
 | cons t q ih =>
  rw [eligGo]
  split
  ·refine List.pairwise_cons.2 ⟨fun p hp => ?_,ih (i + 1)⟩
   have := (eligGo_mem hp).1
   show i < p.1
   omega
  ·exact ih (i + 1)
theorem entsT_sorted {g : GameD} {l : List (Nat × TicketD)} (h : l.Pairwise fun a b => a.1 < b.1) : (entsT g l).Pairwise fun a b => ltK (keyD a) (keyD b) := by
 induction l with
 | nil => exact List.Pairwise.nil
 | cons p q ih =>
  have h' := List.pairwise_cons.1 h
  unfold entsT at ih ⊢
  rw [List.flatMap_cons]
  refine List.pairwise_append.2 ⟨entL_sorted _ _ _,ih h'.2,fun a ha b hb => ?_⟩
  obtain ⟨y,hy,hb⟩ := List.mem_flatMap.1 hb
  have h1 := entL_mem ha
  have h2 := entL_mem hb
  have h3 := h'.1 y hy
  left
  show a.ticket < b.ticket
  omega
theorem entsT_ok {g : GameD} {l : List (Nat × TicketD)} (h : ∀ p ∈ l,∀ x ∈ linesB g p.2.bet,lineE g x.1 x.2 = 0) : ∀ e ∈ entsT g l,OkD g e := by
 intro e he
 obtain ⟨p,hp,he⟩ := List.mem_flatMap.1 he
 have h1 := entL_mem he
 exact ⟨by rw [h1.1];omega,by have := h1.2.1;omega,h p hp _ h1.2.2⟩
theorem entsT_perm {g : GameD} {l m : List (Nat × TicketD)} (h : l.Perm m) : (entsT g l).Perm (entsT g m) := List.Perm.flatMap_right _ h
theorem index_wins {g : GameD} {r : ResD} {l m : List (Nat × TicketD)} (h : l.Pairwise fun a b => a.1 < b.1) (hp : m.Perm l) (hv : ∀ p ∈ l,∀ x ∈ linesB g p.2.bet,lineE g x.1 x.2 = 0) :
  buildX g (entsT g m) = entsT g m ∧ winsX g r (sortE (entsT g m)) = winsF g r l := by
 have hs := entsT_sorted (g := g) h
 have hd := diff_of hs
 have hd' : DiffK (entsT g m) := diff_perm hd (entsT_perm hp).symm
 refine ⟨build_all hd' (entsT_ok fun p hp' => hv p (hp.mem_iff.1 hp')),?_⟩
 rw [winsX_congr hd' (entsT_perm hp),sortE_of hs,entsT_wins]
def preI (g : GameD) (el : List (Nat × TicketD)) (k : Nat) : List EntD := entsT g (el.drop k).reverse
theorem preI_step (g : GameD) {el : List (Nat × TicketD)} {k : Nat} (hk : k < el.length) : preI g el k = preI g el (k + 1) ++ entT g el[k] := by
 unfold preI entsT
 rw [List.drop_eq_getElem_cons hk,List.reverse_cons,List.flatMap_append]
 simp
theorem preI_end (g : GameD) (el : List (Nat × TicketD)) : preI g el el.length = [] := by unfold preI;rw [List.drop_length];rfl
theorem preI_zero (g : GameD) (el : List (Nat × TicketD)) : preI g el 0 = entsT g el.reverse := rfl
theorem preI_part (g : GameD) (el : List (Nat × TicketD)) (k : Nat) : ∃ R,preI g el 0 = preI g el k ++ R := by
 refine ⟨entsT g (el.take k).reverse,?_⟩
 unfold preI entsT
 rw [← List.flatMap_append,← List.reverse_append,List.take_append_drop,List.drop_zero]
theorem entL_len (i : Int) (T : List LineD) (k : Nat) : (entL i T k).length = T.length := by
 induction T generalizing k with
 | nil => rfl
 | cons x t ih => rw [entL,List.length_cons,List.length_cons,ih]
theorem entL_at (i : Int) (T : List LineD) (k j : Nat) (hj : j < T.length) : (entL i T k)[j]? = some ⟨i,((k + j : Nat) : Int),T[j]⟩ := by
 induction T generalizing k j with
 | nil => cases hj
 | cons x t ih =>
  cases j with
  | zero => rfl
  | succ j =>
   rw [entL,List.getElem?_cons_succ,ih (k + 1) j (by simpa using hj),show k + 1 + j = k + (j + 1) by omega]
   rfl
def esI (g : GameD) (el : List (Nat × TicketD)) (k : Nat) (q : Int) (T : List LineD) (j : Nat) : List EntD := preI g el (k + 1) ++ (entL q T 0).take j
theorem esI_zero (g : GameD) (el : List (Nat × TicketD)) (k : Nat) (q : Int) (T : List LineD) : esI g el k q T 0 = preI g el (k + 1) := by unfold esI;simp
theorem esI_next (g : GameD) (el : List (Nat × TicketD)) (k : Nat) (q : Int) {T : List LineD} {j : Nat} (hj : j < T.length) : esI g el k q T (j + 1) = esI g el k q T j ++ [⟨q,(j : Int),T[j]⟩] := by
 unfold esI
 have h1 : j < (entL q T 0).length := by rw [entL_len];exact hj
 have h2 := entL_at q T 0 j hj
 rw [List.getElem?_eq_getElem h1,Nat.zero_add] at h2
 injection h2 with h2
 rw [List.take_succ_eq_append_getElem h1,h2,List.append_assoc]
theorem esI_full (g : GameD) {el : List (Nat × TicketD)} {k : Nat} (hk : k < el.length) : esI g el k (el[k].1 : Nat) (linesB g el[k].2.bet) (linesB g el[k].2.bet).length = preI g el k := by
 unfold esI
 rw [preI_step g hk,List.take_of_length_le (by rw [entL_len];exact Nat.le_refl _)]
 rfl
theorem esI_part (g : GameD) {el : List (Nat × TicketD)} {k : Nat} (hk : k < el.length) (j : Nat) : ∃ R,preI g el 0 = esI g el k (el[k].1 : Nat) (linesB g el[k].2.bet) j ++ R := by
 obtain ⟨R,hR⟩ := preI_part g el k
 refine ⟨(entT g el[k]).drop j ++ R,?_⟩
 rw [hR,preI_step g hk]
 unfold esI entT
 rw [List.append_assoc,List.append_assoc,← List.append_assoc (List.take j _),List.take_append_drop]
theorem all_diff {g : GameD} {el : List (Nat × TicketD)} (h : el.Pairwise fun a b => a.1 < b.1) : DiffK (preI g el 0) :=
 diff_perm (diff_of (entsT_sorted (g := g) h)) (entsT_perm (List.reverse_perm el)).symm
theorem all_ok {g : GameD} {el : List (Nat × TicketD)} (hv : ∀ p ∈ el,∀ x ∈ linesB g p.2.bet,lineE g x.1 x.2 = 0) : ∀ e ∈ preI g el 0,OkD g e :=
 entsT_ok fun p hp => hv p (List.mem_reverse.1 (by simpa using hp))
theorem esI_add {g : GameD} {el : List (Nat × TicketD)} (h : el.Pairwise fun a b => a.1 < b.1) (hv : ∀ p ∈ el,∀ x ∈ linesB g p.2.bet,lineE g x.1 x.2 = 0) {k : Nat} (hk : k < el.length) {j : Nat} (hj : j < (linesB g el[k].2.bet).length) :
  addX g (esI g el k (el[k].1 : Nat) (linesB g el[k].2.bet) j) ⟨(el[k].1 : Nat),(j : Int),(linesB g el[k].2.bet)[j]⟩ = 0 ∧
  putX g (esI g el k (el[k].1 : Nat) (linesB g el[k].2.bet) j) ⟨(el[k].1 : Nat),(j : Int),(linesB g el[k].2.bet)[j]⟩ = esI g el k (el[k].1 : Nat) (linesB g el[k].2.bet) (j + 1) := by
 obtain ⟨R,hR⟩ := esI_part g hk (j + 1)
 have hd := all_diff (g := g) h
 have ho := all_ok (g := g) hv
 rw [hR,esI_next g el k _ hj] at hd ho
 have hd1 := (List.pairwise_append.1 hd).1
 have hd2 := (List.pairwise_append.1 hd1).2.2
 have ha : addX g (esI g el k (el[k].1 : Nat) (linesB g el[k].2.bet) j) ⟨(el[k].1 : Nat),(j : Int),(linesB g el[k].2.bet)[j]⟩ = 0 :=
  addX_ok.2 ⟨ho _ (by simp),fun x hx => hd2 x hx _ (List.mem_singleton.2 rfl)⟩
 refine ⟨ha,?_⟩
 unfold putX
 rw [if_pos ha,esI_next g el k _ hj]
theorem preI_len {g : GameD} {el : List (Nat × TicketD)} {c : Nat} (h : ∀ p ∈ el,(linesB g p.2.bet).length ≤ c) : (preI g el 0).length ≤ el.length * c := by
 rw [preI_zero]
 have key : ∀ l : List (Nat × TicketD),(∀ p ∈ l,(linesB g p.2.bet).length ≤ c) → (entsT g l).length ≤ l.length * c := by
  intro l
  induction l with
  | nil => intro _;simp [entsT]
  | cons p q ih =>
   intro hl
   unfold entsT at ih ⊢
   rw [List.flatMap_cons,List.length_append,List.length_cons,Nat.add_mul]
   have h1 := ih fun p hp => hl p (List.mem_cons_of_mem _ hp)
   have h2 := hl p List.mem_cons_self
   have h3 : (entT g p).length = (linesB g p.2.bet).length := entL_len _ _ _
   omega
 have h1 := key el.reverse fun p hp => h p (List.mem_reverse.1 hp)
 rwa [List.length_reverse] at h1
theorem esI_len {g : GameD} {el : List (Nat × TicketD)} {c : Nat} (h : ∀ p ∈ el,(linesB g p.2.bet).length ≤ c) {k : Nat} (hk : k < el.length) (j : Nat) : (esI g el k (el[k].1 : Nat) (linesB g el[k].2.bet) j).length ≤ el.length * c := by
 obtain ⟨R,hR⟩ := esI_part g hk j
 have h1 := preI_len h
 rw [hR,List.length_append] at h1
 omega
theorem esI_addT {g : GameD} {el : List (Nat × TicketD)} (h : el.Pairwise fun a b => a.1 < b.1) (hv : ∀ p ∈ el,∀ x ∈ linesB g p.2.bet,lineE g x.1 x.2 = 0) {k : Nat} (hk : k < el.length) {q : Nat} (hq : q = el[k].1) {T : List LineD} (hT : T = linesB g el[k].2.bet) {j : Nat} (hj : j < T.length) :
  addX g (esI g el k (q : Int) T j) ⟨(q : Int),(j : Int),T[j]⟩ = 0 ∧ putX g (esI g el k (q : Int) T j) ⟨(q : Int),(j : Int),T[j]⟩ = esI g el k (q : Int) T (j + 1) := by
 subst hq hT
 exact esI_add h hv hk hj
theorem esI_fullT (g : GameD) {el : List (Nat × TicketD)} {k : Nat} (hk : k < el.length) {q : Nat} (hq : q = el[k].1) {T : List LineD} (hT : T = linesB g el[k].2.bet) : esI g el k (q : Int) T T.length = preI g el k := by
 subst hq hT
 exact esI_full g hk
theorem esI_lenT {g : GameD} {el : List (Nat × TicketD)} {c : Nat} (h : ∀ p ∈ el,(linesB g p.2.bet).length ≤ c) {k : Nat} (hk : k < el.length) {q : Nat} (hq : q = el[k].1) {T : List LineD} (hT : T = linesB g el[k].2.bet) (j : Nat) : (esI g el k (q : Int) T j).length ≤ el.length * c := by
 subst hq hT
 exact esI_len h hk j
end Go.Proofs.YtelgllgaofjgjaaGreat
end
section
open Go.RowKit
set_option linter.unusedVariables false
set_option linter.unusedSimpArgs false
namespace Go.Proofs.YtelgllgaofjgjaaGreat
theorem OwnLn.holdV {w : World} {base : Nat} {v : Value} {ls : List LineD} {col : Nat → Nat} {c : Nat} (h : OwnLn w base v ls) (hcol : ∀ k,base ≤ k → k < w.heap.size → col k = c) :
  ∃ vs : List (Value × Value),vs.length = ls.length ∧ Hold col c w fun X => RdS 2 LnV X v vs ∧ EachR X vs ls := by
 obtain ⟨vs,h1,h2,h3⟩ := h
 have hlt := World.ownsRow.lt h1
 refine ⟨vs,h2,fun X hX => ⟨?_,fun i p x hp hx => ?_⟩⟩
 ·have h4 : OwnS 2 LnV (fun _ _ => True) X base 53 v vs :=
   ⟨ownsRow_block h1 fun k hk => hX.block k (hlt k hk).2 fun hn => hn (hcol k (hlt k hk).1 (hlt k hk).2),fun _ _ _ _ => trivial⟩
  exact h4.rd LnV_len
 ·obtain ⟨⟨a1,a2⟩,b1,b2,-,-⟩ := h3 i p x hp hx
  exact ⟨(a1.hold b1 hcol) X hX,(a2.hold b2 hcol) X hX⟩
end Go.Proofs.YtelgllgaofjgjaaGreat
end

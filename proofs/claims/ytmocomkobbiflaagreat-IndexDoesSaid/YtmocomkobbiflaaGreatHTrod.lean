/- Lemmas, merged out of smaller texts (wip/tools/mergedce.py). No condition. -/
import Derived.OpenShut
import Derived.ChangeSlices
import Derived.Test.YtmocomkobbiflaaGreatProg
import Derived.ChangeArms
import Derived.Deep.Slices
import Derived.Test.YtmocomkobbiflaaGreatHWin
import Derived.Test.YtmocomkobbiflaaGreatHSys
import Derived.Test.YtmocomkobbiflaaGreatHCore
import Derived.Test.YtmocomkobbiflaaGreatHRule
import Derived.Test.YtmocomkobbiflaaGreatHLine
section
set_option linter.unusedVariables false
set_option linter.unusedSimpArgs false
namespace Go.Proofs.YtmocomkobbiflaaGreat
structure EntD where
 ticket : Int
 line : Int
 l : LineD
def hitN (a : List Int) : List Int → Nat
 | [] => 0
 | n :: r => a.count n + hitN a r
theorem hitN_app (a b c : List Int) : hitN a (b ++ c) = hitN a b + hitN a c := by
 induction b with
 | nil => simp [hitN]
 | cons x t ih => rw [List.cons_append,hitN,hitN,ih];omega
theorem hitN_snoc (a r : List Int) (i : Nat) (h : i < r.length) : hitN a (r.take (i + 1)) = hitN a (r.take i) + a.count r[i] := by
 rw [List.take_succ_eq_append_getElem h,hitN_app];simp [hitN]
theorem hitN_cons (x : Int) (a r : List Int) : hitN (x :: a) r = hitN a r + r.count x := by
 induction r with
 | nil => simp [hitN]
 | cons n t ih =>
  rw [hitN,hitN,ih,List.count_cons,List.count_cons]
  by_cases h : x = n
  ·subst h;simp;omega
  ·have h2 : ¬ n = x := fun e => h e.symm
   simp [h,h2];omega
theorem hitN_com {a r : List Int} (h : r.Nodup) : hitN a r = comM a r := by
 induction a with
 | nil =>
  have : ∀ l : List Int,hitN [] l = 0 := fun l => by
   induction l with
   | nil => rfl
   | cons n t ih => rw [hitN,ih];rfl
  rw [this];rfl
 | cons x t ih =>
  rw [hitN_cons,ih]
  unfold comM
  rw [List.countP_cons]
  by_cases hx : x ∈ r
  ·have h1 : r.count x = 1 := by
    have := List.nodup_iff_count.1 h x
    have := List.count_pos_iff.2 hx
    omega
   rw [h1];simp [hx]
  ·rw [List.count_eq_zero.2 hx];simp [hx]
theorem order_lt {lo hi : Int} {p : Option Int} {l : List Int} (h : orderE true lo hi p l = 0) : (∀ q,p = some q → ∀ x ∈ l,q < x) ∧ l.Pairwise (· < ·) := by
 induction l generalizing p with
 | nil => exact ⟨fun _ _ x hx => absurd hx List.not_mem_nil,List.Pairwise.nil⟩
 | cons y r ih =>
  rw [orderE] at h
  split at h
  ·exact absurd h (by decide)
  ·split at h
   ·exact absurd h (by decide)
   ·rename_i h1 h2
    have h3 := ih h
    refine ⟨fun q hq x hx => ?_,List.pairwise_cons.2 ⟨fun x hx => h3.1 y rfl x hx,h3.2⟩⟩
    have h4 : q < y := Int.not_le.1 fun hc => h2 ⟨rfl,q,hq,hc⟩
    rcases List.mem_cons.1 hx with rfl | hx
    ·exact h4
    ·have := h3.1 y rfl x hx;omega
theorem order_nodup {lo hi : Int} {p : Option Int} {l : List Int} (h : orderE true lo hi p l = 0) : l.Nodup := (order_lt h).2.imp (fun h => by omega)
def candD (a b : List Int) : Prop := ∃ i,i < b.length ∧ (a[i]? = b[0]? ∨ (i + 1 = b.length ∧ a[i]? = b[i]?))
theorem digM_cand {mode n : Int} {a b : List Int} (hb : b ≠ []) (h : digM mode n a b = true) : candD a b := by
 unfold digM at h
 have hpos : 0 < b.length := List.length_pos_iff.2 hb
 by_cases hl : b.length ≠ a.length
 ·rw [if_pos hl] at h;cases h
 rw [if_neg hl] at h
 have hl := Decidable.not_not.1 hl
 by_cases h2 : mode = 2
 ·rw [if_pos h2] at h
  have h3 := of_decide_eq_true h
  have hp : a.Perm b := (sortI_perm a).symm.trans (h3 ▸ sortI_perm b)
  have hm : b[0] ∈ a := hp.mem_iff.2 (List.getElem_mem hpos)
  obtain ⟨i,hi,he⟩ := List.getElem_of_mem hm
  exact ⟨i,by omega,.inl (by rw [List.getElem?_eq_getElem hi,List.getElem?_eq_getElem hpos,he])⟩
 rw [if_neg h2] at h
 by_cases h3 : mode = 3 ∨ mode = 4
 ·rw [if_pos h3] at h
  by_cases h4 : n < 1 ∨ (a.length : Int) < n
  ·rw [if_pos h4] at h;cases h
  rw [if_neg h4] at h
  by_cases h5 : mode = 3
  ·rw [if_pos h5] at h
   have h6 := congrArg (fun l : List Int => l[0]?) (of_decide_eq_true h)
   simp only [List.getElem?_take] at h6
   rw [if_pos (by omega),if_pos (by omega)] at h6
   exact ⟨0,hpos,.inl h6⟩
  ·rw [if_neg h5] at h
   have h6 := congrArg (fun l : List Int => l[n.toNat - 1]?) (of_decide_eq_true h)
   simp only [List.getElem?_drop] at h6
   rw [show a.length - n.toNat + (n.toNat - 1) = b.length - 1 by omega] at h6
   exact ⟨b.length - 1,by omega,.inr ⟨by omega,h6⟩⟩
 rw [if_neg h3] at h
 by_cases h4 : mode = 1
 ·rw [if_pos h4] at h
  have h5 := of_decide_eq_true h
  subst h5
  exact ⟨0,hpos,.inl rfl⟩
 ·rw [if_neg h4] at h;cases h
def winE (g : GameD) (r : ResD) (e : EntD) : Option WinD := if tierM g e.l r = -1 then none else some ⟨e.ticket,e.line,tierM g e.l r⟩
def winsX (g : GameD) (r : ResD) (es : List EntD) : List WinD := es.filterMap (winE g r)
theorem tierGo_none {f : TierD → Bool} {l : List TierD} {i : Nat} (h : ∀ t ∈ l,f t = false) : tierGo f l i = -1 := by
 induction l generalizing i with
 | nil => rfl
 | cons t q ih => rw [tierGo,h t List.mem_cons_self,if_neg (by simp),ih fun t ht => h t (List.mem_cons_of_mem _ ht)]
theorem cand_none {g : GameD} {l : LineD} {r : ResD} (hk : g.kind = 2) (hr : r.main ≠ []) (h : ¬ candD l.1 r.main) : tierM g l r = -1 :=
 tierGo_none fun t ht => by
  unfold meetM;rw [if_pos hk]
  cases hd : digM t.mode t.main l.1 r.main with
  | false => rfl
  | true => exact absurd (digM_cand hr hd) h
def ltK (a b : Int × Int) : Prop := a.1 < b.1 ∨ a.1 = b.1 ∧ a.2 < b.2
instance (a b : Int × Int) : Decidable (ltK a b) := by unfold ltK;exact inferInstance
def keyD (e : EntD) : Int × Int := (e.ticket,e.line)
def keyW (w : WinD) : Int × Int := (w.ticket,w.line)
theorem ltK_trans {a b c : Int × Int} (h : ltK a b) (k : ltK b c) : ltK a c := by unfold ltK at *;omega
theorem ltK_irrefl {a : Int × Int} (h : ltK a a) : False := by unfold ltK at h;omega
theorem ltK_asymm {a b : Int × Int} (h : ltK a b) (k : ltK b a) : False := ltK_irrefl (ltK_trans h k)
def insE (e : EntD) : List EntD → List EntD
 | [] => [e]
 | x :: r => if ltK (keyD x) (keyD e) then x :: insE e r else e :: x :: r
theorem insE_perm (e : EntD) (l : List EntD) : (insE e l).Perm (e :: l) := by
 induction l with
 | nil => exact List.Perm.refl _
 | cons x r ih =>
  rw [insE]
  split
  ·exact (List.Perm.cons x ih).trans (List.Perm.swap e x r)
  ·exact List.Perm.refl _
theorem insE_sorted {e : EntD} {l : List EntD} (hs : l.Pairwise fun a b => ltK (keyD a) (keyD b)) (hn : ∀ x ∈ l,keyD x ≠ keyD e) : (insE e l).Pairwise fun a b => ltK (keyD a) (keyD b) := by
 induction l with
 | nil => exact List.pairwise_singleton _ _
 | cons x r ih =>
  have hs' := List.pairwise_cons.1 hs
  rw [insE]
  split
  ·rename_i hlt
   refine List.pairwise_cons.2 ⟨fun y hy => ?_,ih hs'.2 fun y hy => hn y (List.mem_cons_of_mem _ hy)⟩
   rcases List.mem_cons.1 ((insE_perm e r).mem_iff.1 hy) with rfl | hy
   ·exact hlt
   ·exact hs'.1 y hy
  ·rename_i hlt
   have hx : ltK (keyD e) (keyD x) := by
    have h1 := hn x List.mem_cons_self
    have h2 : ¬ ((keyD x).1 = (keyD e).1 ∧ (keyD x).2 = (keyD e).2) := fun h => h1 (Prod.ext h.1 h.2)
    unfold ltK at hlt ⊢
    omega
   refine List.pairwise_cons.2 ⟨fun y hy => ?_,hs⟩
   rcases List.mem_cons.1 hy with rfl | hy
   ·exact hx
   ·exact ltK_trans hx (hs'.1 y hy)
def sortE (es : List EntD) : List EntD := es.foldl (fun l e => insE e l) []
theorem foldE_perm (es l : List EntD) : (es.foldl (fun l e => insE e l) l).Perm (es ++ l) := by
 induction es generalizing l with
 | nil => exact List.Perm.refl _
 | cons e r ih =>
  rw [List.foldl_cons]
  exact (ih (insE e l)).trans (((insE_perm e l).append_left r).trans List.perm_middle)
theorem sortE_perm (es : List EntD) : (sortE es).Perm es := by have := foldE_perm es [];rwa [List.append_nil] at this
theorem sortE_snoc (es : List EntD) (e : EntD) : sortE (es ++ [e]) = insE e (sortE es) := by unfold sortE;rw [List.foldl_append];rfl
def DiffK (es : List EntD) : Prop := es.Pairwise fun a b => keyD a ≠ keyD b
theorem sortE_sorted {es : List EntD} (h : DiffK es) : (sortE es).Pairwise fun a b => ltK (keyD a) (keyD b) := by
 suffices H : ∀ (n : Nat) (a : List EntD),a.length = n → DiffK a → (sortE a).Pairwise fun a b => ltK (keyD a) (keyD b) from H _ es rfl h
 intro n
 induction n with
 | zero => intro a ha _;rw [List.eq_nil_of_length_eq_zero ha];exact List.Pairwise.nil
 | succ n ih =>
  intro a ha hd
  have hne : a ≠ [] := fun h => by rw [h] at ha;cases ha
  rw [← List.dropLast_concat_getLast hne] at hd ⊢
  have hd' := List.pairwise_append.1 hd
  rw [sortE_snoc]
  exact insE_sorted (ih _ (by rw [List.length_dropLast,ha];rfl) hd'.1) fun x hx => hd'.2.2 x ((sortE_perm _).mem_iff.1 hx) _ (List.mem_singleton.2 rfl)
theorem winE_key {g : GameD} {r : ResD} {e : EntD} {w : WinD} (h : winE g r e = some w) : keyW w = keyD e := by
 unfold winE at h
 split at h
 ·cases h
 ·injection h with h;subst h;rfl
theorem winsX_sorted {g : GameD} {r : ResD} {es : List EntD} (h : es.Pairwise fun a b => ltK (keyD a) (keyD b)) : (winsX g r es).Pairwise fun a b => ltK (keyW a) (keyW b) := by
 unfold winsX
 rw [List.pairwise_filterMap]
 refine h.imp fun hab b hb b' hb' => ?_
 rw [winE_key hb,winE_key hb'];exact hab
theorem wins_unique {a b : List WinD} (hp : a.Perm b) (ha : a.Pairwise fun x y => ltK (keyW x) (keyW y)) (hb : b.Pairwise fun x y => ltK (keyW x) (keyW y)) : a = b :=
 List.Perm.eq_of_pairwise (fun x y _ _ h1 h2 => (ltK_asymm h1 h2).elim) ha hb hp
theorem wins_sorted {g : GameD} {r : ResD} {es : List EntD} {a : List WinD} (hd : DiffK es) (hp : a.Perm (winsX g r es)) (ha : a.Pairwise fun x y => ltK (keyW x) (keyW y)) : a = winsX g r (sortE es) :=
 wins_unique (hp.trans ((sortE_perm es).symm.filterMap _)) ha (winsX_sorted (sortE_sorted hd))
def addX (g : GameD) (es : List EntD) (d : EntD) : Int :=
 if d.ticket < 0 ∨ d.line < 0 then 2 else if lineE g d.l.1 d.l.2 ≠ 0 then lineE g d.l.1 d.l.2 else if keyD d ∈ es.map keyD then 6 else 0
def putX (g : GameD) (es : List EntD) (d : EntD) : List EntD := if addX g es d = 0 then es ++ [d] else es
def buildX (g : GameD) (ds : List EntD) : List EntD := ds.foldl (putX g) []
def OkD (g : GameD) (d : EntD) : Prop := 0 ≤ d.ticket ∧ 0 ≤ d.line ∧ lineE g d.l.1 d.l.2 = 0
theorem addX_ok {g : GameD} {es : List EntD} {d : EntD} : addX g es d = 0 ↔ OkD g d ∧ ∀ x ∈ es,keyD x ≠ keyD d := by
 unfold addX OkD
 by_cases h1 : d.ticket < 0 ∨ d.line < 0
 ·rw [if_pos h1];constructor
  ·intro h;cases h
  ·intro h;omega
 rw [if_neg h1]
 by_cases h2 : lineE g d.l.1 d.l.2 = 0
 ·rw [if_neg (by simpa using h2)]
  by_cases h3 : keyD d ∈ es.map keyD
  ·rw [if_pos h3]
   obtain ⟨x,hx,he⟩ := List.mem_map.1 h3
   exact ⟨fun h => absurd h (by decide),fun h => absurd he (h.2 x hx)⟩
  ·rw [if_neg h3]
   exact ⟨fun _ => ⟨⟨by omega,by omega,h2⟩,fun x hx he => h3 (List.mem_map.2 ⟨x,hx,he⟩)⟩,fun _ => rfl⟩
 ·rw [if_pos h2]
  exact ⟨fun h => absurd h h2,fun h => absurd h.1.2.2 h2⟩
theorem diff_snoc {es : List EntD} {d : EntD} (h : DiffK es) (hn : ∀ x ∈ es,keyD x ≠ keyD d) : DiffK (es ++ [d]) :=
 List.pairwise_append.2 ⟨h,List.pairwise_singleton _ _,fun x hx y hy => by rw [List.mem_singleton.1 hy];exact hn x hx⟩
theorem put_facts {g : GameD} {es : List EntD} {d : EntD} (h : DiffK es) (ho : ∀ x ∈ es,OkD g x) : DiffK (putX g es d) ∧ ∀ x ∈ putX g es d,OkD g x := by
 unfold putX
 split
 ·rename_i he
  have h1 := addX_ok.1 he
  refine ⟨diff_snoc h h1.2,fun x hx => ?_⟩
  rcases List.mem_append.1 hx with hx | hx
  ·exact ho x hx
  ·rw [List.mem_singleton.1 hx];exact h1.1
 ·exact ⟨h,ho⟩
theorem fold_facts {g : GameD} (ds es : List EntD) (h : DiffK es) (ho : ∀ x ∈ es,OkD g x) : DiffK (ds.foldl (putX g) es) ∧ ∀ x ∈ ds.foldl (putX g) es,OkD g x := by
 induction ds generalizing es with
 | nil => exact ⟨h,ho⟩
 | cons d r ih => have h1 := put_facts (d := d) h ho;exact ih _ h1.1 h1.2
theorem build_diff (g : GameD) (ds : List EntD) : DiffK (buildX g ds) := (fold_facts ds [] List.Pairwise.nil fun x hx => absurd hx List.not_mem_nil).1
theorem build_snoc (g : GameD) (ds : List EntD) (d : EntD) : buildX g (ds ++ [d]) = putX g (buildX g ds) d := by unfold buildX;rw [List.foldl_append];rfl
theorem wins_le (g : GameD) (r : ResD) (es : List EntD) : (winsX g r es).length ≤ es.length := List.length_filterMap_le _ _
def formE (g : GameD) (e : EntD) : EntD := { e with l := formG g e.l }
theorem comM_perm {a b c : List Int} (h : a.Perm b) : comM a c = comM b c := by unfold comM;exact h.countP_eq _
theorem tierM_form (g : GameD) (l : LineD) (r : ResD) : tierM g (formG g l) r = tierM g l r := by
 unfold tierM
 have h : meetM g (formG g l) r = meetM g l r := by
  funext t
  unfold meetM formG
  by_cases hk : g.kind = 2
  ·rw [if_pos hk,if_pos hk,if_pos hk]
  ·rw [if_neg hk,if_neg hk,if_neg hk,comM_perm (sortI_perm l.1),comM_perm (sortI_perm l.2),comM_perm (sortI_perm l.1)]
 rw [h]
theorem winE_form (g : GameD) (r : ResD) (e : EntD) : winE g r (formE g e) = winE g r e := by
 unfold winE formE
 simp only [tierM_form]
theorem winsX_form (g : GameD) (r : ResD) (es : List EntD) : winsX g r (es.map (formE g)) = winsX g r es := by
 unfold winsX
 rw [List.filterMap_map]
 congr 1
 funext e
 exact winE_form g r e
theorem insE_form (g : GameD) (e : EntD) (l : List EntD) : insE (formE g e) (l.map (formE g)) = (insE e l).map (formE g) := by
 induction l with
 | nil => rfl
 | cons x r ih =>
  rw [List.map_cons,insE,insE]
  have hk : ∀ y,keyD (formE g y) = keyD y := fun y => rfl
  rw [hk,hk]
  split
  ·rw [ih];rfl
  ·rfl
end Go.Proofs.YtmocomkobbiflaaGreat
end
section
open Go.RowKit
set_option linter.unusedVariables false
set_option linter.unusedSimpArgs false
namespace Go.Proofs.YtmocomkobbiflaaGreat
structure DoM where
 d : EntD
 mv : Value
 bv : Value
def DoM.cells (m : DoM) : List Value := [.int .i64 m.d.ticket,.int .i64 m.d.line,m.mv,m.bv]
theorem do_len (m : DoM) : m.cells.length = 4 := rfl
def DoR (w : World) (m : DoM) : Prop := LineR w m.mv m.bv m.d.l.1 m.d.l.2 ∧ InI m.d.ticket ∧ InI m.d.line
def DosR (w : World) (v : Value) (ms : List DoM) : Prop := RdS 4 DoM.cells w v ms ∧ ∀ m ∈ ms,DoR w m
theorem DosR.below {w w' : World} {v : Value} {ms : List DoM} (h : DosR w v ms) (hb : Below w.heap.size w w') : DosR w' v ms := ⟨h.1.below hb,fun m hm => ⟨(h.2 m hm).1.below hb,(h.2 m hm).2⟩⟩
end Go.Proofs.YtmocomkobbiflaaGreat
end
section
open Go.ChangeShapes Go.WideShapes Go.RowKit
set_option linter.unusedVariables false
namespace Go.Proofs.YtmocomkobbiflaaGreat
theorem rd_trod {H : Type} {enc : TypeId × Value → H} {P : Program} {w : World} {base : Nat} {spare : Nat → Bool} {held : Bool} {t e : TypeId} {k : IntKind} {ao : Option Addr} {len cap : Nat} {d : DataW H} {ps : List MemPlace}
  (ht : P.underlying t = some (.slice e)) (he : P.underlying e = some (.int k)) (hc : P.cellsOf e = 1) (h : DataW.Trod enc P w base spare held t (.slice ao len cap) d ps) :
  ∃ zs : List Int,Rd (fun x => .int k x) w (.slice ao len cap) zs ∧ ∀ z ∈ zs,(Lit.int k z).wf = true := by
 obtain ⟨fuel,hf⟩ := h
 rcases open_ints ht he hc hf with ⟨hcs,hx⟩ | ⟨a,len',cap',zs,hcs,_,hle,hmax,hall,hx,hcell,hwf⟩
 ·simp [Value.cells] at hcs
  obtain ⟨rfl,rfl,rfl⟩ := hcs
  exact ⟨[],Rd.nil,fun z hz => by simp at hz⟩
 ·simp [Value.cells] at hcs
  obtain ⟨rfl,rfl,rfl⟩ := hcs
  have hzl : len ≤ zs.length := by rw [hall];split <;> omega
  have hl : (zs.take len).length = len := by rw [List.length_take];omega
  refine ⟨zs.take len,⟨some a,cap,by rw [hl],by omega,hmax,fun hp => ?_⟩,fun z hz => hwf z (List.mem_of_mem_take hz)⟩
  rw [hl] at hp
  obtain ⟨b,off,rfl,hat⟩ := Go.ints_at hcell (by omega)
  refine ⟨b,off,rfl,World.block_lt_of_cell? w _ (hat 0 (by omega)),fun i x hx => ?_⟩
  rw [List.getElem?_take] at hx
  split at hx
  ·rw [hat i (by omega)]
   rw [List.getD_eq_getElem?_getD,hx];rfl
  ·cases hx
theorem rd_of_trod {H : Type} {enc : TypeId × Value → H} {P : Program} {w : World} {base : Nat} {spare : Nat → Bool} {held : Bool} {t e : TypeId} {ao : Option Addr} {len cap : Nat} {d : DataW H} {ps : List MemPlace}
  (ht : P.underlying t = some (.slice e)) (he : P.underlying e = some (.int .i64)) (hc : P.cellsOf e = 1) (h : DataW.Trod enc P w base spare held t (.slice ao len cap) d ps) :
  ∃ zs : List Int,Rd I64 w (.slice ao len cap) zs := by
 obtain ⟨zs,h,-⟩ := rd_trod ht he hc h
 exact ⟨zs,h⟩
end Go.Proofs.YtmocomkobbiflaaGreat
end
section
open Go.ChangeShapes Go.WideShapes Go.RowKit
set_option linter.unusedVariables false
set_option linter.unusedSimpArgs false
namespace Go.Proofs.YtmocomkobbiflaaGreat
section
variable {H : Type} {enc : TypeId × Value → H} {w : World} {base : Nat} {spare : Nat → Bool} {held : Bool}
instance : Inhabited TierD := ⟨⟨0,0,0,0,0,0⟩⟩
instance : Inhabited AddonM := ⟨⟨⟨ByteArray.empty,0,0,[],0,[]⟩,.slice none 0 0,.slice none 0 0⟩⟩
theorem slice_cell {P : Program} {t e : TypeId} {n : Nat} {c : Value} {x : DataW H × List MemPlace} (ht : P.underlying t = some (.slice e)) (h : DataW.trod enc P w base spare held n t [c] = some x) : ∃ ao k cap,c = .slice ao k cap := by
 rcases DataW.trod_slice ht h with ⟨h0,-⟩ | ⟨a,len,cap,elems,rest,m,-,h0,-⟩
 ·injection h0 with h0 _;exact ⟨_,_,_,h0⟩
 ·injection h0 with h0 _;exact ⟨_,_,_,h0⟩
theorem tier_trod {n : Nat} {l : List Value} {x : DataW H × List MemPlace} (h : DataW.trod enc Tryz.prog w base spare held n 82 l = some x) : ∃ t : TierD,l = tierCells t := by
 obtain ⟨xs,m,-,-,hl,hxl,hx⟩ := DataW.trod_struct Tryz.underlying82 h
 rw [show Tryz.prog.cellsOf 82 = 6 by kernel_rfl] at hl
 have hxl' : xs.length = 6 := hxl
 have hc : Tryz.prog.cellsOf 3 = 1 := by kernel_rfl
 rcases l with _ | ⟨c0,l⟩
 ·simp at hl
 rcases l with _ | ⟨c1,l⟩
 ·simp at hl
 rcases l with _ | ⟨c2,l⟩
 ·simp at hl
 rcases l with _ | ⟨c3,l⟩
 ·simp at hl
 rcases l with _ | ⟨c4,l⟩
 ·simp at hl
 rcases l with _ | ⟨c5,l⟩
 ·simp at hl
 rcases l with _ | ⟨cx,l⟩
 rotate_left
 ·simp at hl
 have f0 : DataW.trod enc Tryz.prog w base spare held m 3 (([c0,c1,c2,c3,c4,c5].drop 0).take (Tryz.prog.cellsOf 3)) = xs[0]? := hx 0 _ rfl
 rw [hc,List.getElem?_eq_getElem (by omega)] at f0
 replace f0 : DataW.trod enc Tryz.prog w base spare held m 3 [c0] = some xs[0] := f0
 have f1 : DataW.trod enc Tryz.prog w base spare held m 3 (([c0,c1,c2,c3,c4,c5].drop 1).take (Tryz.prog.cellsOf 3)) = xs[1]? := hx 1 _ rfl
 rw [hc,List.getElem?_eq_getElem (by omega)] at f1
 replace f1 : DataW.trod enc Tryz.prog w base spare held m 3 [c1] = some xs[1] := f1
 have f2 : DataW.trod enc Tryz.prog w base spare held m 3 (([c0,c1,c2,c3,c4,c5].drop 2).take (Tryz.prog.cellsOf 3)) = xs[2]? := hx 2 _ rfl
 rw [hc,List.getElem?_eq_getElem (by omega)] at f2
 replace f2 : DataW.trod enc Tryz.prog w base spare held m 3 [c2] = some xs[2] := f2
 have f3 : DataW.trod enc Tryz.prog w base spare held m 3 (([c0,c1,c2,c3,c4,c5].drop 3).take (Tryz.prog.cellsOf 3)) = xs[3]? := hx 3 _ rfl
 rw [hc,List.getElem?_eq_getElem (by omega)] at f3
 replace f3 : DataW.trod enc Tryz.prog w base spare held m 3 [c3] = some xs[3] := f3
 have f4 : DataW.trod enc Tryz.prog w base spare held m 3 (([c0,c1,c2,c3,c4,c5].drop 4).take (Tryz.prog.cellsOf 3)) = xs[4]? := hx 4 _ rfl
 rw [hc,List.getElem?_eq_getElem (by omega)] at f4
 replace f4 : DataW.trod enc Tryz.prog w base spare held m 3 [c4] = some xs[4] := f4
 have f5 : DataW.trod enc Tryz.prog w base spare held m 3 (([c0,c1,c2,c3,c4,c5].drop 5).take (Tryz.prog.cellsOf 3)) = xs[5]? := hx 5 _ rfl
 rw [hc,List.getElem?_eq_getElem (by omega)] at f5
 replace f5 : DataW.trod enc Tryz.prog w base spare held m 3 [c5] = some xs[5] := f5
 obtain ⟨a0,e0,-,-⟩ := DataW.trod_int Tryz.underlying3 f0
 injection e0 with e0 _
 subst e0
 obtain ⟨a1,e1,-,-⟩ := DataW.trod_int Tryz.underlying3 f1
 injection e1 with e1 _
 subst e1
 obtain ⟨a2,e2,-,-⟩ := DataW.trod_int Tryz.underlying3 f2
 injection e2 with e2 _
 subst e2
 obtain ⟨a3,e3,-,-⟩ := DataW.trod_int Tryz.underlying3 f3
 injection e3 with e3 _
 subst e3
 obtain ⟨a4,e4,-,-⟩ := DataW.trod_int Tryz.underlying3 f4
 injection e4 with e4 _
 subst e4
 obtain ⟨a5,e5,-,-⟩ := DataW.trod_int Tryz.underlying3 f5
 injection e5 with e5 _
 subst e5
 exact ⟨⟨a0,a1,a2,a3,a4,a5⟩,rfl⟩
theorem addon_trod {n : Nat} {l : List Value} {x : DataW H × List MemPlace} (h : DataW.trod enc Tryz.prog w base spare held n 85 l = some x) : ∃ m : AddonM,l = m.cells ∧ AddonR w m := by
 obtain ⟨xs,m,-,-,hl,hxl,hx⟩ := DataW.trod_struct Tryz.underlying85 h
 rw [show Tryz.prog.cellsOf 85 = 6 by kernel_rfl] at hl
 have hxl' : xs.length = 6 := hxl
 have hc : Tryz.prog.cellsOf 3 = 1 := by kernel_rfl
 have hcs : Tryz.prog.cellsOf 9 = 1 := by kernel_rfl
 have hcl : Tryz.prog.cellsOf 27 = 1 := by kernel_rfl
 rcases l with _ | ⟨c0,l⟩
 ·simp at hl
 rcases l with _ | ⟨c1,l⟩
 ·simp at hl
 rcases l with _ | ⟨c2,l⟩
 ·simp at hl
 rcases l with _ | ⟨c3,l⟩
 ·simp at hl
 rcases l with _ | ⟨c4,l⟩
 ·simp at hl
 rcases l with _ | ⟨c5,l⟩
 ·simp at hl
 rcases l with _ | ⟨cx,l⟩
 rotate_left
 ·simp at hl
 have f0 : DataW.trod enc Tryz.prog w base spare held m 9 (([c0,c1,c2,c3,c4,c5].drop 0).take (Tryz.prog.cellsOf 9)) = xs[0]? := hx 0 _ rfl
 rw [hcs,List.getElem?_eq_getElem (by omega)] at f0
 replace f0 : DataW.trod enc Tryz.prog w base spare held m 9 [c0] = some xs[0] := f0
 have f1 : DataW.trod enc Tryz.prog w base spare held m 3 (([c0,c1,c2,c3,c4,c5].drop 1).take (Tryz.prog.cellsOf 3)) = xs[1]? := hx 1 _ rfl
 rw [hc,List.getElem?_eq_getElem (by omega)] at f1
 replace f1 : DataW.trod enc Tryz.prog w base spare held m 3 [c1] = some xs[1] := f1
 have f2 : DataW.trod enc Tryz.prog w base spare held m 3 (([c0,c1,c2,c3,c4,c5].drop 2).take (Tryz.prog.cellsOf 3)) = xs[2]? := hx 2 _ rfl
 rw [hc,List.getElem?_eq_getElem (by omega)] at f2
 replace f2 : DataW.trod enc Tryz.prog w base spare held m 3 [c2] = some xs[2] := f2
 have f3 : DataW.trod enc Tryz.prog w base spare held m 27 (([c0,c1,c2,c3,c4,c5].drop 3).take (Tryz.prog.cellsOf 27)) = xs[3]? := hx 3 _ rfl
 rw [hcl,List.getElem?_eq_getElem (by omega)] at f3
 replace f3 : DataW.trod enc Tryz.prog w base spare held m 27 [c3] = some xs[3] := f3
 have f4 : DataW.trod enc Tryz.prog w base spare held m 3 (([c0,c1,c2,c3,c4,c5].drop 4).take (Tryz.prog.cellsOf 3)) = xs[4]? := hx 4 _ rfl
 rw [hc,List.getElem?_eq_getElem (by omega)] at f4
 replace f4 : DataW.trod enc Tryz.prog w base spare held m 3 [c4] = some xs[4] := f4
 have f5 : DataW.trod enc Tryz.prog w base spare held m 27 (([c0,c1,c2,c3,c4,c5].drop 5).take (Tryz.prog.cellsOf 27)) = xs[5]? := hx 5 _ rfl
 rw [hcl,List.getElem?_eq_getElem (by omega)] at f5
 replace f5 : DataW.trod enc Tryz.prog w base spare held m 27 [c5] = some xs[5] := f5
 obtain ⟨a0,e0,-,-⟩ := DataW.trod_string Tryz.underlying9 f0
 injection e0 with e0 _
 subst e0
 obtain ⟨a1,e1,-,-⟩ := DataW.trod_int Tryz.underlying3 f1
 injection e1 with e1 _
 subst e1
 obtain ⟨a2,e2,-,-⟩ := DataW.trod_int Tryz.underlying3 f2
 injection e2 with e2 _
 subst e2
 obtain ⟨b3,n3,d3,e3⟩ := slice_cell Tryz.underlying27 f3
 subst e3
 obtain ⟨z3,r3⟩ := rd_of_trod Tryz.underlying27 Tryz.underlying3 hc ⟨_,show DataW.trod enc Tryz.prog w base spare held m 27 [.slice b3 n3 d3] = some (xs[3].1,xs[3].2) from f3⟩
 obtain ⟨a4,e4,-,-⟩ := DataW.trod_int Tryz.underlying3 f4
 injection e4 with e4 _
 subst e4
 obtain ⟨b5,n5,d5,e5⟩ := slice_cell Tryz.underlying27 f5
 subst e5
 obtain ⟨z5,r5⟩ := rd_of_trod Tryz.underlying27 Tryz.underlying3 hc ⟨_,show DataW.trod enc Tryz.prog w base spare held m 27 [.slice b5 n5 d5] = some (xs[5].1,xs[5].2) from f5⟩
 exact ⟨⟨⟨a0,a1,a2,z3,a4,z5⟩,.slice b3 n3 d3,.slice b5 n5 d5⟩,rfl,r3,r5⟩
theorem add_spot (b o k : Nat) : (⟨b,o,none⟩ : Addr).add k = ⟨b,o + k,none⟩ := by unfold Addr.add;split <;> simp_all
theorem rds_trod {α : Type} [Inhabited α] {P : Program} {V : α → List Value} {Q : α → Prop} {sz : Nat} {t e : TypeId} {n : Nat} {c : Value} {x : DataW H × List MemPlace} (ht : P.underlying t = some (.slice e)) (hc : P.cellsOf e = sz) (hpos : 0 < sz) (hlV : ∀ y,(V y).length = sz)
  (hV : ∀ n l x,DataW.trod enc P w base spare held n e l = some x → ∃ y,l = V y ∧ Q y) (h : DataW.trod enc P w base spare held n t [c] = some x) : ∃ l,RdS sz V w c l ∧ ∀ (i : Nat) y,l[i]? = some y → Q y := by
 rcases Go.Deep.open_slice ht h with ⟨h0,-⟩ | ⟨a,len,cap,m,n',D,Pl,h0,hb,hlc,hcm,hm,-,hx⟩
 ·injection h0 with h0 _
  subst h0
  exact ⟨[],⟨none,0,rfl,Nat.le_refl _,Nat.zero_le _,fun hp => absurd hp (by simp)⟩,fun i y hy => by simp at hy⟩
 ·injection h0 with h0 _
  subst h0
  have hml : len ≤ m := by rw [hm];split <;> omega
  have hall : ∀ i,i < len → ∃ y,Q y ∧ w.cells? base (a.add (i * sz)) sz = some (V y) := by
   intro i hi
   obtain ⟨cs',h1,h2⟩ := hx i (by omega)
   rw [hc] at h1
   obtain ⟨y,rfl,hq⟩ := hV _ _ _ h2
   exact ⟨y,hq,h1⟩
  obtain ⟨T,hT⟩ := Go.Deep.choose_lt hall
  refine ⟨(List.range len).map T,⟨some a,cap,by simp,by simpa using hlc,hcm,fun hp => ?_⟩,?_⟩
  ·have hl0 : 0 < len := by simpa using hp
   obtain ⟨b,o,spot⟩ := a
   obtain ⟨-,hlen0,hcell0⟩ := World.cells?_some (hT 0 hl0).2
   have hsp : spot = none := by
    have h00 := hcell0 0 hpos
    rw [List.getElem?_eq_getElem (by rw [hlV];exact hpos)] at h00
    simpa [Addr.add] using World.cell?_spot h00
   subst hsp
   have hcell : ∀ i,i < len → ∀ j,j < sz → w.cell? ⟨b,o + i * sz + j,none⟩ = (V (T i))[j]? := by
    intro i hi j hj
    obtain ⟨-,-,hcelli⟩ := World.cells?_some (hT i hi).2
    have := hcelli j hj
    rwa [add_spot,add_spot] at this
   refine ⟨b,o,rfl,?_,?_⟩
   ·have h00 := hcell 0 hl0 0 hpos
    rw [List.getElem?_eq_getElem (by rw [hlV];exact hpos)] at h00
    exact World.block_lt_of_cell? w _ h00
   ·intro i y hy j u hu
    rw [List.getElem?_map] at hy
    have hi : i < len := by
     rcases Nat.lt_or_ge i len with h | h
     ·exact h
     ·rw [List.getElem?_eq_none (by simpa using h)] at hy;cases hy
    rw [List.getElem?_range hi] at hy
    injection hy with hy
    subst hy
    have hj : j < sz := by
     rw [← hlV (T i)]
     exact (List.getElem?_eq_some_iff.1 hu).1
    rw [hcell i hi j hj]
    exact hu
  ·intro i y hy
   rw [List.getElem?_map] at hy
   have hi : i < len := by
    rcases Nat.lt_or_ge i len with h | h
    ·exact h
    ·rw [List.getElem?_eq_none (by simpa using h)] at hy;cases hy
   rw [List.getElem?_range hi] at hy
   injection hy with hy
   subst hy
   exact (hT i hi).1
theorem game_trod {cs : Array Value} {d : DataW H} {ps : List MemPlace} (h : DataW.Trod enc Tryz.prog w base spare held 25 (.agg cs) d ps) : ∃ g av tv ms,Value.agg cs = gameVal g av tv ∧ GameR w av tv ms g := by
 obtain ⟨fuel,hf⟩ := h
 obtain ⟨l⟩ := cs
 have hf' : DataW.trod enc Tryz.prog w base spare held fuel 25 l = some (d,ps) := by simpa [Value.cells] using hf
 obtain ⟨xs,m,-,-,hl,hxl,hx⟩ := DataW.trod_struct Tryz.underlying25 hf'
 rw [show Tryz.prog.cellsOf 25 = 22 by kernel_rfl] at hl
 have hxl' : xs.length = 22 := hxl
 clear hf hf'
 have hc : Tryz.prog.cellsOf 3 = 1 := by kernel_rfl
 have hcs : Tryz.prog.cellsOf 9 = 1 := by kernel_rfl
 have hca : Tryz.prog.cellsOf 22 = 1 := by kernel_rfl
 have hct : Tryz.prog.cellsOf 23 = 1 := by kernel_rfl
 rcases l with _ | ⟨c0,l⟩
 ·simp at hl
 rcases l with _ | ⟨c1,l⟩
 ·simp at hl
 rcases l with _ | ⟨c2,l⟩
 ·simp at hl
 rcases l with _ | ⟨c3,l⟩
 ·simp at hl
 rcases l with _ | ⟨c4,l⟩
 ·simp at hl
 rcases l with _ | ⟨c5,l⟩
 ·simp at hl
 rcases l with _ | ⟨c6,l⟩
 ·simp at hl
 rcases l with _ | ⟨c7,l⟩
 ·simp at hl
 rcases l with _ | ⟨c8,l⟩
 ·simp at hl
 rcases l with _ | ⟨c9,l⟩
 ·simp at hl
 rcases l with _ | ⟨c10,l⟩
 ·simp at hl
 rcases l with _ | ⟨c11,l⟩
 ·simp at hl
 rcases l with _ | ⟨c12,l⟩
 ·simp at hl
 rcases l with _ | ⟨c13,l⟩
 ·simp at hl
 rcases l with _ | ⟨c14,l⟩
 ·simp at hl
 rcases l with _ | ⟨c15,l⟩
 ·simp at hl
 rcases l with _ | ⟨c16,l⟩
 ·simp at hl
 rcases l with _ | ⟨c17,l⟩
 ·simp at hl
 rcases l with _ | ⟨c18,l⟩
 ·simp at hl
 rcases l with _ | ⟨c19,l⟩
 ·simp at hl
 rcases l with _ | ⟨c20,l⟩
 ·simp at hl
 rcases l with _ | ⟨c21,l⟩
 ·simp at hl
 rcases l with _ | ⟨cx,l⟩
 rotate_left
 ·simp at hl
 have f0 : DataW.trod enc Tryz.prog w base spare held m 9 (([c0,c1,c2,c3,c4,c5,c6,c7,c8,c9,c10,c11,c12,c13,c14,c15,c16,c17,c18,c19,c20,c21].drop 0).take (Tryz.prog.cellsOf 9)) = xs[0]? := hx 0 _ rfl
 rw [hcs,List.getElem?_eq_getElem (by omega)] at f0
 replace f0 : DataW.trod enc Tryz.prog w base spare held m 9 [c0] = some xs[0] := f0
 have f1 : DataW.trod enc Tryz.prog w base spare held m 3 (([c0,c1,c2,c3,c4,c5,c6,c7,c8,c9,c10,c11,c12,c13,c14,c15,c16,c17,c18,c19,c20,c21].drop 1).take (Tryz.prog.cellsOf 3)) = xs[1]? := hx 1 _ rfl
 rw [hc,List.getElem?_eq_getElem (by omega)] at f1
 replace f1 : DataW.trod enc Tryz.prog w base spare held m 3 [c1] = some xs[1] := f1
 have f2 : DataW.trod enc Tryz.prog w base spare held m 3 (([c0,c1,c2,c3,c4,c5,c6,c7,c8,c9,c10,c11,c12,c13,c14,c15,c16,c17,c18,c19,c20,c21].drop 2).take (Tryz.prog.cellsOf 3)) = xs[2]? := hx 2 _ rfl
 rw [hc,List.getElem?_eq_getElem (by omega)] at f2
 replace f2 : DataW.trod enc Tryz.prog w base spare held m 3 [c2] = some xs[2] := f2
 have f3 : DataW.trod enc Tryz.prog w base spare held m 3 (([c0,c1,c2,c3,c4,c5,c6,c7,c8,c9,c10,c11,c12,c13,c14,c15,c16,c17,c18,c19,c20,c21].drop 3).take (Tryz.prog.cellsOf 3)) = xs[3]? := hx 3 _ rfl
 rw [hc,List.getElem?_eq_getElem (by omega)] at f3
 replace f3 : DataW.trod enc Tryz.prog w base spare held m 3 [c3] = some xs[3] := f3
 have f4 : DataW.trod enc Tryz.prog w base spare held m 3 (([c0,c1,c2,c3,c4,c5,c6,c7,c8,c9,c10,c11,c12,c13,c14,c15,c16,c17,c18,c19,c20,c21].drop 4).take (Tryz.prog.cellsOf 3)) = xs[4]? := hx 4 _ rfl
 rw [hc,List.getElem?_eq_getElem (by omega)] at f4
 replace f4 : DataW.trod enc Tryz.prog w base spare held m 3 [c4] = some xs[4] := f4
 have f5 : DataW.trod enc Tryz.prog w base spare held m 3 (([c0,c1,c2,c3,c4,c5,c6,c7,c8,c9,c10,c11,c12,c13,c14,c15,c16,c17,c18,c19,c20,c21].drop 5).take (Tryz.prog.cellsOf 3)) = xs[5]? := hx 5 _ rfl
 rw [hc,List.getElem?_eq_getElem (by omega)] at f5
 replace f5 : DataW.trod enc Tryz.prog w base spare held m 3 [c5] = some xs[5] := f5
 have f6 : DataW.trod enc Tryz.prog w base spare held m 3 (([c0,c1,c2,c3,c4,c5,c6,c7,c8,c9,c10,c11,c12,c13,c14,c15,c16,c17,c18,c19,c20,c21].drop 6).take (Tryz.prog.cellsOf 3)) = xs[6]? := hx 6 _ rfl
 rw [hc,List.getElem?_eq_getElem (by omega)] at f6
 replace f6 : DataW.trod enc Tryz.prog w base spare held m 3 [c6] = some xs[6] := f6
 have f7 : DataW.trod enc Tryz.prog w base spare held m 3 (([c0,c1,c2,c3,c4,c5,c6,c7,c8,c9,c10,c11,c12,c13,c14,c15,c16,c17,c18,c19,c20,c21].drop 7).take (Tryz.prog.cellsOf 3)) = xs[7]? := hx 7 _ rfl
 rw [hc,List.getElem?_eq_getElem (by omega)] at f7
 replace f7 : DataW.trod enc Tryz.prog w base spare held m 3 [c7] = some xs[7] := f7
 have f8 : DataW.trod enc Tryz.prog w base spare held m 3 (([c0,c1,c2,c3,c4,c5,c6,c7,c8,c9,c10,c11,c12,c13,c14,c15,c16,c17,c18,c19,c20,c21].drop 8).take (Tryz.prog.cellsOf 3)) = xs[8]? := hx 8 _ rfl
 rw [hc,List.getElem?_eq_getElem (by omega)] at f8
 replace f8 : DataW.trod enc Tryz.prog w base spare held m 3 [c8] = some xs[8] := f8
 have f9 : DataW.trod enc Tryz.prog w base spare held m 3 (([c0,c1,c2,c3,c4,c5,c6,c7,c8,c9,c10,c11,c12,c13,c14,c15,c16,c17,c18,c19,c20,c21].drop 9).take (Tryz.prog.cellsOf 3)) = xs[9]? := hx 9 _ rfl
 rw [hc,List.getElem?_eq_getElem (by omega)] at f9
 replace f9 : DataW.trod enc Tryz.prog w base spare held m 3 [c9] = some xs[9] := f9
 have f10 : DataW.trod enc Tryz.prog w base spare held m 3 (([c0,c1,c2,c3,c4,c5,c6,c7,c8,c9,c10,c11,c12,c13,c14,c15,c16,c17,c18,c19,c20,c21].drop 10).take (Tryz.prog.cellsOf 3)) = xs[10]? := hx 10 _ rfl
 rw [hc,List.getElem?_eq_getElem (by omega)] at f10
 replace f10 : DataW.trod enc Tryz.prog w base spare held m 3 [c10] = some xs[10] := f10
 have f11 : DataW.trod enc Tryz.prog w base spare held m 3 (([c0,c1,c2,c3,c4,c5,c6,c7,c8,c9,c10,c11,c12,c13,c14,c15,c16,c17,c18,c19,c20,c21].drop 11).take (Tryz.prog.cellsOf 3)) = xs[11]? := hx 11 _ rfl
 rw [hc,List.getElem?_eq_getElem (by omega)] at f11
 replace f11 : DataW.trod enc Tryz.prog w base spare held m 3 [c11] = some xs[11] := f11
 have f12 : DataW.trod enc Tryz.prog w base spare held m 3 (([c0,c1,c2,c3,c4,c5,c6,c7,c8,c9,c10,c11,c12,c13,c14,c15,c16,c17,c18,c19,c20,c21].drop 12).take (Tryz.prog.cellsOf 3)) = xs[12]? := hx 12 _ rfl
 rw [hc,List.getElem?_eq_getElem (by omega)] at f12
 replace f12 : DataW.trod enc Tryz.prog w base spare held m 3 [c12] = some xs[12] := f12
 have f13 : DataW.trod enc Tryz.prog w base spare held m 3 (([c0,c1,c2,c3,c4,c5,c6,c7,c8,c9,c10,c11,c12,c13,c14,c15,c16,c17,c18,c19,c20,c21].drop 13).take (Tryz.prog.cellsOf 3)) = xs[13]? := hx 13 _ rfl
 rw [hc,List.getElem?_eq_getElem (by omega)] at f13
 replace f13 : DataW.trod enc Tryz.prog w base spare held m 3 [c13] = some xs[13] := f13
 have f14 : DataW.trod enc Tryz.prog w base spare held m 3 (([c0,c1,c2,c3,c4,c5,c6,c7,c8,c9,c10,c11,c12,c13,c14,c15,c16,c17,c18,c19,c20,c21].drop 14).take (Tryz.prog.cellsOf 3)) = xs[14]? := hx 14 _ rfl
 rw [hc,List.getElem?_eq_getElem (by omega)] at f14
 replace f14 : DataW.trod enc Tryz.prog w base spare held m 3 [c14] = some xs[14] := f14
 have f15 : DataW.trod enc Tryz.prog w base spare held m 3 (([c0,c1,c2,c3,c4,c5,c6,c7,c8,c9,c10,c11,c12,c13,c14,c15,c16,c17,c18,c19,c20,c21].drop 15).take (Tryz.prog.cellsOf 3)) = xs[15]? := hx 15 _ rfl
 rw [hc,List.getElem?_eq_getElem (by omega)] at f15
 replace f15 : DataW.trod enc Tryz.prog w base spare held m 3 [c15] = some xs[15] := f15
 have f16 : DataW.trod enc Tryz.prog w base spare held m 3 (([c0,c1,c2,c3,c4,c5,c6,c7,c8,c9,c10,c11,c12,c13,c14,c15,c16,c17,c18,c19,c20,c21].drop 16).take (Tryz.prog.cellsOf 3)) = xs[16]? := hx 16 _ rfl
 rw [hc,List.getElem?_eq_getElem (by omega)] at f16
 replace f16 : DataW.trod enc Tryz.prog w base spare held m 3 [c16] = some xs[16] := f16
 have f17 : DataW.trod enc Tryz.prog w base spare held m 3 (([c0,c1,c2,c3,c4,c5,c6,c7,c8,c9,c10,c11,c12,c13,c14,c15,c16,c17,c18,c19,c20,c21].drop 17).take (Tryz.prog.cellsOf 3)) = xs[17]? := hx 17 _ rfl
 rw [hc,List.getElem?_eq_getElem (by omega)] at f17
 replace f17 : DataW.trod enc Tryz.prog w base spare held m 3 [c17] = some xs[17] := f17
 have f18 : DataW.trod enc Tryz.prog w base spare held m 3 (([c0,c1,c2,c3,c4,c5,c6,c7,c8,c9,c10,c11,c12,c13,c14,c15,c16,c17,c18,c19,c20,c21].drop 18).take (Tryz.prog.cellsOf 3)) = xs[18]? := hx 18 _ rfl
 rw [hc,List.getElem?_eq_getElem (by omega)] at f18
 replace f18 : DataW.trod enc Tryz.prog w base spare held m 3 [c18] = some xs[18] := f18
 have f19 : DataW.trod enc Tryz.prog w base spare held m 3 (([c0,c1,c2,c3,c4,c5,c6,c7,c8,c9,c10,c11,c12,c13,c14,c15,c16,c17,c18,c19,c20,c21].drop 19).take (Tryz.prog.cellsOf 3)) = xs[19]? := hx 19 _ rfl
 rw [hc,List.getElem?_eq_getElem (by omega)] at f19
 replace f19 : DataW.trod enc Tryz.prog w base spare held m 3 [c19] = some xs[19] := f19
 have f20 : DataW.trod enc Tryz.prog w base spare held m 22 (([c0,c1,c2,c3,c4,c5,c6,c7,c8,c9,c10,c11,c12,c13,c14,c15,c16,c17,c18,c19,c20,c21].drop 20).take (Tryz.prog.cellsOf 22)) = xs[20]? := hx 20 _ rfl
 rw [hca,List.getElem?_eq_getElem (by omega)] at f20
 replace f20 : DataW.trod enc Tryz.prog w base spare held m 22 [c20] = some xs[20] := f20
 have f21 : DataW.trod enc Tryz.prog w base spare held m 23 (([c0,c1,c2,c3,c4,c5,c6,c7,c8,c9,c10,c11,c12,c13,c14,c15,c16,c17,c18,c19,c20,c21].drop 21).take (Tryz.prog.cellsOf 23)) = xs[21]? := hx 21 _ rfl
 rw [hct,List.getElem?_eq_getElem (by omega)] at f21
 replace f21 : DataW.trod enc Tryz.prog w base spare held m 23 [c21] = some xs[21] := f21
 obtain ⟨a0,e0,-,-⟩ := DataW.trod_string Tryz.underlying9 f0
 injection e0 with e0 _
 subst e0
 obtain ⟨a1,e1,-,-⟩ := DataW.trod_int Tryz.underlying3 f1
 injection e1 with e1 _
 subst e1
 obtain ⟨a2,e2,-,-⟩ := DataW.trod_int Tryz.underlying3 f2
 injection e2 with e2 _
 subst e2
 obtain ⟨a3,e3,-,-⟩ := DataW.trod_int Tryz.underlying3 f3
 injection e3 with e3 _
 subst e3
 obtain ⟨a4,e4,-,-⟩ := DataW.trod_int Tryz.underlying3 f4
 injection e4 with e4 _
 subst e4
 obtain ⟨a5,e5,-,-⟩ := DataW.trod_int Tryz.underlying3 f5
 injection e5 with e5 _
 subst e5
 obtain ⟨a6,e6,-,-⟩ := DataW.trod_int Tryz.underlying3 f6
 injection e6 with e6 _
 subst e6
 obtain ⟨a7,e7,-,-⟩ := DataW.trod_int Tryz.underlying3 f7
 injection e7 with e7 _
 subst e7
 obtain ⟨a8,e8,-,-⟩ := DataW.trod_int Tryz.underlying3 f8
 injection e8 with e8 _
 subst e8
 obtain ⟨a9,e9,-,-⟩ := DataW.trod_int Tryz.underlying3 f9
 injection e9 with e9 _
 subst e9
 obtain ⟨a10,e10,-,-⟩ := DataW.trod_int Tryz.underlying3 f10
 injection e10 with e10 _
 subst e10
 obtain ⟨a11,e11,-,-⟩ := DataW.trod_int Tryz.underlying3 f11
 injection e11 with e11 _
 subst e11
 obtain ⟨a12,e12,-,-⟩ := DataW.trod_int Tryz.underlying3 f12
 injection e12 with e12 _
 subst e12
 obtain ⟨a13,e13,-,-⟩ := DataW.trod_int Tryz.underlying3 f13
 injection e13 with e13 _
 subst e13
 obtain ⟨a14,e14,-,-⟩ := DataW.trod_int Tryz.underlying3 f14
 injection e14 with e14 _
 subst e14
 obtain ⟨a15,e15,-,-⟩ := DataW.trod_int Tryz.underlying3 f15
 injection e15 with e15 _
 subst e15
 obtain ⟨a16,e16,-,-⟩ := DataW.trod_int Tryz.underlying3 f16
 injection e16 with e16 _
 subst e16
 obtain ⟨a17,e17,-,-⟩ := DataW.trod_int Tryz.underlying3 f17
 injection e17 with e17 _
 subst e17
 obtain ⟨a18,e18,-,-⟩ := DataW.trod_int Tryz.underlying3 f18
 injection e18 with e18 _
 subst e18
 obtain ⟨a19,e19,-,-⟩ := DataW.trod_int Tryz.underlying3 f19
 injection e19 with e19 _
 subst e19
 obtain ⟨ms,rA,qA⟩ := rds_trod (V := AddonM.cells) (Q := AddonR w) (sz := 6) Tryz.underlying22 (by kernel_rfl) (by decide) (fun _ => rfl) (fun _ _ _ h => addon_trod h) f20
 obtain ⟨ts,rT,-⟩ := rds_trod (V := tierCells) (Q := fun _ => True) (sz := 6) Tryz.underlying23 (by kernel_rfl) (by decide) (fun _ => rfl) (fun _ _ _ h => (tier_trod h).imp fun _ e => ⟨e,trivial⟩) f21
 exact ⟨⟨a0,a1,a2,a3,a4,a5,a6,a7,a8,a9,a10,a11,a12,a13,a14,a15,a16,a17,a18,a19,ms.map (·.d),ts⟩,c20,c21,ms,rfl,⟨rA,qA⟩,rfl,rT⟩
end
theorem line_trod {H : Type} {enc : TypeId × Value → H} {w : World} {base : Nat} {spare : Nat → Bool} {held : Bool} {cs : Array Value} {d : DataW H} {ps : List MemPlace}
  (h : DataW.Trod enc Tryz.prog w base spare held 41 (.agg cs) d ps) : ∃ mv bv a b,Value.agg cs = lineVal mv bv ∧ LineR w mv bv a b := by
 obtain ⟨fuel,hf⟩ := h
 obtain ⟨l⟩ := cs
 have hf' : DataW.trod enc Tryz.prog w base spare held fuel 41 l = some (d,ps) := by simpa [Value.cells] using hf
 obtain ⟨xs,m,-,-,hl,hxl,hx⟩ := DataW.trod_struct Tryz.underlying41 hf'
 rw [show Tryz.prog.cellsOf 41 = 2 by kernel_rfl] at hl
 have hxl' : xs.length = 2 := hxl
 clear hf hf'
 have hc : Tryz.prog.cellsOf 3 = 1 := by kernel_rfl
 have hcl : Tryz.prog.cellsOf 27 = 1 := by kernel_rfl
 rcases l with _ | ⟨c0,l⟩
 ·simp at hl
 rcases l with _ | ⟨c1,l⟩
 ·simp at hl
 rcases l with _ | ⟨cx,l⟩
 rotate_left
 ·simp at hl
 have f0 : DataW.trod enc Tryz.prog w base spare held m 27 (([c0,c1].drop 0).take (Tryz.prog.cellsOf 27)) = xs[0]? := hx 0 _ rfl
 rw [hcl,List.getElem?_eq_getElem (by omega)] at f0
 replace f0 : DataW.trod enc Tryz.prog w base spare held m 27 [c0] = some xs[0] := f0
 have f1 : DataW.trod enc Tryz.prog w base spare held m 27 (([c0,c1].drop 1).take (Tryz.prog.cellsOf 27)) = xs[1]? := hx 1 _ rfl
 rw [hcl,List.getElem?_eq_getElem (by omega)] at f1
 replace f1 : DataW.trod enc Tryz.prog w base spare held m 27 [c1] = some xs[1] := f1
 obtain ⟨b3,n3,d3,e3⟩ := slice_cell Tryz.underlying27 f0
 subst e3
 obtain ⟨z3,r3⟩ := rd_of_trod Tryz.underlying27 Tryz.underlying3 hc ⟨_,show DataW.trod enc Tryz.prog w base spare held m 27 [.slice b3 n3 d3] = some (xs[0].1,xs[0].2) from f0⟩
 obtain ⟨b5,n5,d5,e5⟩ := slice_cell Tryz.underlying27 f1
 subst e5
 obtain ⟨z5,r5⟩ := rd_of_trod Tryz.underlying27 Tryz.underlying3 hc ⟨_,show DataW.trod enc Tryz.prog w base spare held m 27 [.slice b5 n5 d5] = some (xs[1].1,xs[1].2) from f1⟩
 exact ⟨.slice b3 n3 d3,.slice b5 n5 d5,z3,z5,rfl,r3,r5⟩
section
variable {H : Type} {enc : TypeId × Value → H} {w : World} {base : Nat} {spare : Nat → Bool} {held : Bool}
instance inhDoM : Inhabited DoM := ⟨⟨⟨0,0,([],[])⟩,.slice none 0 0,.slice none 0 0⟩⟩
theorem lineI_cells {n : Nat} {l : List Value} {x : DataW H × List MemPlace} (h : DataW.trod enc Tryz.prog w base spare held n 41 l = some x) : ∃ mv bv a b,l = [mv,bv] ∧ LineR w mv bv a b := by
 obtain ⟨mv,bv,a,b,e,hl⟩ := line_trod (cs := l.toArray) (d := x.1) (ps := x.2) ⟨n,by simpa [Value.cells] using h⟩
 refine ⟨mv,bv,a,b,?_,hl⟩
 unfold lineVal at e
 injection e with e
 have := congrArg Array.toList e
 simpa using this
theorem resI_cells {n : Nat} {l : List Value} {x : DataW H × List MemPlace} (h : DataW.trod enc Tryz.prog w base spare held n 29 l = some x) : ∃ mv bv xv r,l = resCells mv bv xv r ∧ ResR w mv bv xv r ∧ r.serial.size ≤ 9223372036854775807 := by
 obtain ⟨xs,m,-,-,hl,hxl,hx⟩ := DataW.trod_struct Tryz.underlying29 h
 rw [show Tryz.prog.cellsOf 29 = 5 by kernel_rfl] at hl
 have hxl' : xs.length = 5 := hxl
 clear h
 have h2 : Tryz.prog.cellsOf 27 = 1 := by kernel_rfl
 have h0 : Tryz.prog.cellsOf 3 = 1 := by kernel_rfl
 have h1 : Tryz.prog.cellsOf 9 = 1 := by kernel_rfl
 rcases l with _ | ⟨c0,l⟩
 ·simp at hl
 rcases l with _ | ⟨c1,l⟩
 ·simp at hl
 rcases l with _ | ⟨c2,l⟩
 ·simp at hl
 rcases l with _ | ⟨c3,l⟩
 ·simp at hl
 rcases l with _ | ⟨c4,l⟩
 ·simp at hl
 rcases l with _ | ⟨cx,l⟩
 rotate_left
 ·simp at hl
 have f0 : DataW.trod enc Tryz.prog w base spare held m 27 (([c0,c1,c2,c3,c4].drop 0).take (Tryz.prog.cellsOf 27)) = xs[0]? := hx 0 _ rfl
 rw [h2,List.getElem?_eq_getElem (by omega)] at f0
 replace f0 : DataW.trod enc Tryz.prog w base spare held m 27 [c0] = some xs[0] := f0
 have f1 : DataW.trod enc Tryz.prog w base spare held m 27 (([c0,c1,c2,c3,c4].drop 1).take (Tryz.prog.cellsOf 27)) = xs[1]? := hx 1 _ rfl
 rw [h2,List.getElem?_eq_getElem (by omega)] at f1
 replace f1 : DataW.trod enc Tryz.prog w base spare held m 27 [c1] = some xs[1] := f1
 have f2 : DataW.trod enc Tryz.prog w base spare held m 27 (([c0,c1,c2,c3,c4].drop 2).take (Tryz.prog.cellsOf 27)) = xs[2]? := hx 2 _ rfl
 rw [h2,List.getElem?_eq_getElem (by omega)] at f2
 replace f2 : DataW.trod enc Tryz.prog w base spare held m 27 [c2] = some xs[2] := f2
 have f3 : DataW.trod enc Tryz.prog w base spare held m 3 (([c0,c1,c2,c3,c4].drop 3).take (Tryz.prog.cellsOf 3)) = xs[3]? := hx 3 _ rfl
 rw [h0,List.getElem?_eq_getElem (by omega)] at f3
 replace f3 : DataW.trod enc Tryz.prog w base spare held m 3 [c3] = some xs[3] := f3
 have f4 : DataW.trod enc Tryz.prog w base spare held m 9 (([c0,c1,c2,c3,c4].drop 4).take (Tryz.prog.cellsOf 9)) = xs[4]? := hx 4 _ rfl
 rw [h1,List.getElem?_eq_getElem (by omega)] at f4
 replace f4 : DataW.trod enc Tryz.prog w base spare held m 9 [c4] = some xs[4] := f4
 obtain ⟨s0,t0,u0,g0⟩ := slice_cell Tryz.underlying27 f0
 subst g0
 obtain ⟨l0,r0⟩ := rd_of_trod Tryz.underlying27 Tryz.underlying3 (by kernel_rfl) ⟨m,f0⟩
 obtain ⟨s1,t1,u1,g1⟩ := slice_cell Tryz.underlying27 f1
 subst g1
 obtain ⟨l1,r1⟩ := rd_of_trod Tryz.underlying27 Tryz.underlying3 (by kernel_rfl) ⟨m,f1⟩
 obtain ⟨s2,t2,u2,g2⟩ := slice_cell Tryz.underlying27 f2
 subst g2
 obtain ⟨l2,r2⟩ := rd_of_trod Tryz.underlying27 Tryz.underlying3 (by kernel_rfl) ⟨m,f2⟩
 obtain ⟨a3,e3,-,w3⟩ := DataW.trod_int Tryz.underlying3 f3
 injection e3 with e3 _
 subst e3
 obtain ⟨a4,e4,z4,y4⟩ := DataW.trod_string Tryz.underlying9 f4
 injection e4 with e4 _
 subst e4
 exact ⟨_,_,_,⟨l0,l1,l2,a3,a4⟩,rfl,⟨r0,r1,r2⟩,by have h9 := y4;unfold maxLen at h9;exact h9⟩
theorem doI_cells {n : Nat} {l : List Value} {x : DataW H × List MemPlace} (h : DataW.trod enc Tryz.prog w base spare held n 43 l = some x) : ∃ m : DoM,l = m.cells ∧ DoR w m := by
 obtain ⟨xs,m,-,-,hl,hxl,hx⟩ := DataW.trod_struct Tryz.underlying43 h
 rw [show Tryz.prog.cellsOf 43 = 4 by kernel_rfl] at hl
 have hxl' : xs.length = 3 := hxl
 clear h
 have h0 : Tryz.prog.cellsOf 3 = 1 := by kernel_rfl
 have h7 : Tryz.prog.cellsOf 41 = 2 := by kernel_rfl
 rcases l with _ | ⟨c0,l⟩
 ·simp at hl
 rcases l with _ | ⟨c1,l⟩
 ·simp at hl
 rcases l with _ | ⟨c2,l⟩
 ·simp at hl
 rcases l with _ | ⟨c3,l⟩
 ·simp at hl
 rcases l with _ | ⟨cx,l⟩
 rotate_left
 ·simp at hl
 have f0 : DataW.trod enc Tryz.prog w base spare held m 3 (([c0,c1,c2,c3].drop 0).take (Tryz.prog.cellsOf 3)) = xs[0]? := hx 0 _ rfl
 rw [h0,List.getElem?_eq_getElem (by omega)] at f0
 replace f0 : DataW.trod enc Tryz.prog w base spare held m 3 [c0] = some xs[0] := f0
 have f1 : DataW.trod enc Tryz.prog w base spare held m 3 (([c0,c1,c2,c3].drop 1).take (Tryz.prog.cellsOf 3)) = xs[1]? := hx 1 _ rfl
 rw [h0,List.getElem?_eq_getElem (by omega)] at f1
 replace f1 : DataW.trod enc Tryz.prog w base spare held m 3 [c1] = some xs[1] := f1
 have f2 : DataW.trod enc Tryz.prog w base spare held m 41 (([c0,c1,c2,c3].drop 2).take (Tryz.prog.cellsOf 41)) = xs[2]? := hx 2 _ rfl
 rw [h7,List.getElem?_eq_getElem (by omega)] at f2
 replace f2 : DataW.trod enc Tryz.prog w base spare held m 41 [c2,c3] = some xs[2] := f2
 obtain ⟨a0,e0,-,w0⟩ := DataW.trod_int Tryz.underlying3 f0
 injection e0 with e0 _
 subst e0
 obtain ⟨a1,e1,-,w1⟩ := DataW.trod_int Tryz.underlying3 f1
 injection e1 with e1 _
 subst e1
 obtain ⟨mv,bv,a,b,e2,r2⟩ := lineI_cells f2
 injection e2 with e2a e2
 injection e2 with e2b e2
 subst e2a e2b
 exact ⟨⟨⟨a0,a1,(a,b)⟩,c2,c3⟩,rfl,r2,bounds_i64 w0,bounds_i64 w1⟩
theorem dos_trod {n : Nat} {c : Value} {x : DataW H × List MemPlace} (h : DataW.trod enc Tryz.prog w base spare held n 26 [c] = some x) : ∃ ms,DosR w c ms := by
 obtain ⟨ms,rA,qA⟩ := rds_trod (V := DoM.cells) (Q := DoR w) (sz := 4) Tryz.underlying26 (by kernel_rfl) (by decide) do_len (fun _ _ _ h => doI_cells h) h
 exact ⟨ms,rA,fun m hm => by obtain ⟨i,hi,rfl⟩ := List.getElem_of_mem hm;exact qA i _ (List.getElem?_eq_getElem hi)⟩
theorem dos_open {a : Option Addr} {len cap : Nat} {d : DataW H} {ps : List MemPlace} (h : DataW.Trod enc Tryz.prog w base spare held 26 (.slice a len cap) d ps) : ∃ ms,DosR w (.slice a len cap) ms := by
 obtain ⟨n,hn⟩ := h
 exact dos_trod (n := n) (x := (d,ps)) (by simpa [Value.cells] using hn)
theorem resI_open {cs : Array Value} {d : DataW H} {ps : List MemPlace} (h : DataW.Trod enc Tryz.prog w base spare held 29 (.agg cs) d ps) : ∃ mv bv xv r,Value.agg cs = resVal mv bv xv r ∧ ResR w mv bv xv r ∧ r.serial.size ≤ 9223372036854775807 := by
 obtain ⟨n,hn⟩ := h
 obtain ⟨mv,bv,xv,r,e,hr,hs⟩ := resI_cells (n := n) (l := cs.toList) (x := (d,ps)) (by simpa [Value.cells] using hn)
 refine ⟨mv,bv,xv,r,?_,hr,hs⟩
 unfold resVal
 unfold resCells at e
 obtain ⟨l⟩ := cs
 simp at e
 rw [e]
end
end Go.Proofs.YtmocomkobbiflaaGreat
end

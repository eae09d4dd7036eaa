/- Lemmas, merged out of smaller texts (wip/tools/mergedce.py). No condition. -/
import Derived.Lib.SliceRun
import Derived.Test.YtelgllgaofjgjaaGreatHBetA
import Derived.Test.YtelgllgaofjgjaaGreatHRule
import Derived.Test.YtelgllgaofjgjaaGreatHCore
import Derived.Test.YtelgllgaofjgjaaGreatHSysB
import Derived.Test.YtelgllgaofjgjaaGreatHLine
import Derived.Test.YtelgllgaofjgjaaGreatHSysA
section
set_option linter.unusedVariables false
set_option linter.unusedSimpArgs false
namespace Go.Proofs.YtelgllgaofjgjaaGreat
structure ResD where
 main : List Int
 bonus : List Int
 extra : List Int
 factor : Int
 serial : ByteArray
def orderE (rising : Bool) (lo hi : Int) : Option Int → List Int → Int
 | _,[] => 0
 | p,x :: r => if x < lo ∨ hi < x then 2 else if rising = true ∧ (∃ q,p = some q ∧ x ≤ q) then 1 else orderE rising lo hi (some x) r
def prevI (l : List Int) (i : Nat) : Option Int := if i = 0 then none else l[i - 1]?
theorem order_at {rising : Bool} {lo hi : Int} {l : List Int} {i : Nat} (h : i < l.length) :
  orderE rising lo hi (prevI l i) (l.drop i) = if l[i] < lo ∨ hi < l[i] then 2 else if rising = true ∧ 0 < i ∧ l[i] ≤ l[i - 1]'(by omega) then 1 else orderE rising lo hi (prevI l (i + 1)) (l.drop (i + 1)) := by
 rw [List.drop_eq_getElem_cons h,orderE]
 have h1 : prevI l (i + 1) = some l[i] := by unfold prevI;rw [if_neg (by omega),Nat.add_sub_cancel,List.getElem?_eq_getElem h]
 rw [h1]
 have h2 : (rising = true ∧ (∃ q,prevI l i = some q ∧ l[i] ≤ q)) ↔ (rising = true ∧ 0 < i ∧ l[i] ≤ l[i - 1]'(by omega)) := by
  unfold prevI
  by_cases hi : i = 0
  ·subst hi
   simp
  ·rw [if_neg hi,List.getElem?_eq_getElem (show i - 1 < l.length by omega)]
   constructor
   ·rintro ⟨a,q,e,b⟩
    injection e with e
    subst e
    exact ⟨a,by omega,b⟩
   ·rintro ⟨a,b,c⟩
    exact ⟨a,_,rfl,c⟩
 simp only [h2]
theorem order_nil {rising : Bool} {lo hi : Int} {p : Option Int} : orderE rising lo hi p [] = 0 := rfl
theorem order_start {rising : Bool} {lo hi : Int} {l : List Int} : orderE rising lo hi (prevI l 0) (l.drop 0) = orderE rising lo hi none l := by rw [List.drop_zero];rfl
theorem order_in {rising : Bool} {lo hi : Int} {p : Option Int} {l : List Int} (h : orderE rising lo hi p l = 0) : ∀ x ∈ l,lo ≤ x ∧ x ≤ hi := by
 induction l generalizing p with
 | nil => intro x hx;cases hx
 | cons y r ih =>
  rw [orderE] at h
  split at h
  ·exact absurd h (by decide)
  ·rename_i h1
   split at h
   ·exact absurd h (by decide)
   ·intro x hx
    rcases List.mem_cons.1 hx with rfl | hx
    ·omega
    ·exact ih h x hx
def numE (g : GameD) (r : ResD) : Int :=
 if (r.main.length : Int) ≠ g.main ∨ (r.bonus.length : Int) ≠ g.bonus ∨ (r.extra.length : Int) ≠ g.extra then 3
 else if g.kind = 2 then orderE false 0 (g.of - 1) none r.main
 else if orderE true 1 g.of none r.main ≠ 0 then orderE true 1 g.of none r.main
 else if orderE true 1 g.bonusOf none r.bonus ≠ 0 then orderE true 1 g.bonusOf none r.bonus
 else if orderE true 1 g.of none r.extra ≠ 0 then orderE true 1 g.of none r.extra
 else if ∃ x ∈ r.extra,x ∈ r.main then 6 else 0
def addonG (g : GameD) (k : Int) : Option AddonD := g.addons.find? fun a => decide (a.kind = k)
def factorsG (g : GameD) : List Int := ((addonG g 1).map AddonD.factors).getD []
def digitsS (s : ByteArray) : Bool := decide (∀ i,i < s.size → 48 ≤ byteN s i ∧ byteN s i ≤ 57)
def serialE (g : GameD) (s : ByteArray) : Int :=
 match addonG g 2 with
 | none => 3
 | some a => if (s.size : Int) ≠ a.digits then 3 else if digitsS s = true then 0 else 1
def resE (g : GameD) (r : ResD) : Int :=
 if gameE g ≠ 0 then gameE g
 else if numE g r ≠ 0 then numE g r
 else if r.factor ≠ 0 ∧ r.factor ∉ factorsG g then 2
 else if r.serial.size = 0 then 0 else serialE g r.serial
def comM (a b : List Int) : Nat := a.countP fun x => decide (x ∈ b)
def digM (mode n : Int) (a b : List Int) : Bool :=
 if b.length ≠ a.length then false
 else if mode = 2 then decide (sortI a = sortI b)
 else if mode = 3 ∨ mode = 4 then
  (if n < 1 ∨ (a.length : Int) < n then false else if mode = 3 then decide (a.take n.toNat = b.take n.toNat) else decide (a.drop (a.length - n.toNat) = b.drop (a.length - n.toNat)))
 else if mode = 1 then decide (a = b) else false
def meetM (g : GameD) (l : LineD) (r : ResD) (t : TierD) : Bool :=
 if g.kind = 2 then digM t.mode t.main l.1 r.main else decide (t.main ≤ (comM l.1 r.main : Int) ∧ t.bonus ≤ (comM l.2 r.bonus : Int) ∧ t.extra ≤ (comM l.1 r.extra : Int))
def tierGo (f : TierD → Bool) : List TierD → Nat → Int
 | [],_ => -1
 | t :: q,i => if f t then (i : Int) else tierGo f q (i + 1)
def tierM (g : GameD) (l : LineD) (r : ResD) : Int := tierGo (meetM g l r) g.tiers 0
def checkM (g : GameD) (l : LineD) (r : ResD) : Int := if lineE g l.1 l.2 ≠ 0 then lineE g l.1 l.2 else resE g r
def tierP (g : GameD) (l : LineD) (r : ResD) : Int × Int := if checkM g l r ≠ 0 then (0,checkM g l r) else (tierM g l r,0)
theorem tierGo_lo (f : TierD → Bool) (l : List TierD) (i : Nat) : -1 ≤ tierGo f l i := by
 induction l generalizing i with
 | nil => rw [tierGo];omega
 | cons t q ih =>
  rw [tierGo]
  split
  ·omega
  ·exact ih _
theorem tierGo_hi (f : TierD → Bool) (l : List TierD) (i : Nat) : tierGo f l i < (i + l.length : Nat) := by
 induction l generalizing i with
 | nil => rw [tierGo];omega
 | cons t q ih =>
  rw [tierGo]
  split
  ·rw [List.length_cons];omega
  ·have := ih (i + 1);rw [List.length_cons];omega
structure TicketD where
 number : ByteArray
 game : ByteArray
 bet : BetD
 serial : ByteArray
 first : Int
 price : Int
 at_ : Int
 terminal : Int
 seq : Int
 player : Int
 cancelled : Bool
def takesB (first draws draw : Int) : Bool := decide (first ≤ draw ∧ 1 ≤ draws ∧ draw - first < draws)
def eligB (game : ByteArray) (draw : Int) (t : TicketD) : Bool := decide (t.game = game) && !t.cancelled && takesB t.first t.bet.draws draw
def eligGo (f : TicketD → Bool) : List TicketD → Nat → List (Nat × TicketD)
 | [],_ => []
 | t :: r,i => if f t then (i,t) :: eligGo f r (i + 1) else eligGo f r (i + 1)
def eligT (ts : List TicketD) (game : ByteArray) (draw : Int) : List (Nat × TicketD) := eligGo (eligB game draw) ts 0
def eligP (ts : List TicketD) (game : ByteArray) (draw : Int) : List Int := (eligT ts game draw).map fun p => (p.1 : Int)
theorem eligGo_app (f : TicketD → Bool) (a b : List TicketD) (i : Nat) : eligGo f (a ++ b) i = eligGo f a i ++ eligGo f b (i + a.length) := by
 induction a generalizing i with
 | nil => simp [eligGo]
 | cons t r ih =>
  rw [List.cons_append,eligGo,eligGo]
  have h := ih (i + 1)
  have e : i + 1 + r.length = i + (t :: r).length := by rw [List.length_cons];omega
  rw [e] at h
  split
  ·rw [h];rfl
  ·exact h
theorem eligGo_mem {f : TicketD → Bool} {l : List TicketD} {i : Nat} {p : Nat × TicketD} (h : p ∈ eligGo f l i) : i ≤ p.1 ∧ ∃ hk : p.1 - i < l.length,l[p.1 - i] = p.2 ∧ f p.2 = true := by
 induction l generalizing i with
 | nil => rw [eligGo] at h;cases h
 | cons t r ih =>
  rw [eligGo] at h
  have go : p ∈ eligGo f r (i + 1) → i ≤ p.1 ∧ ∃ hk : p.1 - i < (t :: r).length,(t :: r)[p.1 - i] = p.2 ∧ f p.2 = true := by
   intro h
   obtain ⟨h1,hk,h2,h3⟩ := ih h
   refine ⟨by omega,by rw [List.length_cons];omega,?_,h3⟩
   have e : p.1 - i = (p.1 - (i + 1)) + 1 := by omega
   rw [← h2]
   simp only [e,List.getElem_cons_succ]
  split at h
  ·rename_i hf
   rcases List.mem_cons.1 h with rfl | h
   ·refine ⟨Nat.le_refl _,by simp,?_,hf⟩
    simp
   ·exact go h
  ·exact go h
theorem eligGo_len (f : TicketD → Bool) (l : List TicketD) (i : Nat) : (eligGo f l i).length ≤ l.length := by
 induction l generalizing i with
 | nil => simp [eligGo]
 | cons t r ih =>
  rw [eligGo]
  have := ih (i + 1)
  split
  ·rw [List.length_cons,List.length_cons];omega
  ·rw [List.length_cons];omega
theorem eligGo_snoc (f : TicketD → Bool) (l : List TicketD) (k : Nat) (h : k < l.length) : eligGo f (l.take (k + 1)) 0 = eligGo f (l.take k) 0 ++ (if f l[k] then [(k,l[k])] else []) := by
 rw [List.take_succ_eq_append_getElem h,eligGo_app,List.length_take,Nat.zero_add,Nat.min_eq_left (by omega)]
 simp only [eligGo]
structure WinD where
 ticket : Int
 line : Int
 tier : Int
def winsL (f : LineD → Int) (i : Int) : List LineD → Nat → List WinD
 | [],_ => []
 | x :: r,k => if f x = -1 then winsL f i r (k + 1) else ⟨i,k,f x⟩ :: winsL f i r (k + 1)
def winsE (g : GameD) (r : ResD) : List (Nat × TicketD) → List WinD × Int
 | [] => ([],0)
 | p :: q => if (betP g p.2.bet).2 ≠ 0 then ([],(betP g p.2.bet).2) else if (winsE g r q).2 ≠ 0 then ([],(winsE g r q).2)
   else (winsL (fun x => tierM g x r) p.1 (linesB g p.2.bet) 0 ++ (winsE g r q).1,0)
def winsP (g : GameD) (ts : List TicketD) (draw : Int) (r : ResD) : List WinD × Int :=
 if gameE g ≠ 0 then ([],gameE g)
 else if draw < 1 then ([],2)
 else if 2048 < ts.length then ([],3)
 else if resE g r ≠ 0 then ([],resE g r)
 else winsE g r (eligT ts g.name draw)
theorem winsL_snoc (f : LineD → Int) (i : Int) (l : List LineD) (k m : Nat) (h : m < l.length) : winsL f i (l.take (m + 1)) k = winsL f i (l.take m) k ++ (if f l[m] = -1 then [] else [⟨i,(k + m : Nat),f l[m]⟩]) := by
 induction l generalizing k m with
 | nil => simp at h
 | cons x r ih =>
  cases m with
  | zero =>
   simp only [List.take_succ_cons,List.take_zero,winsL,List.getElem_cons_zero,Nat.add_zero,List.nil_append]
  | succ m =>
   have h2 : m < r.length := by simpa using h
   have h3 := ih (k + 1) m h2
   have e : k + 1 + m = k + (m + 1) := by omega
   simp only [List.take_succ_cons,winsL,List.getElem_cons_succ] at h3 ⊢
   rw [h3,e]
   split <;> simp
end Go.Proofs.YtelgllgaofjgjaaGreat
end
section
open Go.RowKit
set_option linter.unusedVariables false
set_option linter.unusedSimpArgs false
namespace Go.Proofs.YtelgllgaofjgjaaGreat
def Stay (w : World) (row : Option Nat) (P : World → Prop) : Prop := ∀ w',w.grownBy w' row → P w'
section
variable {w w' : World} {row row' : Option Nat} {P Q : World → Prop}
theorem Stay.now (h : Stay w row P) : P w := h w (Gb.refl _ _)
theorem Stay.mono (h : Stay w row P) (hPQ : ∀ X,P X → Q X) : Stay w row Q := fun X hX => hPQ X (h X hX)
theorem Stay.grow (h : Stay w row P) (hg : w.grownBy w' row) (hr : row' = row ∨ ∃ k,row' = some k ∧ w.heap.size ≤ k) : Stay w' row' P := by
 intro X hX
 refine h X ⟨hX.os.trans hg.os,hX.tape.trans hg.tape,hX.output.trans hg.output,Nat.le_trans hg.size hX.size,fun k hk hne => ?_⟩
 refine (hX.block k (Nat.lt_of_lt_of_le hk hg.size) ?_).trans (hg.block k hk hne)
 rcases hr with rfl | ⟨m,rfl,hm⟩
 ·exact hne
 ·intro e;injection e with e;omega
theorem Stay.keep (h : Stay w row P) (hb : Below w.heap.size w w') : Stay w' row P := by
 intro X hX
 refine h X ⟨hX.os.trans hb.os,hX.tape.trans hb.tape,hX.output.trans hb.output,Nat.le_trans hb.size hX.size,fun k hk hne => ?_⟩
 exact (hX.block k (Nat.lt_of_lt_of_le hk hb.size) hne).trans (hb.block k hk)
theorem Stay.below (h : ∀ X,Below w.heap.size w X → P X) (hb : Below w.heap.size w w') (hr : ∀ k,row = some k → w.heap.size ≤ k) : Stay w' row P := by
 intro X hX
 exact h X (hb.grown hX hb.size hr)
end
def OwnS {α : Type} (sz : Nat) (V : α → List Value) (R : World → α → Prop) (w : World) (base e : Nat) (v : Value) (l : List α) : Prop :=
 w.ownsRow base e sz v l.length (l.flatMap V) ∧ ∀ x ∈ l,Stay w v.ownBlock fun X => R X x
theorem flatS_len {α : Type} {sz : Nat} {V : α → List Value} (hV : ∀ x,(V x).length = sz) (l : List α) : (l.flatMap V).length = l.length * sz := by
 induction l with
 | nil => simp
 | cons x r ih => rw [List.flatMap_cons,List.length_append,ih,hV,List.length_cons,Nat.add_mul];omega
theorem flatS_at {α : Type} {sz : Nat} {V : α → List Value} (hV : ∀ x,(V x).length = sz) (l : List α) (i j : Nat) (x : α) (u : Value) (hx : l[i]? = some x) (hu : (V x)[j]? = some u) : (l.flatMap V)[i * sz + j]? = some u := by
 induction l generalizing i with
 | nil => simp at hx
 | cons y r ih =>
  rw [List.flatMap_cons]
  have hj : j < sz := by rw [← hV x];exact (List.getElem?_eq_some_iff.1 hu).1
  cases i with
  | zero =>
   simp at hx
   subst hx
   rw [Nat.zero_mul,Nat.zero_add,List.getElem?_append_left (by rw [hV];exact hj)]
   exact hu
  | succ i =>
   rw [List.getElem?_append_right (by rw [hV,Nat.add_mul];omega),hV,show (i + 1) * sz + j - sz = i * sz + j by rw [Nat.add_mul];omega]
   exact ih i (by simpa using hx)
theorem flatS_inv {α : Type} {sz : Nat} {V : α → List Value} (hV : ∀ x,(V x).length = sz) (l : List α) (j : Nat) (u : Value) (h : (l.flatMap V)[j]? = some u) : ∃ (i r : Nat) (x : α),j = i * sz + r ∧ l[i]? = some x ∧ (V x)[r]? = some u := by
 induction l generalizing j with
 | nil => simp at h
 | cons y q ih =>
  rw [List.flatMap_cons] at h
  by_cases hj : j < sz
  ·rw [List.getElem?_append_left (by rw [hV];exact hj)] at h
   exact ⟨0,j,y,by omega,rfl,h⟩
  ·rw [List.getElem?_append_right (by rw [hV];omega),hV] at h
   obtain ⟨i,r,x,h1,h2,h3⟩ := ih _ h
   exact ⟨i + 1,r,x,by rw [Nat.add_mul];omega,h2,h3⟩
section
variable {α : Type} {sz : Nat} {V : α → List Value} {R : World → α → Prop} {w w' : World} {base e : Nat} {v : Value} {l : List α}
theorem OwnS.nil (w : World) (base e : Nat) : OwnS sz V R w base e (.slice none 0 0) [] := ⟨World.ownsRow_nil w base e sz,fun x hx => by cases hx⟩
theorem OwnS.lt (h : OwnS sz V R w base e v l) : ∀ k,v.ownBlock = some k → base ≤ k ∧ k < w.heap.size := World.ownsRow.lt h.1
theorem OwnS.shape (h : OwnS sz V R w base e v l) : ∃ ao cap,v = .slice ao l.length cap := by
 rcases h.1.2 with ⟨rfl,h0⟩ | ⟨g,cap,cur,rfl,_⟩
 ·exact ⟨none,0,by rw [h0]⟩
 ·exact ⟨_,_,rfl⟩
theorem OwnS.keep (h : OwnS sz V R w base e v l) (hb : Below w.heap.size w w') : OwnS sz V R w' base e v l :=
 ⟨World.ownsRow.kept h.1 (row := none) ⟨hb.os,hb.tape,hb.output,hb.size,fun k hk _ => hb.block k hk⟩ (by cases hv : v.ownBlock <;> simp),fun x hx => (h.2 x hx).keep hb⟩
theorem OwnS.lower {base' : Nat} (h : OwnS sz V R w base e v l) (hb : base' ≤ base) : OwnS sz V R w base' e v l := by
 refine ⟨⟨h.1.1,?_⟩,h.2⟩
 rcases h.1.2 with hn | ⟨g,cap,cur,h1,h2,h3⟩
 ·exact .inl hn
 ·exact .inr ⟨g,cap,cur,h1,Nat.le_trans hb h2,h3⟩
theorem OwnS.reads (h : OwnS sz V R w base e v l) : ∀ x ∈ l,R w x := fun x hx => (h.2 x hx).now
theorem OwnS.rd (hV : ∀ x,(V x).length = sz) (h : OwnS sz V R w base e v l) : RdS sz V w v l := by
 rcases h.1.2 with ⟨rfl,h0⟩ | ⟨g,cap,cur,rfl,hb,hg,hc,hm,hs,ht⟩
 ·exact ⟨none,0,by rw [h0],by omega,by decide,fun hp => by omega⟩
 ·refine ⟨_,cap,rfl,hc,hm,fun hp => ⟨g,0,rfl,(Array.getElem?_eq_some_iff.1 hg).1,fun i x hx j u hu => ?_⟩⟩
  have h1 := flatS_at hV l i j x u hx hu
  rw [Nat.zero_add]
  have h2 := World.ownsRow.cells h.1 (g := g) rfl _ _ h1
  unfold Addr.add at h2
  split at h2
  ·next h0 => rw [h0];exact h2
  ·simpa using h2
theorem OwnS.map {R' : World → α → Prop} (h : OwnS sz V R w base e v l) (hR : ∀ X x,R X x → R' X x) : OwnS sz V R' w base e v l := ⟨h.1,fun x hx => (h.2 x hx).mono fun X => hR X x⟩
end
section
variable {P : Program} (w : World) {α : Type} {sz : Nat} {V : α → List Value} {R : World → α → Prop}
theorem run_appendS (hV : ∀ x,(V x).length = sz) (base : Nat) (t ty e : TypeId) (z : Value) (bytes : Nat) (ht : P.underlying t = some (.slice e)) (hi : (P.info? e).map (fun i => (i.zero,i.size,i.bytes)) = some (some z,sz,bytes)) (hzs : z.cells.size = sz) (hsz : 0 < sz)
  (v : Value) (l : List α) (hown : OwnS sz V R w base e v l) (u : Value) (l2 : List α) (hr : RdS sz V w u l2) (hR : ∀ x ∈ l2,Stay w v.ownBlock fun X => R X x) (hone : ∀ x ∈ l2,∀ u ∈ V x,u.oneCell' = true)
  (h63 : l.length + l2.length ≤ 9223372036854775807) (hbytes : (l.length + l2.length) * bytes ≤ 140737488355328) (hbase : base ≤ w.heap.size) :
  ∃ v' w',(Builtin.append_ #[t,t] ty #[v,u]).run P w = .ok v' w' ∧ OwnS sz V R w' base e v' (l ++ l2) ∧ w.grownBy w' v.ownBlock ∧
   (v'.ownBlock = v.ownBlock ∨ v'.ownBlock = some w.heap.size) := by
 obtain ⟨i,hi,hz,hs,hb⟩ := info_parts hi
 obtain ⟨ao,cap,rfl,h1,h2,h3⟩ := hr
 have fin : ∀ v' w',w'.ownsRow base e sz v' (l ++ l2).length ((l ++ l2).flatMap V) → w.grownBy w' v.ownBlock → (v'.ownBlock = v.ownBlock ∨ v'.ownBlock = some w.heap.size) → OwnS sz V R w' base e v' (l ++ l2) := by
  intro v' w' e2 e3 e5
  refine ⟨e2,fun x hx => ?_⟩
  have hr : v'.ownBlock = v.ownBlock ∨ ∃ k,v'.ownBlock = some k ∧ w.heap.size ≤ k := e5.imp id fun h => ⟨_,h,Nat.le_refl _⟩
  rcases List.mem_append.1 hx with hx | hx
  ·exact (hown.2 x hx).grow e3 hr
  ·exact (hR x hx).grow e3 hr
 by_cases hl : l2.length = 0
 ·have : l2 = [] := List.eq_nil_of_length_eq_zero hl
  subst this
  cases ao with
  | none =>
   refine ⟨v,w,?_,by rw [List.append_nil];exact hown,Gb.refl _ _,.inl rfl⟩
   have hown' := hown.1
   rcases hown.1.2 with ⟨rfl,h0⟩ | ⟨g,cap,cur,rfl,_,_,hnc,_⟩
   ·simp [Builtin.append_,run_underlying ht,sizeOf,typeInfo,hi,Builtin.lenOf,Builtin.firstCells]
   ·simp [Builtin.append_,run_underlying ht,sizeOf,typeInfo,hi,Builtin.lenOf,Builtin.firstCells,hnc,storeCells]
  | some ad =>
   obtain ⟨v',w',e1,e2,e3,_,e5⟩ := run_append_own_at (P := P) w base t ty e i z sz bytes ht hi hz hs hb hzs hsz v l.length (l.flatMap V) hown.1 ad 0 cap [] (by simp) (by simp) (by simp) (by have := h63;unfold maxLen;omega) (by simpa using hbytes) hbase
   exact ⟨v',w',e1,fin v' w' (by simpa using e2) e3 e5,e3,e5⟩
 ·obtain ⟨b,off,rfl,hbk,hc⟩ := h3 (by omega)
  obtain ⟨v',w',e1,e2,e3,_,e5⟩ := run_append_own_at (P := P) w base t ty e i z sz bytes ht hi hz hs hb hzs hsz v l.length (l.flatMap V) hown.1 ⟨b,off,none⟩ l2.length cap (l2.flatMap V) (flatS_len hV l2)
   (by
    intro j x hx
    obtain ⟨i,r,y,ej,hy,hu⟩ := flatS_inv hV l2 j x hx
    have h10 := hc i y hy r x hu
    subst ej
    rw [show off + i * sz + r = off + (i * sz + r) by omega] at h10
    unfold Addr.add
    split
    ·next h0 => rw [h0] at h10;exact h10
    ·exact h10)
   (by intro x hx;obtain ⟨y,hy9,hy⟩ := List.mem_flatMap.1 hx;exact hone y hy9 x hy) (by unfold maxLen;omega) hbytes hbase
  exact ⟨v',w',e1,fin v' w' (by rw [List.length_append,List.flatMap_append];exact e2) e3 e5,e3,e5⟩
theorem wpList_appendS {ops : Array Oper} {rest : List Oper} {o : Oper} {a : Act} {Q : Exit → Act → World → Prop} (hgd : o.guard = none) (s x : Operand) (t : TypeId)
  (ho : o.op = .call { callee := .builtin .append,args := #[s,x],argTypes := #[t,t] })
  (hV : ∀ x,(V x).length = sz) (base : Nat) (e : TypeId) (z : Value) (bytes : Nat) (ht : P.underlying t = some (.slice e)) (hi : (P.info? e).map (fun i => (i.zero,i.size,i.bytes)) = some (some z,sz,bytes)) (hzs : z.cells.size = sz) (hsz : 0 < sz)
  (v : Value) (l : List α) (hs : a.eval s = v) (hown : OwnS sz V R w base e v l) (u : Value) (l2 : List α) (hx : a.eval x = u) (hr : RdS sz V w u l2) (hR : ∀ x ∈ l2,Stay w v.ownBlock fun X => R X x) (hone : ∀ x ∈ l2,∀ u ∈ V x,u.oneCell' = true)
  (h63 : l.length + l2.length ≤ 9223372036854775807) (hbytes : (l.length + l2.length) * bytes ≤ 140737488355328) (hbase : base ≤ w.heap.size)
  (h : ∀ v' w',OwnS sz V R w' base e v' (l ++ l2) → w.grownBy w' v.ownBlock → (v'.ownBlock = v.ownBlock ∨ v'.ownBlock = some w.heap.size) → wpList P ops Q rest (a.put o.dst v') w') : wpList P ops Q (o :: rest) a w := by
 refine wpList_plain hgd fun K hK => ?_
 obtain ⟨v',w',hr,h2,h3,h4⟩ := run_appendS (P := P) w hV base t o.type e z bytes ht hi hzs hsz v l hown u l2 hr hR hone h63 hbytes hbase
 unfold Oper.wp execOp
 simp only [ho,resolve,invoke,builtin,Sem.run_bind,Sem.run_pure,Result.andThen_ok,List.map_toArray,List.map_cons,List.map_nil,hs,hx,hr]
 exact hK _ _ (h v' w' h2 h3 h4)
theorem wp_appendS {o : Oper} {a : Act} {K : Act → World → Prop} {Q : Exit → Act → World → Prop} (s x : Operand) (t : TypeId)
  (ho : o.op = .call { callee := .builtin .append,args := #[s,x],argTypes := #[t,t] })
  (hV : ∀ x,(V x).length = sz) (base : Nat) (e : TypeId) (z : Value) (bytes : Nat) (ht : P.underlying t = some (.slice e)) (hi : (P.info? e).map (fun i => (i.zero,i.size,i.bytes)) = some (some z,sz,bytes)) (hzs : z.cells.size = sz) (hsz : 0 < sz)
  (v : Value) (l : List α) (hs : a.eval s = v) (hown : OwnS sz V R w base e v l) (u : Value) (l2 : List α) (hx : a.eval x = u) (hr : RdS sz V w u l2) (hR : ∀ x ∈ l2,Stay w v.ownBlock fun X => R X x) (hone : ∀ x ∈ l2,∀ u ∈ V x,u.oneCell' = true)
  (h63 : l.length + l2.length ≤ 9223372036854775807) (hbytes : (l.length + l2.length) * bytes ≤ 140737488355328) (hbase : base ≤ w.heap.size)
  (h : ∀ v' w',OwnS sz V R w' base e v' (l ++ l2) → w.grownBy w' v.ownBlock → (v'.ownBlock = v.ownBlock ∨ v'.ownBlock = some w.heap.size) → K (a.put o.dst v') w') : o.wp P a w K Q := by
 obtain ⟨v',w',hr,h2,h3,h4⟩ := run_appendS (P := P) w hV base t o.type e z bytes ht hi hzs hsz v l hown u l2 hr hR hone h63 hbytes hbase
 unfold Oper.wp execOp
 simp only [ho,resolve,invoke,builtin,Sem.run_bind,Sem.run_pure,Result.andThen_ok,List.map_toArray,List.map_cons,List.map_nil,hs,hx,hr]
 exact h v' w' h2 h3 h4
theorem rdS_one {h : Nat} {c : Nat} {t : TypeId} {x : α} (hr : Row w h t (V x)) (hc : 1 ≤ c) (hm : c ≤ maxLen) : RdS sz V w (.slice (some ⟨h,0,none⟩) 1 c) [x] := by
 refine ⟨_,c,rfl,hc,hm,fun _ => ⟨h,0,rfl,hr.lt,fun i y hy j u hu => ?_⟩⟩
 cases i with
 | zero =>
  simp at hy
  subst hy
  rw [Nat.zero_mul,Nat.zero_add,hr.cell?]
  exact hu
 | succ i => simp at hy
end
structure TickM where
 d : TicketD
 lv : Value
def TickM.cells (m : TickM) : List Value :=
 [.string m.d.number,.string m.d.game,m.lv,.bool m.d.bet.sys,.int .i64 m.d.bet.draws,.int .i64 m.d.bet.addons,.string m.d.serial,.int .i64 m.d.first,.int .i64 m.d.price,.int .i64 m.d.at_,.int .i64 m.d.terminal,.int .i64 m.d.seq,.int .i64 m.d.player,.bool m.d.cancelled]
theorem tick_len (m : TickM) : m.cells.length = 14 := rfl
def InI (x : Int) : Prop := -9223372036854775808 ≤ x ∧ x ≤ 9223372036854775807
def TickR (w : World) (m : TickM) : Prop := LinesR w m.lv m.d.bet.lines ∧ InI m.d.first ∧ InI m.d.bet.draws
def TicketsR (w : World) (v : Value) (ms : List TickM) : Prop := RdS 14 TickM.cells w v ms ∧ ∀ m ∈ ms,TickR w m
def OwnTk (w : World) (base : Nat) (v : Value) (ms : List TickM) : Prop := OwnS 14 TickM.cells TickR w base 50 v ms
section
variable {w w' : World} {v : Value} {ms : List TickM}
theorem TicketsR.below (h : TicketsR w v ms) (hb : Below w.heap.size w w') : TicketsR w' v ms := ⟨h.1.below hb,fun m hm => ⟨LinesR.below (h.2 m hm).1 hb,(h.2 m hm).2⟩⟩
theorem OwnTk.rd {base : Nat} (h : OwnTk w base v ms) : TicketsR w v ms := ⟨OwnS.rd tick_len h,OwnS.reads h⟩
theorem LinesR.one {lv : Value} {ls : List LineD} (h : LinesR w lv ls) : lv.oneCell' = true := by
 obtain ⟨ao,cap,rfl,_⟩ := h.shape
 rfl
end
def resCells (mv bv xv : Value) (r : ResD) : List Value := [mv,bv,xv,.int .i64 r.factor,.string r.serial]
def resVal (mv bv xv : Value) (r : ResD) : Value := .agg #[mv,bv,xv,.int .i64 r.factor,.string r.serial]
def ResR (w : World) (mv bv xv : Value) (r : ResD) : Prop := Rd I64 w mv r.main ∧ Rd I64 w bv r.bonus ∧ Rd I64 w xv r.extra
theorem ResR.below {w w' : World} {mv bv xv : Value} {r : ResD} (h : ResR w mv bv xv r) (hb : Below w.heap.size w w') : ResR w' mv bv xv r := ⟨h.1.below hb,h.2.1.below hb,h.2.2.below hb⟩
def winCells (x : WinD) : List Value := [.int .i64 x.ticket,.int .i64 x.line,.int .i64 x.tier]
theorem win_len (x : WinD) : (winCells x).length = 3 := rfl
def WinsR (w : World) (v : Value) (l : List WinD) : Prop := RdS 3 winCells w v l
def OwnWin (w : World) (base : Nat) (v : Value) (l : List WinD) : Prop := OwnS 3 winCells (fun _ _ => True) w base 67 v l
theorem OwnWin.rd {w : World} {base : Nat} {v : Value} {l : List WinD} (h : OwnWin w base v l) : WinsR w v l := OwnS.rd win_len h
theorem WinsR.below {w w' : World} {v : Value} {l : List WinD} (h : WinsR w v l) (hb : Below w.heap.size w w') : WinsR w' v l := RdS.below h hb
def WinsO (l : List WinD) (c : Int) (w : World) (e : Ending) (w' : World) : Prop := ∃ v,e = .returned (.tuple #[v,.int .i64 c]) ∧ OwnWin w' w.heap.size v l ∧ Below w.heap.size w w'
theorem flatS_set {α : Type} {sz : Nat} {V : α → List Value} (hV : ∀ x,(V x).length = sz) (l : List α) (i j : Nat) (hi : i < l.length) (hj : j < sz) (x' : α) (u : Value) (hx : V x' = (V l[i]).set j u) :
  (l.flatMap V).set (i * sz + j) u = (l.set i x').flatMap V := by
 induction l generalizing i with
 | nil => simp at hi
 | cons y r ih =>
  cases i with
  | zero =>
   rw [zsB,List.flatMap_cons,List.flatMap_cons,Nat.zero_mul,Nat.zero_add,List.set_append_left _ _ (by rw [hV];exact hj)]
   simp only [List.getElem_cons_zero] at hx
   rw [hx]
  | succ i =>
   rw [zsC,List.flatMap_cons,List.flatMap_cons,List.set_append_right _ _ (by rw [hV,Nat.add_mul];omega),hV,show (i + 1) * sz + j - sz = i * sz + j by rw [Nat.add_mul];omega]
   rw [ih i (by simpa using hi) (by simpa using hx)]
section
variable {α : Type} {sz : Nat} {V : α → List Value} {R : World → α → Prop} {w : World} {base e : Nat} {l : List α} {ga n cap : Nat}
theorem OwnS.len (h : OwnS sz V R w base e (.slice (some ⟨ga,0,none⟩) n cap) l) : n = l.length := by
 obtain ⟨ao,c,hs⟩ := h.shape
 injection hs
theorem OwnS.frozen (h : OwnS sz V R w base e (.slice (some ⟨ga,0,none⟩) n cap) l) (j : Nat) : w.frozen? ⟨ga,j,none⟩ = false := by
 rcases h.1.2 with ⟨h',_⟩ | ⟨g',cap',cur,h',hb,hg,_⟩
 ·simp at h'
 ·simp only [Value.slice.injEq,Option.some.injEq,Addr.mk.injEq,and_true,true_and] at h'
  obtain ⟨rfl,-⟩ := h'
  exact Row.frozen (t := e) (cs := cur.toList) (by unfold Row;rw [hg]) j
theorem OwnS.put (hV : ∀ x,(V x).length = sz) (h : OwnS sz V R w base e (.slice (some ⟨ga,0,none⟩) n cap) l) (i j : Nat) (hi : i < l.length) (hj : j < sz) (x' : α) (u : Value) (hx : V x' = (V l[i]).set j u)
  (hR : Stay (w.setCell ⟨ga,i * sz + j,none⟩ u) (some ga) fun X => R X x') :
  OwnS sz V R (w.setCell ⟨ga,i * sz + j,none⟩ u) base e (.slice (some ⟨ga,0,none⟩) n cap) (l.set i x') ∧ w.grownBy (w.setCell ⟨ga,i * sz + j,none⟩ u) (some ga) := by
 have hg : w.grownBy (w.setCell ⟨ga,i * sz + j,none⟩ u) (some ga) := Gb.set (Gb.refl w (some ga)) (.inl rfl) u
 refine ⟨⟨?_,fun x hxm => ?_⟩,hg⟩
 ·refine ⟨by rw [flatS_len hV],?_⟩
  rcases h.1.2 with ⟨h',_⟩ | ⟨g',cap',cur,h',hb,hh,hnc,hcm,hs,ht⟩
  ·simp at h'
  ·simp only [Value.slice.injEq,Option.some.injEq,Addr.mk.injEq,and_true,true_and] at h'
   obtain ⟨rfl,e2,rfl⟩ := h'
   refine .inr ⟨ga,cap,cur.setIfInBounds (i * sz + j) u,by rw [List.length_set,e2],hb,by simp [World.setCell,Array.getElem?_modify,hh],by rw [List.length_set];exact hnc,hcm,by simpa using hs,?_⟩
   rw [List.length_set,Array.toList_setIfInBounds,← flatS_set hV l i j hi hj x' u hx,← ht,List.take_set]
 ·rcases List.mem_or_eq_of_mem_set hxm with hm | rfl
  ·exact (h.2 x hm).grow hg (.inl rfl)
  ·exact hR
end
theorem infoT : (Tryz.prog.info? 72).map (fun i => (i.zero,i.size,i.bytes)) = some (some (.agg #[.int .i64 0,.int .i64 0,.int .i64 0,.int .i64 0,.int .i64 0,.int .i64 0]),6,48) := by kernel_rfl
set_option maxHeartbeats 2000000 in
set_option maxRecDepth 100000 in
theorem cloneT_any (v : Value) (l : List TierD) (w : World) (h : RdS 6 tierCells w v l) (hl : l.length ≤ 1000) :
  Calls Tryz.prog 23 #[v] w (fun e w' => ∃ u,e = .returned u ∧ OwnS 6 tierCells (fun _ _ => True) w' w.heap.size 72 u l ∧ Below w.heap.size w w') := by
 have q22 : ∀ (w : World) (a : Option Addr) (n c n' c' : Nat),(binOp .eql 23 (.slice a n c) (.slice none n' c')).run Tryz.prog w = .ok (.bool a.isNone) w := fun w a n c n' c' => Lib.run_eql_slice_nil w _ _ a n c n' c' Tryz.underlying23
 have hh := hide h
 obtain ⟨ao,cap,rfl,hle,hmax⟩ := h.shape
 have hns := hide hl
 have hz : ao = none → l = [] := by
  intro e
  rcases Nat.eq_zero_or_pos l.length with h0 | h0
  ·exact List.eq_nil_of_length_eq_zero h0
  ·obtain ⟨b,off,e2,-⟩ := h.at_ h0
   rw [e] at e2
   cases e2
 have hst := hide (fun (X : World) (row : Option Nat) (hX : Below w.heap.size w X) (hr : ∀ k,row = some k → w.heap.size ≤ k) => show ∀ x ∈ l,Stay X row fun _ => True from fun x hx Y hY => trivial)
 have hone : Hid (∀ x ∈ l,∀ u ∈ tierCells x,u.oneCell' = true) := by
  intro x hx u hu
  simp [tierCells] at hu;rcases hu with rfl | rfl | rfl | rfl | rfl | rfl <;> rfl
 clear h hl hle hmax
 cases ao with
 | none =>
  have hnil := hz rfl
  subst hnil
  rw [List.length_nil]
  clear hz hh hns hst
  go_enter Tryz.func23,Tryz.ntmps23
  go_wp2
  go_ret
  exact ⟨_,rfl,OwnS.nil _ _ _,Below.refl _ _⟩
 | some ad =>
  clear hz
  go_enter Tryz.func23,Tryz.ntmps23
  go_wp2_with (with_reducible refine wpList_appendS _ rfl _ _ 23 rfl (sz := 6) (V := tierCells) (R := (fun _ _ => True)) (fun _ => rfl) w.heap.size 72 (.agg #[.int .i64 0,.int .i64 0,.int .i64 0,.int .i64 0,.int .i64 0,.int .i64 0]) 48 Tryz.underlying23 infoT rfl (by decide) _ [] rfl ?_ _ l rfl ?_ ?_ ?_ ?_ ?_ ?_ ?_)
  case refine_1 => exact ⟨World.ownsRow_made w #[] 0 (Nat.le_refl _) (by decide) rfl,fun x hx => by cases hx⟩
  case refine_2 => exact hh.out.below (Bel.al (Below.refl _ _) _)
  case refine_3 => exact hst.out _ _ (Bel.al (Below.refl _ _) _) (fun k hk => by have h9 : some w.heap.size = some k := hk;injection h9 with h9;omega)
  case refine_4 => exact hone.out
  case refine_5 => have := hns.out;simp;omega
  case refine_6 => have := hns.out;simp;omega
  case refine_7 => simp
  intro v2 w2 hown2 hg2w hv2
  have bw2 : Below w.heap.size w w2 := (Bel.al (Below.refl _ _) _).grown hg2w (by simp) (fun g hg => by simp [Value.ownBlock] at hg;omega)
  obtain ⟨a2,c2,rfl⟩ := hown2.shape
  clear hg2w hv2 hh
  go_wp2
  go_ret
  exact ⟨_,rfl,hown2,bw2⟩
theorem infoA : (Tryz.prog.info? 61).map (fun i => (i.zero,i.size,i.bytes)) = some (some (.agg #[.string ⟨#[]⟩,.int .i64 0,.int .i64 0,.slice none 0 0,.int .i64 0,.slice none 0 0]),6,88) := by kernel_rfl
set_option maxHeartbeats 2000000 in
set_option maxRecDepth 100000 in
theorem cloneA_any (v : Value) (l : List AddonM) (w : World) (h : AddonsR w v l) (hl : l.length ≤ 1000) :
  Calls Tryz.prog 24 #[v] w (fun e w' => ∃ u,e = .returned u ∧ OwnS 6 AddonM.cells AddonR w' w.heap.size 61 u l ∧ Below w.heap.size w w') := by
 have q22 : ∀ (w : World) (a : Option Addr) (n c n' c' : Nat),(binOp .eql 22 (.slice a n c) (.slice none n' c')).run Tryz.prog w = .ok (.bool a.isNone) w := fun w a n c n' c' => Lib.run_eql_slice_nil w _ _ a n c n' c' Tryz.underlying22
 have hh := hide h.1
 obtain ⟨ao,cap,rfl,hle,hmax⟩ := h.1.shape
 have hns := hide hl
 have hz : ao = none → l = [] := by
  intro e
  rcases Nat.eq_zero_or_pos l.length with h0 | h0
  ·exact List.eq_nil_of_length_eq_zero h0
  ·obtain ⟨b,off,e2,-⟩ := h.1.at_ h0
   rw [e] at e2
   cases e2
 have hst := hide (fun (X : World) (row : Option Nat) (hX : Below w.heap.size w X) (hr : ∀ k,row = some k → w.heap.size ≤ k) => show ∀ x ∈ l,Stay X row fun Y => AddonR Y x from fun x hx => Stay.below (fun Y hY => by obtain ⟨i,hi,e⟩ := List.getElem_of_mem hx;exact (h.below hY).2 i x (by rw [List.getElem?_eq_getElem hi,e])) hX hr)
 have hone : Hid (∀ x ∈ l,∀ u ∈ AddonM.cells x,u.oneCell' = true) := by
  intro x hx u hu
  obtain ⟨i,hi,e⟩ := List.getElem_of_mem hx
  obtain ⟨h1,h2⟩ := h.2 i x (by rw [List.getElem?_eq_getElem hi,e])
  obtain ⟨_,_,_,e1⟩ := Rd.shape h1
  obtain ⟨_,_,_,e2⟩ := Rd.shape h2
  simp [AddonM.cells] at hu
  rcases hu with rfl | rfl | rfl | rfl | rfl | rfl <;> first | rfl | (rw [e1];rfl) | (rw [e2];rfl)
 clear h hl hle hmax
 cases ao with
 | none =>
  have hnil := hz rfl
  subst hnil
  rw [List.length_nil]
  clear hz hh hns hst
  go_enter Tryz.func24,Tryz.ntmps24
  go_wp2
  go_ret
  exact ⟨_,rfl,OwnS.nil _ _ _,Below.refl _ _⟩
 | some ad =>
  clear hz
  go_enter Tryz.func24,Tryz.ntmps24
  go_wp2_with (with_reducible refine wpList_appendS _ rfl _ _ 22 rfl (sz := 6) (V := AddonM.cells) (R := AddonR) (fun _ => rfl) w.heap.size 61 (.agg #[.string ⟨#[]⟩,.int .i64 0,.int .i64 0,.slice none 0 0,.int .i64 0,.slice none 0 0]) 88 Tryz.underlying22 infoA rfl (by decide) _ [] rfl ?_ _ l rfl ?_ ?_ ?_ ?_ ?_ ?_ ?_)
  case refine_1 => exact ⟨World.ownsRow_made w #[] 0 (Nat.le_refl _) (by decide) rfl,fun x hx => by cases hx⟩
  case refine_2 => exact hh.out.below (Bel.al (Below.refl _ _) _)
  case refine_3 => exact hst.out _ _ (Bel.al (Below.refl _ _) _) (fun k hk => by have h9 : some w.heap.size = some k := hk;injection h9 with h9;omega)
  case refine_4 => exact hone.out
  case refine_5 => have := hns.out;simp;omega
  case refine_6 => have := hns.out;simp;omega
  case refine_7 => simp
  intro v2 w2 hown2 hg2w hv2
  have bw2 : Below w.heap.size w w2 := (Bel.al (Below.refl _ _) _).grown hg2w (by simp) (fun g hg => by simp [Value.ownBlock] at hg;omega)
  obtain ⟨a2,c2,rfl⟩ := hown2.shape
  clear hg2w hv2 hh
  go_wp2
  go_ret
  exact ⟨_,rfl,hown2,bw2⟩
theorem addonE_lens {a : AddonD} (h : addonE a = 0) : a.factors.length ≤ 8 ∧ a.prizes.length ≤ 8 := by
 unfold addonE at h
 split at h
 ·exact absurd h (by simp)
 ·split at h
  ·exact absurd h (by simp)
  ·split at h
   ·exact absurd h (by simp)
   ·split at h
    ·split at h
     ·exact absurd h (by simp)
     ·rename_i h1
      split at h
      ·exact absurd h (by simp)
      ·rename_i h2
       have h3 : inB a.factors.length 1 8 = true := by cases hx : inB (a.factors.length : Int) 1 8 <;> simp_all
       have := inB_iff.1 h3
       exact ⟨by omega,by omega⟩
    ·split at h
     ·exact absurd h (by simp)
     ·rename_i h1
      split at h
      ·exact absurd h (by simp)
      ·rename_i h2
       have h3 : inB a.digits 1 8 = true := by cases hx : inB a.digits 1 8 <;> simp_all
       have := inB_iff.1 h3
       split at h
       ·exact absurd h (by simp)
       ·rename_i h4
        exact ⟨by omega,by omega⟩
theorem game_tiers {g : GameD} (h : gameE g = 0) : g.tiers.length ≤ 12 := by
 unfold gameE at h
 repeat (split at h;· exact absurd h (by simp))
 split at h
 ·rename_i h1;exact absurd h h1
 ·unfold tiersE at h
  split at h
  ·exact absurd h (by simp)
  ·rename_i h1
   have h3 : inB g.tiers.length 1 12 = true := by cases hx : inB (g.tiers.length : Int) 1 12 <;> simp_all
   have := inB_iff.1 h3
   omega
theorem tier_len (t : TierD) : (tierCells t).length = 6 := rfl
theorem addon_len (m : AddonM) : m.cells.length = 6 := rfl
section
variable {α : Type} {sz : Nat} {V : α → List Value} {R : World → α → Prop} {w X : World} {base e : Nat} {v : Value} {l : List α}
theorem OwnS.farR (h : OwnS sz V R w base e v l) {p : Addr} (hp : p.block < base) (u : Value) (hS : ∀ x ∈ l,Stay (w.setCell p u) v.ownBlock fun X => R X x) : OwnS sz V R (w.setCell p u) base e v l :=
 ⟨World.ownsRow.kept h.1 (row := some p.block) (Gb.set (Gb.refl w (some p.block)) (.inl rfl) _) (by
  cases hx : v.ownBlock with
  | none => exact .inl rfl
  | some k => exact .inr (fun e => by have h1 := (h.lt k hx).1;injection e with e;omega)),hS⟩
theorem OwnS.belowB {B : Nat} (h : OwnS sz V (fun _ _ => True) w base e v l) (hlt : ∀ k,v.ownBlock = some k → k < B) (hX : Below B w X) : OwnS sz V (fun _ _ => True) X base e v l := by
 refine ⟨⟨h.1.1,?_⟩,fun _ _ _ _ => trivial⟩
 rcases h.1.2 with hn | ⟨g,cap,cur,rfl,hb,hg,hr⟩
 ·exact .inl hn
 ·exact .inr ⟨g,cap,cur,rfl,hb,(hX.block g (hlt g rfl)).trans hg,hr⟩
end
def NewO (g : GameD) (w : World) (e : Ending) (w' : World) : Prop := ∃ (Wm : World) (ib mk mp : Nat) (av tv : Value) (ms : List AddonM),
 e = .returned (.tuple #[.pointer (some ⟨ib,0,none⟩),.int .i64 0]) ∧ GameR Wm av tv ms g ∧ Below w.heap.size w Wm ∧ Below Wm.heap.size Wm w' ∧ Wm.heap.size ≤ ib ∧ Wm.heap.size ≤ mk ∧ Wm.heap.size ≤ mp ∧ ib ≠ mk ∧ ib ≠ mp ∧ mk ≠ mp ∧
 w'.heap[mk]? = some (.map #[] 0) ∧ w'.heap[mp]? = some (.map #[] 0) ∧ Row w' ib 80 (gameCells g av tv ++ [.map (some mk),.slice none 0 0,.slice none 0 0,.map (some mp)])
set_option maxHeartbeats 2000000 in
set_option maxRecDepth 100000 in
theorem inew_bad (g : GameD) (av tv : Value) (ms : List AddonM) (w : World) (hg : GameR w av tv ms g) (he : gameE g ≠ 0) :
  Calls Tryz.prog 9 #[gameVal g av tv] w (fun e w' => e = .returned (.tuple #[.pointer none,.int .i64 (gameE g)]) ∧ Below w.heap.size w w') := by
 have cC := hide (fun X (hX : Below w.heap.size w X) => mcount_bad g av tv ms X (hg.below hX) he)
 obtain ⟨aa,ac,rfl,hal,ham⟩ := hg.1.1.shape
 obtain ⟨ta,tc,rfl,htl,htm⟩ := hg.2.2.shape
 obtain ⟨c,hcc⟩ : ∃ c,c = gameE g := ⟨_,rfl⟩
 rw [← hcc] at cC he ⊢
 have hcb : (c != 0) = true := by simpa using he
 clear hg hcc hal ham htl htm
 replace he := hide he
 unfold gameVal at cC ⊢
 go_enter Tryz.func9,Tryz.ntmps9
 go_upto_region 1 with (fail)
 obtain ⟨W,hW⟩ : ∃ W,W = (w.alloc (Obj.cells #[.string g.name,.int .i64 g.kind,.int .i64 g.price,.int .i64 g.main,.int .i64 g.of,.int .i64 g.bonus,.int .i64 g.bonusOf,.int .i64 g.extra,.int .i64 g.draws,.int .i64 g.system,.int .i64 g.days,.int .i64 g.at_,.int .i64 g.close,.int .i64 g.cancel,.int .i64 g.expiry,.int .i64 g.pool,.int .i64 g.reserve,.int .i64 g.round,.int .i64 g.cap,.int .i64 g.rolls,(.slice aa ms.length ac),(.slice ta g.tiers.length tc)] 25)) := ⟨_,rfl⟩
 have bW : Below w.heap.size w W := by rw [hW];exact Bel.al (Below.refl _ _) _
 have r0 : GameAt W (w.heap.size) g ((.slice aa ms.length ac)) ((.slice ta g.tiers.length tc)) := by rw [hW];exact Row.new _ _ _
 have sW : w.heap.size < W.heap.size := by rw [hW];simp
 rw [← hW]
 clear hW
 go_wp2_with (first | (refine wpList_load_row rfl 25 _ rfl _ rfl _ _ _ _ r0 Tryz.underlying25 rfl (by kernel_rfl) ?_) | fail)
 refine (cC.out _ bW).mono ?_
 rintro e w1 ⟨rfl,hb1⟩
 go_wp2
 go_ret2
 exact ⟨rfl,Bel.to bW hb1⟩
set_option maxHeartbeats 8000000 in
set_option maxRecDepth 100000 in
theorem inew_ok (g : GameD) (av tv : Value) (ms : List AddonM) (w : World) (hg : GameR w av tv ms g) (he : gameE g = 0) :
  Calls Tryz.prog 9 #[gameVal g av tv] w (NewO g w) := by
 have cC := hide (fun X (hX : Below w.heap.size w X) => mcount_ok g av tv ms X (hg.below hX) he)
 have hadl : ms.length = g.addons.length := by rw [← hg.2.1,List.length_map]
 obtain ⟨ga4,gaE⟩ := game_addons he
 have gt12 := game_tiers he
 have hlens : ∀ a ∈ g.addons,a.factors.length ≤ 8 ∧ a.prizes.length ≤ 8 := fun a ha => addonE_lens (gaE a ha)
 have hmd := hide hg.2.1
 have cT := hide (fun X (hX : Below w.heap.size w X) => cloneT_any tv g.tiers X (hg.below hX).2.2 (by omega))
 have cA := hide (fun X (hX : Below w.heap.size w X) => cloneA_any av ms X (hg.below hX).1 (by omega))
 have hAR := hide (fun X (hX : Below w.heap.size w X) m (hm : m ∈ ms) => show AddonR X m from by obtain ⟨i,hi,e⟩ := List.getElem_of_mem hm;exact (hg.below hX).1.2 i m (by rw [List.getElem?_eq_getElem hi,e]))
 obtain ⟨aa,ac,rfl,hal,ham⟩ := hg.1.1.shape
 obtain ⟨ta,tc,rfl,htl,htm⟩ := hg.2.2.shape
 obtain ⟨M,hM⟩ : ∃ M,M = ms.length := ⟨_,rfl⟩
 have hM4 : M ≤ 4 := by omega
 obtain ⟨NT,hNT⟩ : ∃ NT,NT = g.tiers.length := ⟨_,rfl⟩
 have hMh := hide hM
 have hNTh := hide hNT
 have hlens := hide hlens
 obtain ⟨cg,hcg⟩ : ∃ c,c = countG g := ⟨_,rfl⟩
 rw [← hcg] at cC
 rw [← hM] at cC cA ⊢
 rw [← hNT] at cC cT ⊢
 clear hg he hadl ga4 gaE gt12 hal ham htl htm hM hNT hcg
 unfold gameVal at cC ⊢
 go_enter Tryz.func9,Tryz.ntmps9
 go_upto_region 1 with (fail)
 obtain ⟨W,hW⟩ : ∃ W,W = (w.alloc (Obj.cells #[.string g.name,.int .i64 g.kind,.int .i64 g.price,.int .i64 g.main,.int .i64 g.of,.int .i64 g.bonus,.int .i64 g.bonusOf,.int .i64 g.extra,.int .i64 g.draws,.int .i64 g.system,.int .i64 g.days,.int .i64 g.at_,.int .i64 g.close,.int .i64 g.cancel,.int .i64 g.expiry,.int .i64 g.pool,.int .i64 g.reserve,.int .i64 g.round,.int .i64 g.cap,.int .i64 g.rolls,(.slice aa M ac),(.slice ta NT tc)] 25)) := ⟨_,rfl⟩
 have bW : Below w.heap.size w W := by rw [hW];exact Bel.al (Below.refl _ _) _
 have r0 : GameAt W (w.heap.size) g ((.slice aa M ac)) ((.slice ta NT tc)) := by rw [hW];exact Row.new _ _ _
 have sW : w.heap.size < W.heap.size := by rw [hW];simp
 rw [← hW]
 clear hW
 go_wp2_with (first | (refine wpList_load_row rfl 25 _ rfl _ rfl _ _ _ _ r0 Tryz.underlying25 rfl (by kernel_rfl) ?_) | fail)
 refine (cC.out _ bW).mono ?_
 rintro e w1 ⟨rfl,hb⟩
 replace bW := Bel.to bW hb
 replace r0 := r0.keep hb
 have d21 := r0.tiers
 clear hb
 go_wp2_with fail
 refine (cT.out _ bW).mono ?_
 rintro e w2 ⟨u,rfl,hoT,hb⟩
 replace bW := Bel.to bW hb
 replace r0 := r0.keep hb
 obtain ⟨va,vc,rfl⟩ := hoT.shape
 rw [← hNTh.out] at hoT ⊢
 have hTlt := hoT.lt
 have s1 : w.heap.size < w1.heap.size := World.block_lt_of_cell? w1 _ d21
 have d21 := r0.tiers
 have f21 := Row.frozen r0 21
 go_upto_region 5 with (fail)
 have rG : GameAt (w2.setCell ⟨w.heap.size,21,none⟩ (.slice va NT vc)) w.heap.size g (.slice aa M ac) (.slice va NT vc) := Row.set r0 21 (.slice va NT vc)
 have bG : Below w.heap.size w (w2.setCell ⟨w.heap.size,21,none⟩ (.slice va NT vc)) := bW.setCell (p := ⟨w.heap.size,21,none⟩) (Nat.le_refl _) _
 have hoT3 := OwnS.farR hoT (p := ⟨w.heap.size,21,none⟩) s1 (.slice va NT vc) (fun _ _ _ _ => trivial)
 obtain ⟨W3,hW3⟩ : ∃ W3,W3 = w2.setCell ⟨w.heap.size,21,none⟩ (.slice va NT vc) := ⟨_,rfl⟩
 rw [← hW3] at rG bG hoT3 ⊢
 have z3 : W3.heap.size = w2.heap.size := by rw [hW3];simp [World.setCell]
 clear hW3 hoT d21 f21 r0 bW hb
 have d20 := rG.addons
 have s3 : w.heap.size < W3.heap.size := World.block_lt_of_cell? W3 _ d20
 go_wp2_with fail
 refine (cA.out _ bG).mono ?_
 rintro e w4 ⟨u,rfl,hoA,hb⟩
 replace bG := Bel.to bG hb
 replace rG := rG.keep hb
 have hoT4 := hoT3.keep hb
 obtain ⟨ua,uc,rfl⟩ := hoA.shape
 rw [← hMh.out] at hoA ⊢
 have hAlt := hoA.lt
 have d20 := rG.addons
 have f20 := Row.frozen rG 20
 go_upto_region 6 with (fail)
 have rG5 : GameAt (w4.setCell ⟨w.heap.size,20,none⟩ (.slice ua M uc)) w.heap.size g (.slice ua M uc) (.slice va NT vc) := Row.set rG 20 (.slice ua M uc)
 have bG5 : Below w.heap.size w (w4.setCell ⟨w.heap.size,20,none⟩ (.slice ua M uc)) := bG.setCell (p := ⟨w.heap.size,20,none⟩) (Nat.le_refl _) _
 have hoT5 := OwnS.farR hoT4 (p := ⟨w.heap.size,20,none⟩) s1 (.slice ua M uc) (fun _ _ _ _ => trivial)
 have hoA5 := OwnS.farR hoA (p := ⟨w.heap.size,20,none⟩) s3 (.slice ua M uc) (fun x hx => Stay.below (fun Y hY => hAR.out Y hY x hx) bG5 (fun k hk => by have := (hAlt k hk).1;omega))
 obtain ⟨W5,hW5⟩ : ∃ W5,W5 = w4.setCell ⟨w.heap.size,20,none⟩ (.slice ua M uc) := ⟨_,rfl⟩
 rw [← hW5] at rG5 bG5 hoT5 hoA5 ⊢
 have z5 : W3.heap.size ≤ W5.heap.size := by rw [hW5];simpa [World.setCell] using hb.size
 clear hW5 d20 f20 rG bG hoT4 hoT3 hoA hb
 have d20 := rG5.addons
 have hTB : ∀ X,Below W3.heap.size W5 X → RdS 6 tierCells X (.slice va NT vc) g.tiers := fun X hX => OwnS.rd tier_len (OwnS.belowB hoT5 (fun k hk => by have := (hTlt k hk).2;omega) hX)
 replace hTB := hide hTB
 clear hoT5 hTlt
 obtain ⟨B3,hB3⟩ : ∃ B3,B3 = W3.heap.size := ⟨_,rfl⟩
 rw [← hB3] at hoA5 z5 s3 hTB hAlt
 have hms := hide (show ms.length = M from hMh.out.symm)
 clear hB3 z3
 go_wp2
 go_loopg [6,27] M (fun gh _ t wr => ∃ (i : Nat) (l : List AddonM),gh = M - i ∧ i ≤ M ∧ t = .int .i64 (i : Int) ∧ OwnS 6 AddonM.cells AddonR wr B3 61 (.slice ua M uc) l ∧ Hid (l.length = M) ∧ Hid (l.map (·.d) = g.addons) ∧ Below B3 W5 wr)
 case atStart => exact ⟨0,ms,rfl,Nat.zero_le _,rfl,hoA5,hms.out,hmd.out,Below.refl _ _⟩
 case round =>
  obtain ⟨i,l,hgh,hi,rfl,hoL,hll,hld,hB⟩ := hrel
  replace hgh := hide hgh
  have rGw : GameAt wr w.heap.size g (.slice ua M uc) (.slice va NT vc) := Row.below rG5 hB s3
  have d20 := rGw.addons
  by_cases hlt : i < M
  ·have hlt2 := hide hlt
   have hil : i < l.length := by have := hll.out;omega
   obtain ⟨ga,rfl⟩ : ∃ ga,ua = some (⟨ga,0,none⟩ : Addr) := by
    rcases hoL.1.2 with ⟨e,-⟩ | ⟨ga,cap,cur,e,-⟩
    ·injection e with _ e _;omega
    ·injection e with e _ _;exact ⟨ga,e⟩
   have hga := (hoL.lt ga rfl)
   have gne : w.heap.size ≠ ga := by omega
   obtain ⟨m,hm⟩ : ∃ m,m = l[i] := ⟨_,rfl⟩
   have hmi : l[i]? = some m := by rw [hm];exact List.getElem?_eq_getElem hil
   have hmem : m ∈ l := by rw [hm];exact List.getElem_mem hil
   have hmd2 := hlens.out m.d (by rw [← hld.out];exact List.mem_map.2 ⟨m,hmem,rfl⟩)
   obtain ⟨md,fv,pv⟩ := m
   obtain ⟨hfl,hpl⟩ := hmd2
   simp only [] at hfl hpl
   have i1 : (0 : Int) ≤ (i : Int) := by omega
   have i2 : (i : Int) < (M : Int) := by omega
   have bd : Below wr.heap.size wr wr.drew := Below.drewSelf _
   obtain ⟨hrf,hrp⟩ := hoL.reads _ hmem
   simp only [] at hrf hrp
   obtain ⟨b0,off0,e0,-,hcell⟩ := (OwnS.rd addon_len hoL).at_ (i := i) hil
   injection e0 with e0
   injection e0 with e01 e02
   subst e01 e02
   have c3 : wr.cell? ⟨ga,i * 6 + 3,none⟩ = some fv := by have := hcell i _ hmi 3 _ rfl;rwa [Nat.zero_add] at this
   have f3 : wr.frozen? ⟨ga,i * 6 + 3,none⟩ = false := OwnS.frozen hoL _
   have c3d : wr.drew.cell? ⟨ga,i * 6 + 3,none⟩ = some fv := c3
   have d20d : wr.drew.cell? ⟨w.heap.size,20,none⟩ = some (.slice (some ⟨ga,0,none⟩) M uc) := d20
   have cF := hide (sclone15_any fv md.factors wr.drew (hrf.below bd) (by omega))
   obtain ⟨x1,x2,x3,rfl⟩ := Rd.shape hrf
   clear hcell
   go_upto_region 9 with (fail)
   refine wp_region_held_drew (S := fun X => X.cell? ⟨w.heap.size,20,none⟩ = some (.slice (some ⟨ga,0,none⟩) M uc)) (by kernel_rfl) (d20) (fun hHeld => ?_)
   refine' wpAnyH_take (i := 0) (oi := _) (v := .pointer (some ⟨w.heap.size,20,none⟩)) rfl (by kernel_rfl) (by kernel_rfl) (by kernel_rfl) (fun _ _ _ h => h) (Or.inl ⟨by first | (go_simp;done) | rfl,fun X _ => by go_simp⟩) hHeld ?_
   try simp only [Act.put,zsA,zsB,zsC]
   refine' wpAnyH_take (i := 1) (oi := _) (v := .slice (some ⟨ga,0,none⟩) M uc) rfl (by kernel_rfl) (by kernel_rfl) (by kernel_rfl) (fun _ _ _ h => h) (Or.inl ⟨by first | (go_simp;done) | rfl,fun X hX => by go_simp⟩) hHeld ?_
   try simp only [Act.put,zsA,zsB,zsC]
   refine' wpAnyH_take (i := 2) (oi := _) (v := .int .i64 (i : Int)) rfl (by kernel_rfl) (by kernel_rfl) (by kernel_rfl) (fun _ _ _ h => h) (Or.inl ⟨by first | (go_simp;done) | rfl,fun X _ => by go_simp⟩) hHeld ?_
   try simp only [Act.put,zsA,zsB,zsC]
   refine' wpAnyH_take (i := 3) (oi := _) (v := .pointer (some ⟨w.heap.size,20,none⟩)) rfl (by kernel_rfl) (by kernel_rfl) (by kernel_rfl) (fun _ _ _ h => h) (Or.inl ⟨by first | (go_simp;done) | rfl,fun X _ => by go_simp⟩) hHeld ?_
   try simp only [Act.put,zsA,zsB,zsC]
   refine' wpAnyH_take (i := 4) (oi := _) (v := .slice (some ⟨ga,0,none⟩) M uc) rfl (by kernel_rfl) (by kernel_rfl) (by kernel_rfl) (fun _ _ _ h => h) (Or.inl ⟨by first | (go_simp;done) | rfl,fun X hX => by go_simp⟩) hHeld ?_
   try simp only [Act.put,zsA,zsB,zsC]
   refine' wpAnyH_take (i := 5) (oi := _) (v := .int .i64 (i : Int)) rfl (by kernel_rfl) (by kernel_rfl) (by kernel_rfl) (fun _ _ _ h => h) (Or.inl ⟨by first | (go_simp;done) | rfl,fun X _ => by go_simp⟩) hHeld ?_
   try simp only [Act.put,zsA,zsB,zsC]
   refine' wpAnyH_take (i := 6) (oi := _) (v := .pointer (some ⟨ga,i * 6,none⟩)) rfl (by kernel_rfl) (by kernel_rfl) (by kernel_rfl) (fun _ _ _ h => h) (Or.inl ⟨by first | (go_simp;done) | rfl,fun X _ => by go_simp⟩) hHeld ?_
   try simp only [Act.put,zsA,zsB,zsC]
   refine' wpAnyH_take (i := 7) (oi := _) (v := .pointer (some ⟨ga,i * 6 + 3,none⟩)) rfl (by kernel_rfl) (by kernel_rfl) (by kernel_rfl) (fun _ _ _ h => h) (Or.inl ⟨by first | (go_simp;done) | rfl,fun X _ => by go_simp⟩) hHeld ?_
   try simp only [Act.put,zsA,zsB,zsC]
   refine wpAnyH_ready (rs := [8]) (by kernel_rfl) (by simp) ?_
   refine AllReadyH.cons (o := _) rfl (fun K hK => ?_) AllReadyH.nil
   go_simp
   refine hK.out _ _ hHeld (fun hHeld => ?_)
   clear hK K
   try simp only [Act.put,zsA,zsB,zsC]
   refine wpAnyH_ready (rs := [9]) (by kernel_rfl) (by simp) ?_
   refine AllReadyH.cons (o := _) rfl (fun K hK => ?_) AllReadyH.nil
   go_simp
   refine (cF.out).mono ?_
   rintro e wa ⟨v,rfl,hrv,hfv,hba⟩
   obtain ⟨v1,v2,v3,rfl⟩ := Rd.shape hrv
   go_wp2_with fail
   refine hK.out _ _ (Bel.cellOf hba hHeld) (fun hHeld => ?_)
   clear hK K
   try simp only [Act.put,zsA,zsB,zsC]
   refine' wpAnyH_take (i := 10) (oi := _) (v := .pointer (some ⟨ga,i * 6,none⟩)) rfl (by kernel_rfl) (by kernel_rfl) (by kernel_rfl) (fun _ _ _ h => h) (Or.inl ⟨by first | (go_simp;done) | rfl,fun X _ => by go_simp⟩) hHeld ?_
   try simp only [Act.put,zsA,zsB,zsC]
   refine' wpAnyH_take (i := 11) (oi := _) (v := .pointer (some ⟨ga,i * 6 + 3,none⟩)) rfl (by kernel_rfl) (by kernel_rfl) (by kernel_rfl) (fun _ _ _ h => h) (Or.inl ⟨by first | (go_simp;done) | rfl,fun X _ => by go_simp⟩) hHeld ?_
   try simp only [Act.put,zsA,zsB,zsC]
   have ba := Bel.to bd hba
   have hoLa := hoL.keep ba
   have rGa := Row.keep rGw ba
   have c3a := Bel.cellOf ba c3
   have f3a := Bel.frozenOf ba c3 f3
   have hsta : Stay (wa.setCell ⟨ga,i * 6 + 3,none⟩ (.slice v1 v2 v3)) (some ga) fun X => AddonR X ⟨md,.slice v1 v2 v3,pv⟩ := fun X hX => by
    have hgx : wa.grownBy X (some ga) := World.grownBy.trans (Gb.set (Gb.refl wa (some ga)) (.inl rfl) _) hX
    refine ⟨Rd.grownA hrv hgx ?_,((hoLa.2 _ hmem) X hgx).2⟩
    rcases hfv with h | ⟨k,hk,hkb⟩
    ·exact .inl h
    ·exact .inr (fun e => by have h9 := hk.symm.trans e;injection h9 with h9;have : wr.heap.size ≤ k := Nat.le_trans bd.size hkb;omega)
   obtain ⟨hoL1,hg1⟩ := OwnS.put addon_len hoLa i 3 hil (by omega) ⟨md,.slice v1 v2 v3,pv⟩ (.slice v1 v2 v3) (by rw [← hm];rfl) hsta
   have rG1 : GameAt (wa.setCell ⟨ga,i * 6 + 3,none⟩ (.slice v1 v2 v3)) w.heap.size g (.slice (some ⟨ga,0,none⟩) M uc) (.slice va NT vc) := Row.far rGa (p := ⟨ga,i * 6 + 3,none⟩) gne _
   have B1 : Below B3 W5 (wa.setCell ⟨ga,i * 6 + 3,none⟩ (.slice v1 v2 v3)) := (hB.trans (ba.mono (by have := hB.size;omega))).setCell (p := ⟨ga,i * 6 + 3,none⟩) hga.1 _
   refine wpAnyH_ready (rs := [12]) (by kernel_rfl) (by simp) ?_
   refine AllReadyH.cons (o := _) rfl (fun K hK => ?_) AllReadyH.nil
   go_simp
   refine hK.out _ _ (GameAt.addons rG1) (fun hHeld => ?_)
   clear hK K
   try simp only [Act.put,zsA,zsB,zsC]
   refine wpAnyH_done (by kernel_rfl) ?_ _
   go_simp
   clear hHeld
   obtain ⟨W8,hW8⟩ : ∃ W8,W8 = wa.setCell ⟨ga,i * 6 + 3,none⟩ (.slice v1 v2 v3) := ⟨_,rfl⟩
   have z8 : wr.heap.size ≤ W8.heap.size := by rw [hW8];simpa [World.setCell] using ba.size
   rw [← hW8] at hoL1 rG1 B1 ⊢
   have hl1 : i < (l.set i ⟨md,.slice v1 v2 v3,pv⟩).length := by rw [List.length_set];exact hil
   have hm1 : (l.set i ⟨md,.slice v1 v2 v3,pv⟩)[i] = ⟨md,.slice v1 v2 v3,pv⟩ := List.getElem_set_self _
   have hmi1 : (l.set i ⟨md,.slice v1 v2 v3,pv⟩)[i]? = some ⟨md,.slice v1 v2 v3,pv⟩ := by rw [List.getElem?_eq_getElem hl1,hm1]
   have hmem1 : (⟨md,.slice v1 v2 v3,pv⟩ : AddonM) ∈ l.set i ⟨md,.slice v1 v2 v3,pv⟩ := List.mem_of_getElem? hmi1
   have hd1 : Hid ((l.set i ⟨md,.slice v1 v2 v3,pv⟩).map (·.d) = g.addons) := by
    show _ = _
    rw [List.map_set,← hld.out]
    have h9 : (l.map (·.d))[i]'(by rw [List.length_map];exact hil) = md := by rw [List.getElem_map,← hm]
    rw [← h9]
    exact List.set_getElem_self _
   clear hW8 hoLa rGa c3a f3a hsta hg1 hrv hfv hba ba hoL rGw d20 d20d c3 c3d f3 cF hrf hrp hmi hm hB
   obtain ⟨l1,hl1e⟩ : ∃ l1,l1 = l.set i ⟨md,.slice v1 v2 v3,pv⟩ := ⟨_,rfl⟩
   have hll1 : Hid (l1.length = M) := by show _ = _;rw [hl1e,List.length_set];exact hll.out
   have hl2 : i < l1.length := by rw [hl1e];exact hl1
   rw [← hl1e] at hoL1 hmi1 hmem1 hd1
   have hm1' : l1[i] = ⟨md,.slice v1 v2 v3,pv⟩ := by
    have h9 := hmi1
    rw [List.getElem?_eq_getElem hl2] at h9
    injection h9
   clear hl1e hm1 hll hld hmem hl1
   have hga1 := hoL1.lt ga rfl
   obtain ⟨-,hrp⟩ := hoL1.reads _ hmem1
   simp only [] at hrp
   obtain ⟨b0,off0,e0,-,hcell⟩ := (OwnS.rd addon_len hoL1).at_ (i := i) hl2
   injection e0 with e0
   injection e0 with e01 e02
   subst e01 e02
   have c5 : W8.cell? ⟨ga,i * 6 + 5,none⟩ = some pv := by have := hcell i _ hmi1 5 _ rfl;rwa [Nat.zero_add] at this
   have f5 : W8.frozen? ⟨ga,i * 6 + 5,none⟩ = false := OwnS.frozen hoL1 _
   have d20 := GameAt.addons rG1
   have bd : Below W8.heap.size W8 W8.drew := Below.drewSelf _
   have c5d : W8.drew.cell? ⟨ga,i * 6 + 5,none⟩ = some pv := c5
   have d20d : W8.drew.cell? ⟨w.heap.size,20,none⟩ = some (.slice (some ⟨ga,0,none⟩) M uc) := d20
   have cP := hide (sclone15_any pv md.prizes W8.drew (hrp.below bd) (by omega))
   obtain ⟨y1,y2,y3,rfl⟩ := Rd.shape hrp
   clear hcell
   go_upto_region 10 with (fail)
   refine wp_region_held_drew (S := fun X => X.cell? ⟨w.heap.size,20,none⟩ = some (.slice (some ⟨ga,0,none⟩) M uc)) (by kernel_rfl) (d20) (fun hHeld => ?_)
   refine' wpAnyH_take (i := 0) (oi := _) (v := .pointer (some ⟨w.heap.size,20,none⟩)) rfl (by kernel_rfl) (by kernel_rfl) (by kernel_rfl) (fun _ _ _ h => h) (Or.inl ⟨by first | (go_simp;done) | rfl,fun X _ => by go_simp⟩) hHeld ?_
   try simp only [Act.put,zsA,zsB,zsC]
   refine' wpAnyH_take (i := 1) (oi := _) (v := .slice (some ⟨ga,0,none⟩) M uc) rfl (by kernel_rfl) (by kernel_rfl) (by kernel_rfl) (fun _ _ _ h => h) (Or.inl ⟨by first | (go_simp;done) | rfl,fun X hX => by go_simp⟩) hHeld ?_
   try simp only [Act.put,zsA,zsB,zsC]
   refine' wpAnyH_take (i := 2) (oi := _) (v := .int .i64 (i : Int)) rfl (by kernel_rfl) (by kernel_rfl) (by kernel_rfl) (fun _ _ _ h => h) (Or.inl ⟨by first | (go_simp;done) | rfl,fun X _ => by go_simp⟩) hHeld ?_
   try simp only [Act.put,zsA,zsB,zsC]
   refine' wpAnyH_take (i := 3) (oi := _) (v := .pointer (some ⟨w.heap.size,20,none⟩)) rfl (by kernel_rfl) (by kernel_rfl) (by kernel_rfl) (fun _ _ _ h => h) (Or.inl ⟨by first | (go_simp;done) | rfl,fun X _ => by go_simp⟩) hHeld ?_
   try simp only [Act.put,zsA,zsB,zsC]
   refine' wpAnyH_take (i := 4) (oi := _) (v := .slice (some ⟨ga,0,none⟩) M uc) rfl (by kernel_rfl) (by kernel_rfl) (by kernel_rfl) (fun _ _ _ h => h) (Or.inl ⟨by first | (go_simp;done) | rfl,fun X hX => by go_simp⟩) hHeld ?_
   try simp only [Act.put,zsA,zsB,zsC]
   refine' wpAnyH_take (i := 5) (oi := _) (v := .int .i64 (i : Int)) rfl (by kernel_rfl) (by kernel_rfl) (by kernel_rfl) (fun _ _ _ h => h) (Or.inl ⟨by first | (go_simp;done) | rfl,fun X _ => by go_simp⟩) hHeld ?_
   try simp only [Act.put,zsA,zsB,zsC]
   refine' wpAnyH_take (i := 6) (oi := _) (v := .pointer (some ⟨ga,i * 6,none⟩)) rfl (by kernel_rfl) (by kernel_rfl) (by kernel_rfl) (fun _ _ _ h => h) (Or.inl ⟨by first | (go_simp;done) | rfl,fun X _ => by go_simp⟩) hHeld ?_
   try simp only [Act.put,zsA,zsB,zsC]
   refine' wpAnyH_take (i := 7) (oi := _) (v := .pointer (some ⟨ga,i * 6 + 5,none⟩)) rfl (by kernel_rfl) (by kernel_rfl) (by kernel_rfl) (fun _ _ _ h => h) (Or.inl ⟨by first | (go_simp;done) | rfl,fun X _ => by go_simp⟩) hHeld ?_
   try simp only [Act.put,zsA,zsB,zsC]
   refine wpAnyH_ready (rs := [8]) (by kernel_rfl) (by simp) ?_
   refine AllReadyH.cons (o := _) rfl (fun K hK => ?_) AllReadyH.nil
   go_simp
   refine hK.out _ _ hHeld (fun hHeld => ?_)
   clear hK K
   try simp only [Act.put,zsA,zsB,zsC]
   refine wpAnyH_ready (rs := [9]) (by kernel_rfl) (by simp) ?_
   refine AllReadyH.cons (o := _) rfl (fun K hK => ?_) AllReadyH.nil
   go_simp
   refine (cP.out).mono ?_
   rintro e wb ⟨u,rfl,hru,hfu,hbb⟩
   obtain ⟨u1,u2,u3,rfl⟩ := Rd.shape hru
   go_wp2_with fail
   refine hK.out _ _ (Bel.cellOf hbb hHeld) (fun hHeld => ?_)
   clear hK K
   try simp only [Act.put,zsA,zsB,zsC]
   refine' wpAnyH_take (i := 10) (oi := _) (v := .pointer (some ⟨ga,i * 6,none⟩)) rfl (by kernel_rfl) (by kernel_rfl) (by kernel_rfl) (fun _ _ _ h => h) (Or.inl ⟨by first | (go_simp;done) | rfl,fun X _ => by go_simp⟩) hHeld ?_
   try simp only [Act.put,zsA,zsB,zsC]
   refine' wpAnyH_take (i := 11) (oi := _) (v := .pointer (some ⟨ga,i * 6 + 5,none⟩)) rfl (by kernel_rfl) (by kernel_rfl) (by kernel_rfl) (fun _ _ _ h => h) (Or.inl ⟨by first | (go_simp;done) | rfl,fun X _ => by go_simp⟩) hHeld ?_
   try simp only [Act.put,zsA,zsB,zsC]
   have bb := Bel.to bd hbb
   have hoLb := hoL1.keep bb
   have rGb := Row.keep rG1 bb
   have c5b := Bel.cellOf bb c5
   have f5b := Bel.frozenOf bb c5 f5
   have hstb : Stay (wb.setCell ⟨ga,i * 6 + 5,none⟩ (.slice u1 u2 u3)) (some ga) fun X => AddonR X ⟨md,.slice v1 v2 v3,.slice u1 u2 u3⟩ := fun X hX => by
    have hgx : wb.grownBy X (some ga) := World.grownBy.trans (Gb.set (Gb.refl wb (some ga)) (.inl rfl) _) hX
    refine ⟨((hoLb.2 _ hmem1) X hgx).1,Rd.grownA hru hgx ?_⟩
    rcases hfu with h | ⟨k,hk,hkb⟩
    ·exact .inl h
    ·exact .inr (fun e => by have h9 := hk.symm.trans e;injection h9 with h9;have : W8.heap.size ≤ k := Nat.le_trans bd.size hkb;omega)
   obtain ⟨hoL2,hg2⟩ := OwnS.put addon_len hoLb i 5 hl2 (by omega) ⟨md,.slice v1 v2 v3,.slice u1 u2 u3⟩ (.slice u1 u2 u3) (by rw [hm1'];rfl) hstb
   have rG2 : GameAt (wb.setCell ⟨ga,i * 6 + 5,none⟩ (.slice u1 u2 u3)) w.heap.size g (.slice (some ⟨ga,0,none⟩) M uc) (.slice va NT vc) := Row.far rGb (p := ⟨ga,i * 6 + 5,none⟩) gne _
   have B2 : Below B3 W5 (wb.setCell ⟨ga,i * 6 + 5,none⟩ (.slice u1 u2 u3)) := (B1.trans (bb.mono (by have := B1.size;omega))).setCell (p := ⟨ga,i * 6 + 5,none⟩) hga1.1 _
   have hd2 : Hid ((l1.set i ⟨md,.slice v1 v2 v3,.slice u1 u2 u3⟩).map (·.d) = g.addons) := by
    show _ = _
    rw [List.map_set,← hd1.out]
    have h9 : (l1.map (·.d))[i]'(by rw [List.length_map];exact hl2) = md := by rw [List.getElem_map,hm1']
    rw [← h9]
    exact List.set_getElem_self _
   have hll2 : Hid ((l1.set i ⟨md,.slice v1 v2 v3,.slice u1 u2 u3⟩).length = M) := by show _ = _;rw [List.length_set];exact hll1.out
   refine wpAnyH_ready (rs := [12]) (by kernel_rfl) (by simp) ?_
   refine AllReadyH.cons (o := _) rfl (fun K hK => ?_) AllReadyH.nil
   go_simp
   refine hK.out _ _ (GameAt.addons rG2) (fun hHeld => ?_)
   clear hK K
   try simp only [Act.put,zsA,zsB,zsC]
   refine wpAnyH_done (by kernel_rfl) ?_ _
   go_simp
   clear hHeld hoLb rGb c5b f5b hstb hg2 hru hfu hbb bb hoL1 rG1 d20 d20d c5 c5d f5 cP hrp hmi1 hm1' B1
   go_wp2
   go_roundg (M - (i + 1))
   case measure => have := hgh.out;have := hlt2.out;omega
   case rel => exact ⟨i + 1,_,rfl,by have := hlt2.out;omega,by go_num,hoL2,hll2,hd2,B2⟩
  ·have hiM : i = M := by omega
   have i2 : ¬ (i : Int) < (M : Int) := by omega
   have hGR : GameR wr (.slice ua M uc) (.slice va NT vc) l g := ⟨⟨OwnS.rd addon_len hoL,fun j m hm => hoL.reads m (List.mem_of_getElem? hm)⟩,hld.out,hTB.out wr hB⟩
   have BW : Below w.heap.size w wr := bG5.trans (hB.mono (by omega))
   clear hTB hld hll hms
   have hmm := @run_makeMap Tryz.prog
   unfold GameAt gameCells at rGw
   go_upto_region 12 with (fail)
   go_upto_region 13 with (first | (refine wpList_load_row rfl 25 _ rfl _ rfl _ _ _ _ rGw Tryz.underlying25 rfl (by kernel_rfl) ?_) | fail)
   obtain ⟨W6,hW6⟩ : ∃ W6,W6 = (wr.alloc (.map #[] 0)).alloc (.cells #[.string g.name,.int .i64 g.kind,.int .i64 g.price,.int .i64 g.main,.int .i64 g.of,.int .i64 g.bonus,.int .i64 g.bonusOf,.int .i64 g.extra,.int .i64 g.draws,.int .i64 g.system,.int .i64 g.days,.int .i64 g.at_,.int .i64 g.close,.int .i64 g.cancel,.int .i64 g.expiry,.int .i64 g.pool,.int .i64 g.reserve,.int .i64 g.round,.int .i64 g.cap,.int .i64 g.rolls,.slice ua M uc,.slice va NT vc,.map (some wr.heap.size),.slice none 0 0,.slice none 0 0,.map none] 80) := ⟨_,rfl⟩
   have b6 : Below wr.heap.size wr W6 := by rw [hW6];exact Bel.al (Bel.al (Below.refl _ _) _) _
   have rX : Row W6 (wr.heap.size + 1) 80 [.string g.name,.int .i64 g.kind,.int .i64 g.price,.int .i64 g.main,.int .i64 g.of,.int .i64 g.bonus,.int .i64 g.bonusOf,.int .i64 g.extra,.int .i64 g.draws,.int .i64 g.system,.int .i64 g.days,.int .i64 g.at_,.int .i64 g.close,.int .i64 g.cancel,.int .i64 g.expiry,.int .i64 g.pool,.int .i64 g.reserve,.int .i64 g.round,.int .i64 g.cap,.int .i64 g.rolls,.slice ua M uc,.slice va NT vc,.map (some wr.heap.size),.slice none 0 0,.slice none 0 0,.map none] := by rw [hW6];exact Row.at2 _ _ _ _
   have hmk : W6.heap[wr.heap.size]? = some (.map #[] 0) := by rw [hW6];exact ((Bel.al (Below.refl _ (wr.alloc (.map #[] 0))) _).block wr.heap.size (show wr.heap.size < (wr.alloc (.map #[] 0)).heap.size by simp)).trans (heap_alloc_new wr _)
   have z6 : W6.heap.size = wr.heap.size + 1 + 1 := by rw [hW6];simp
   rw [← hW6]
   clear hW6 rGw d20
   have rX7 := Row.alloc rX (.map #[] 0)
   have c25 : (W6.alloc (.map #[] 0)).cell? ⟨wr.heap.size + 1,25,none⟩ = some (.map none) := (rX7.cell? 25).trans rfl
   have f25 := Row.frozen rX7 25
   have rX8 := Row.set rX7 25 (.map (some W6.heap.size))
   have bE : Below wr.heap.size wr ((W6.alloc (.map #[] 0)).setCell ⟨wr.heap.size + 1,25,none⟩ (.map (some W6.heap.size))) := Bel.st (Bel.al b6 _) (p := ⟨wr.heap.size + 1,25,none⟩) (by simp) _
   have h1 : ((W6.alloc (.map #[] 0)).setCell ⟨wr.heap.size + 1,25,none⟩ (.map (some W6.heap.size))).heap[wr.heap.size]? = some (.map #[] 0) := by
    rw [Below.heap_setCell _ _ _ _ (by simp)]
    exact ((Bel.al (Below.refl _ W6) _).block wr.heap.size (show wr.heap.size < W6.heap.size by omega)).trans hmk
   have h2 : ((W6.alloc (.map #[] 0)).setCell ⟨wr.heap.size + 1,25,none⟩ (.map (some W6.heap.size))).heap[W6.heap.size]? = some (.map #[] 0) := by
    rw [Below.heap_setCell _ _ _ _ (by show W6.heap.size ≠ wr.heap.size + 1;omega)]
    exact heap_alloc_new W6 _
   replace h1 := hide h1
   replace h2 := hide h2
   replace rX8 := hide rX8
   replace z6 := hide z6
   clear hmk rX rX7
   go_wp2
   go_ret2
   exact ⟨wr,wr.heap.size + 1,wr.heap.size,W6.heap.size,_,_,l,rfl,hGR,BW,bE,by omega,by omega,by have := z6.out;omega,by omega,by have := z6.out;omega,by have := z6.out;omega,h1.out,h2.out,rX8.out⟩
end Go.Proofs.YtelgllgaofjgjaaGreat
end
section
set_option linter.unusedVariables false
set_option linter.unusedSimpArgs false
namespace Go.Proofs.YtelgllgaofjgjaaGreat
def winsF (g : GameD) (r : ResD) (l : List (Nat × TicketD)) : List WinD := l.flatMap fun p => winsL (fun x => tierM g x r) p.1 (linesB g p.2.bet) 0
theorem winsE_ok {g : GameD} {r : ResD} {l : List (Nat × TicketD)} : (winsE g r l).2 = 0 ↔ ∀ p ∈ l,(betP g p.2.bet).2 = 0 := by
 induction l with
 | nil => exact ⟨fun _ p hp => (List.not_mem_nil hp).elim,fun _ => rfl⟩
 | cons p q ih =>
  rw [winsE]
  by_cases h1 : (betP g p.2.bet).2 = 0
  ·rw [if_neg (by simpa using h1)]
   by_cases h2 : (winsE g r q).2 = 0
   ·rw [if_neg (by simpa using h2)]
    refine ⟨fun _ x hx => ?_,fun _ => rfl⟩
    rcases List.mem_cons.1 hx with rfl | hx
    ·exact h1
    ·exact ih.1 h2 x hx
   ·rw [if_pos (by simpa using h2)]
    exact ⟨fun h => absurd h h2,fun h => absurd (ih.2 fun x hx => h x (List.mem_cons_of_mem _ hx)) h2⟩
  ·rw [if_pos (by simpa using h1)]
   exact ⟨fun h => absurd h h1,fun h => absurd (h p List.mem_cons_self) h1⟩
theorem winsE_eq {g : GameD} {r : ResD} {l : List (Nat × TicketD)} (h : (winsE g r l).2 = 0) : winsE g r l = (winsF g r l,0) := by
 induction l with
 | nil => rfl
 | cons p q ih =>
  have hok := winsE_ok.1 h
  have h1 := hok p List.mem_cons_self
  have h2 : (winsE g r q).2 = 0 := winsE_ok.2 fun x hx => hok x (List.mem_cons_of_mem _ hx)
  rw [winsE,if_neg (by simpa using h1),if_neg (by simpa using h2),ih h2]
  rfl
def preW (g : GameD) (n : Nat) (draw : Int) (r : ResD) : Int :=
 if gameE g ≠ 0 then gameE g else if draw < 1 then 2 else if 2048 < n then 3 else resE g r
theorem winsP_pre {g : GameD} {ts : List TicketD} {draw : Int} {r : ResD} : winsP g ts draw r = if preW g ts.length draw r ≠ 0 then ([],preW g ts.length draw r) else winsE g r (eligT ts g.name draw) := by
 unfold winsP preW
 by_cases h1 : gameE g = 0
 ·by_cases h2 : draw < 1
  ·simp [h1,h2]
  ·by_cases h3 : 2048 < ts.length
   ·simp [h1,h2,h3]
   ·simp [h1,h2,h3]
 ·simp [h1]
theorem winsP_ok {g : GameD} {ts : List TicketD} {draw : Int} {r : ResD} (h : (winsP g ts draw r).2 = 0) : preW g ts.length draw r = 0 ∧ (winsE g r (eligT ts g.name draw)).2 = 0 ∧ winsP g ts draw r = (winsF g r (eligT ts g.name draw),0) := by
 rw [winsP_pre] at h ⊢
 by_cases h1 : preW g ts.length draw r = 0
 ·rw [if_neg (by simpa using h1)] at h ⊢
  exact ⟨h1,h,winsE_eq h⟩
 ·rw [if_pos (by simpa using h1)] at h
  exact absurd h h1
theorem winsP_facts {g : GameD} {ts : List TicketD} {draw : Int} {r : ResD} (h : (winsP g ts draw r).2 = 0) : gameE g = 0 ∧ resE g r = 0 ∧ ∀ p ∈ eligT ts g.name draw,(betP g p.2.bet).2 = 0 := by
 obtain ⟨h1,h2,-⟩ := winsP_ok h
 unfold preW at h1
 split at h1
 ·rename_i h3;exact absurd h1 h3
 ·rename_i h3
  split at h1
  ·exact absurd h1 (by decide)
  ·split at h1
   ·exact absurd h1 (by decide)
   ·exact ⟨by simpa using h3,h1,winsE_ok.1 h2⟩
theorem winsF_app (g : GameD) (r : ResD) (a b : List (Nat × TicketD)) : winsF g r (a ++ b) = winsF g r a ++ winsF g r b := by unfold winsF;rw [List.flatMap_append]
end Go.Proofs.YtelgllgaofjgjaaGreat
end
section
open Go.RowKit
set_option linter.unusedVariables false
set_option linter.unusedSimpArgs false
namespace Go.Proofs.YtelgllgaofjgjaaGreat
set_option maxHeartbeats 2000000 in
set_option maxRecDepth 100000 in
theorem checkList_any (v : Value) (l : List Int) (lo hi : Int) (rising : Bool) (w : World) (h : Rd I64 w v l) :
  Calls Tryz.prog 73 #[v,.int .i64 lo,.int .i64 hi,.bool rising] w (Pure (.int .i64 (orderE rising lo hi none l)) w) := by
 obtain ⟨ao,cap,rfl,hle,hmax,hrd⟩ := Rd.form h
 obtain ⟨R,hR⟩ : ∃ R,R = orderE rising lo hi none l := ⟨_,rfl⟩
 rw [← hR]
 have hR0 := hide (show orderE rising lo hi (prevI l 0) (l.drop 0) = R by rw [order_start,hR])
 obtain ⟨n,hn⟩ : ∃ n,n = l.length := ⟨_,rfl⟩
 have hnm : n ≤ 9223372036854775807 := by unfold maxLen at hmax;omega
 rw [← hn]
 replace hn := hide hn
 clear h hR hle hmax
 go_enter Tryz.func73,Tryz.ntmps73
 go_wp2
 go_loopg [9,10,13] n (fun gh _ _ t wr => ∃ (i : Nat),gh = n - i ∧ i ≤ n ∧ t = .int .i64 (i : Int) ∧ w = wr ∧ Hid (orderE rising lo hi (prevI l i) (l.drop i) = R))
 case atStart => exact ⟨0,rfl,Nat.zero_le _,rfl,rfl,hR0⟩
 case round =>
  obtain ⟨i,hgh,hile,rfl,rfl,hR⟩ := hrel
  replace hgh := hide hgh
  by_cases hlt : i < n
  ·have hlt2 := hide hlt
   have hil : i < l.length := by rw [← hn.out];exact hlt
   have hR2 := hR.out
   rw [order_at hil] at hR2
   obtain ⟨b,off,rfl,hbb,hcell⟩ := hrd.at_ hil
   obtain ⟨x,hx,c0⟩ : ∃ x,x = l[i] ∧ w.cell? ⟨b,off + i,none⟩ = some (.int .i64 x) := ⟨_,rfl,hcell _ hil⟩
   rw [← hx] at hR2
   have i1 : (0 : Int) ≤ (i : Int) := by omega
   have i2 : (i : Int) < (n : Int) := by omega
   replace hx := hide hx
   replace hcell := hide hcell
   by_cases h1 : x < lo
   ·have d1 : decide (x < lo) = true := decide_eq_true h1
    rw [if_pos (.inl h1)] at hR2
    subst hR2
    go_wp2
    go_ret
    exact ⟨rfl,rfl⟩
   ·have d1 : decide (x < lo) = false := decide_eq_false h1
    by_cases h2 : hi < x
    ·have d2 : decide (hi < x) = true := decide_eq_true h2
     rw [if_pos (.inr h2)] at hR2
     subst hR2
     go_wp2
     go_ret
     exact ⟨rfl,rfl⟩
    ·have d2 : decide (hi < x) = false := decide_eq_false h2
     rw [if_neg (by omega)] at hR2
     cases rising with
     | false =>
      rw [if_neg (by simp)] at hR2
      replace hR2 := hide hR2
      clear hcell
      go_wp2
      go_roundg (n - (i + 1))
      case measure => have := hgh.out;have := hlt2.out;omega
      case rel => exact ⟨i + 1,rfl,by have := hlt2.out;omega,by go_num,rfl,hR2⟩
     | true =>
      cases i with
      | zero =>
       rw [if_neg (by simp)] at hR2
       rw [Nat.add_zero] at c0
       replace hR2 := hide hR2
       clear hcell
       go_wp2
       go_roundg (n - (0 + 1))
       case measure => have := hgh.out;have := hlt2.out;omega
       case rel => exact ⟨0 + 1,rfl,by have := hlt2.out;omega,by go_num,rfl,hR2⟩
      | succ j =>
       have hjl : j < l.length := by omega
       obtain ⟨y,hy,c1⟩ : ∃ y,y = l[j] ∧ w.cell? ⟨b,off + j,none⟩ = some (.int .i64 y) := ⟨_,rfl,hcell.out _ hjl⟩
       have e1 : l[j + 1 - 1]'(by omega) = y := by simp [hy]
       rw [e1] at hR2
       replace hy := hide hy
       have j0 : (0 : Int) < ((j + 1 : Nat) : Int) := by omega
       have j1 : (0 : Int) ≤ (j : Int) := by omega
       have j2 : (j : Int) < (n : Int) := by omega
       have j3 : ((((j + 1 : Nat) : Int)) - 1).toNat = j := by omega
       have j4 : (((j + 1 : Nat) : Int)) - 1 = (j : Int) := by omega
       clear hcell
       by_cases h3 : x ≤ y
       ·have d3 : decide (x ≤ y) = true := decide_eq_true h3
        rw [if_pos ⟨rfl,by omega,h3⟩] at hR2
        subst hR2
        go_wp2
        go_ret
        exact ⟨rfl,rfl⟩
       ·have d3 : decide (x ≤ y) = false := decide_eq_false h3
        rw [if_neg (fun h => h3 h.2.2)] at hR2
        replace hR2 := hide hR2
        go_wp2
        go_roundg (n - (j + 1 + 1))
        case measure => have := hgh.out;have := hlt2.out;omega
        case rel => exact ⟨j + 1 + 1,rfl,by have := hlt2.out;omega,by go_num,rfl,hR2⟩
  ·have hin : i = l.length := by have := hn.out;omega
   have hR2 := hR.out
   rw [hin,List.drop_length,order_nil] at hR2
   subst hR2
   replace hin := hide hin
   have i2 : ¬ (i : Int) < (n : Int) := by omega
   go_wp2
   go_ret
   exact ⟨rfl,rfl⟩
theorem zero81b : Tryz.zeroCells139 = ((List.replicate 81 false).map Value.bool).toArray := by kernel_rfl
theorem getD_setB (B : List Bool) (k j : Nat) (hk : k < B.length) : (B.set k true).getD j false = if j = k then true else B.getD j false := by
 rw [List.getD_eq_getElem?_getD,List.getElem?_set]
 by_cases h : j = k
 ·subst h;rw [if_pos rfl,if_pos rfl,if_pos hk];rfl
 ·rw [if_neg (fun e => h e.symm),if_neg h,List.getD_eq_getElem?_getD]
set_option maxHeartbeats 8000000 in
set_option maxRecDepth 100000 in
theorem checkNumbers_any (g : GameD) (av tv mv bv xv : Value) (ms : List AddonM) (r : ResD) (w : World) (hg : GameR w av tv ms g) (hr : ResR w mv bv xv r) (he : gameE g = 0) :
  Calls Tryz.prog 41 #[gameVal g av tv,resVal mv bv xv r] w (IntB (numE g r) w) := by
 have cM := hide (fun X (lo hi : Int) (rs : Bool) (hX : Below w.heap.size w X) => checkList_any mv r.main lo hi rs X (hr.below hX).1)
 have cB := hide (fun X (lo hi : Int) (rs : Bool) (hX : Below w.heap.size w X) => checkList_any bv r.bonus lo hi rs X (hr.below hX).2.1)
 have cX := hide (fun X (lo hi : Int) (rs : Bool) (hX : Below w.heap.size w X) => checkList_any xv r.extra lo hi rs X (hr.below hX).2.2)
 obtain ⟨f1,f2,f3,f4,f5,f6,f7,f8,f9,f10,f11⟩ := mat_facts (game_mat he)
 have hof : 0 ≤ g.of := f5
 have hof2 : g.of ≤ 80 := f6
 clear f1 f2 f3 f4 f5 f6 f7 f8 f9 f10 f11
 obtain ⟨P,hP⟩ : ∃ P,P = numE g r := ⟨_,rfl⟩
 rw [← hP]
 unfold numE at hP
 replace hP := hide hP
 have hrd := hide (fun X (hX : Below w.heap.size w X) => hr.below hX)
 obtain ⟨aa,ac,rfl,hal,ham⟩ := hg.1.1.shape
 obtain ⟨ta,tc,rfl,htl,htm⟩ := hg.2.2.shape
 obtain ⟨ma,mc,rfl,hma,hmc,-⟩ := hr.1.form
 obtain ⟨ba,bc,rfl,hba,hbc,-⟩ := hr.2.1.form
 obtain ⟨xa,xc,rfl,hxa,hxc,-⟩ := hr.2.2.form
 clear hg hr hal ham htl htm
 unfold maxLen at hmc hbc hxc
 replace he := hide he
 unfold gameVal resVal
 go_enter Tryz.func41,Tryz.ntmps41
 go_upto_region 1 with (fail)
 obtain ⟨W,hW⟩ : ∃ W,W = ((w.alloc (Obj.cells #[.string g.name,.int .i64 g.kind,.int .i64 g.price,.int .i64 g.main,.int .i64 g.of,.int .i64 g.bonus,.int .i64 g.bonusOf,.int .i64 g.extra,.int .i64 g.draws,.int .i64 g.system,.int .i64 g.days,.int .i64 g.at_,.int .i64 g.close,.int .i64 g.cancel,.int .i64 g.expiry,.int .i64 g.pool,.int .i64 g.reserve,.int .i64 g.round,.int .i64 g.cap,.int .i64 g.rolls,(.slice aa ms.length ac),(.slice ta g.tiers.length tc)] 25)).alloc (Obj.cells #[(.slice ma r.main.length mc),(.slice ba r.bonus.length bc),(.slice xa r.extra.length xc),.int .i64 r.factor,.string r.serial] 29)) := ⟨_,rfl⟩
 have bW : Below w.heap.size w W := by rw [hW];exact Bel.al (Bel.al (Below.refl _ _) _) _
 have r0 : GameAt W (w.heap.size) g ((.slice aa ms.length ac)) ((.slice ta g.tiers.length tc)) := by rw [hW];exact Row.alloc (Row.new _ _ _) _
 have r1 : Row W ((w.heap.size + 1)) 29 [(.slice ma r.main.length mc),(.slice ba r.bonus.length bc),(.slice xa r.extra.length xc),.int .i64 r.factor,.string r.serial] := by rw [hW];exact Row.at2 _ _ _ _
 have sW : w.heap.size + 1 < W.heap.size := by rw [hW];simp
 rw [← hW]
 clear hW
 have d1 := r0.kind
 have d3 := r0.main
 have d4 := r0.of
 have d5 := r0.bonus
 have d6 := r0.bonusOf
 have d7 := r0.extra
 have x0 : W.cell? ⟨w.heap.size + 1,0,none⟩ = some (.slice ma r.main.length mc) := (r1.cell? 0).trans rfl
 have x1 : W.cell? ⟨w.heap.size + 1,1,none⟩ = some (.slice ba r.bonus.length bc) := (r1.cell? 1).trans rfl
 have x2 : W.cell? ⟨w.heap.size + 1,2,none⟩ = some (.slice xa r.extra.length xc) := (r1.cell? 2).trans rfl
 have hP1 := hP.out
 clear r0
 by_cases n1 : (r.main.length : Int) = g.main
 rotate_left
 ·have n1b : ((r.main.length : Int) != g.main) = true := by simpa using n1
  rw [if_pos (.inl n1)] at hP1
  subst hP1
  replace n1 := hide n1
  go_wp2
  go_ret
  exact ⟨rfl,bW⟩
 have n1b : ((r.main.length : Int) != g.main) = false := by simpa using n1
 by_cases n2 : (r.bonus.length : Int) = g.bonus
 rotate_left
 ·have n2b : ((r.bonus.length : Int) != g.bonus) = true := by simpa using n2
  rw [if_pos (.inr (.inl n2))] at hP1
  subst hP1
  replace n1 := hide n1
  replace n2 := hide n2
  go_wp2
  go_ret
  exact ⟨rfl,bW⟩
 have n2b : ((r.bonus.length : Int) != g.bonus) = false := by simpa using n2
 by_cases n3 : (r.extra.length : Int) = g.extra
 rotate_left
 ·have n3b : ((r.extra.length : Int) != g.extra) = true := by simpa using n3
  rw [if_pos (.inr (.inr n3))] at hP1
  subst hP1
  replace n1 := hide n1
  replace n2 := hide n2
  replace n3 := hide n3
  go_wp2
  go_ret
  exact ⟨rfl,bW⟩
 have n3b : ((r.extra.length : Int) != g.extra) = false := by simpa using n3
 rw [if_neg (by omega)] at hP1
 replace n1 := hide n1
 replace n2 := hide n2
 replace n3 := hide n3
 by_cases hk : g.kind = 2
 ·have hkb : (g.kind == 2) = true := by simpa using hk
  rw [if_pos hk] at hP1
  have w1 : IntKind.i64.wrap (g.of - 1) = g.of - 1 := IntWalk.i64_in _ (by omega)
  have cM1 := hide (cM.out W 0 (g.of - 1) false bW)
  rw [← hP1] at cM1
  replace hk := hide hk
  replace hP1 := hide hP1
  go_wp2_with fail
  refine cM1.out.mono ?_
  rintro e w2 ⟨rfl,rfl⟩
  go_wp2
  go_ret
  exact ⟨rfl,bW⟩
 have hkb : (g.kind == 2) = false := by simpa using hk
 rw [if_neg hk] at hP1
 replace hk := hide hk
 obtain ⟨c1,hc1⟩ : ∃ c,c = orderE true 1 g.of none r.main := ⟨_,rfl⟩
 have cM1 := hide (cM.out W 1 g.of true bW)
 rw [← hc1] at cM1 hP1
 by_cases z1 : c1 = 0
 rotate_left
 ·have z1b : (c1 != 0) = true := by simpa using z1
  rw [if_pos z1] at hP1
  subst hP1
  replace z1 := hide z1
  replace hc1 := hide hc1
  go_wp2_with fail
  refine cM1.out.mono ?_
  rintro e w2 ⟨rfl,rfl⟩
  go_wp2
  go_ret
  exact ⟨rfl,bW⟩
 subst z1
 rw [if_neg (by simp)] at hP1
 obtain ⟨c2,hc2⟩ : ∃ c,c = orderE true 1 g.bonusOf none r.bonus := ⟨_,rfl⟩
 have cB1 := hide (cB.out W 1 g.bonusOf true bW)
 rw [← hc2] at cB1 hP1
 by_cases z2 : c2 = 0
 rotate_left
 ·have z2b : (c2 != 0) = true := by simpa using z2
  rw [if_pos z2] at hP1
  subst hP1
  replace z2 := hide z2
  replace hc1 := hide hc1
  replace hc2 := hide hc2
  go_wp2_with fail
  refine cM1.out.mono ?_
  rintro e w2 ⟨rfl,rfl⟩
  go_wp2_with fail
  refine cB1.out.mono ?_
  rintro e w3 ⟨rfl,rfl⟩
  go_wp2
  go_ret
  exact ⟨rfl,bW⟩
 subst z2
 rw [if_neg (by simp)] at hP1
 obtain ⟨c3,hc3⟩ : ∃ c,c = orderE true 1 g.of none r.extra := ⟨_,rfl⟩
 have cX1 := hide (cX.out W 1 g.of true bW)
 rw [← hc3] at cX1 hP1
 by_cases z3 : c3 = 0
 rotate_left
 ·have z3b : (c3 != 0) = true := by simpa using z3
  rw [if_pos z3] at hP1
  subst hP1
  replace z3 := hide z3
  replace hc1 := hide hc1
  replace hc2 := hide hc2
  replace hc3 := hide hc3
  go_wp2_with fail
  refine cM1.out.mono ?_
  rintro e w2 ⟨rfl,rfl⟩
  go_wp2_with fail
  refine cB1.out.mono ?_
  rintro e w3 ⟨rfl,rfl⟩
  go_wp2_with fail
  refine cX1.out.mono ?_
  rintro e w4 ⟨rfl,rfl⟩
  go_wp2
  go_ret
  exact ⟨rfl,bW⟩
 subst z3
 rw [if_neg (by simp)] at hP1
 have inM := hide (order_in hc1.symm)
 have inX := hide (order_in hc3.symm)
 replace hc1 := hide hc1
 replace hc2 := hide hc2
 replace hc3 := hide hc3
 replace hP1 := hide hP1
 go_wp2_with fail
 refine cM1.out.mono ?_
 rintro e w2 ⟨rfl,rfl⟩
 go_wp2_with fail
 refine cB1.out.mono ?_
 rintro e w3 ⟨rfl,rfl⟩
 go_wp2_with fail
 refine cX1.out.mono ?_
 rintro e w4 ⟨rfl,rfl⟩
 go_upto_region 15 with (fail)
 obtain ⟨W5,hW5⟩ : ∃ W5,W5 = W.alloc (.cells Tryz.zeroCells139 139) := ⟨_,rfl⟩
 have b5 : Below W.heap.size W W5 := by rw [hW5];exact Bel.al (Below.refl _ _) _
 have rA : Row W5 W.heap.size 139 ((List.replicate 81 false).map Value.bool) := by rw [hW5,zero81b];exact Row.new _ _ _
 rw [← hW5]
 have s5 : W.heap.size < W5.heap.size := by rw [hW5];simp
 clear hW5 cM cB cX cM1 cB1 cX1
 have x0 := Bel.cellOf b5 x0
 have x2 := Bel.cellOf b5 x2
 obtain ⟨n,hn⟩ : ∃ n,n = r.main.length := ⟨_,rfl⟩
 rw [← hn] at x0
 have hnm : n ≤ 9223372036854775807 := by omega
 have hnh := hide hn
 have bo : Below W.heap.size W W := Below.refl _ _
 have sW2 : w.heap.size + 1 < W.heap.size := sW
 obtain ⟨ab,hab⟩ : ∃ ab,ab = W.heap.size := ⟨_,rfl⟩
 rw [← hab] at rA ⊢
 have hab2 := hide hab
 have sAB : w.heap.size + 1 < ab := by omega
 have r1x := r1
 clear hn d1 d3 d4 d5 d6 d7 x1 r1 n1b n2b n3b hab s5 bo
 go_wp2
 go_loopg [10,71] n (fun gh _ t wr => ∃ (i : Nat) (B : List Bool),gh = n - i ∧ i ≤ n ∧ t = .int .i64 (i : Int) ∧ Row wr ab 139 (B.map Value.bool) ∧ Hid (B.length = 81) ∧ Hid (∀ j : Nat,j ≤ 80 → (B.getD j false = true ↔ (j : Int) ∈ r.main.take i)) ∧ Below ab W wr)
 case atStart => exact ⟨0,List.replicate 81 false,rfl,Nat.zero_le _,rfl,rA,List.length_replicate,fun j hj => by rw [List.getD_eq_getElem?_getD,List.getElem?_replicate,if_pos (by omega)];simp,by rw [hab2.out];exact b5⟩
 case round =>
  obtain ⟨i,B,hgh,hi,rfl,hB,hBl,hBv,hb⟩ := hrel
  replace hgh := hide hgh
  have BE : Below w.heap.size w wr := Bel.to bW (by rw [← hab2.out];exact hb)
  by_cases hlt : i < n
  ·have hlt2 := hide hlt
   have hil : i < r.main.length := by rw [← hnh.out];exact hlt
   obtain ⟨b,off,rfl,hbb,hcell⟩ := (hrd.out wr BE).1.at_ hil
   obtain ⟨x,hx,c0⟩ : ∃ x,x = r.main[i] ∧ wr.cell? ⟨b,off + i,none⟩ = some (.int .i64 x) := ⟨_,rfl,hcell _ hil⟩
   have hxi := inM.out x (by rw [hx];exact List.getElem_mem hil)
   obtain ⟨k,rfl⟩ := Int.eq_ofNat_of_zero_le (show 0 ≤ x by omega)
   have hk80 : k ≤ 80 := by omega
   have hkl : k < B.length := by have := hBl.out;omega
   have i1 : (0 : Int) ≤ (i : Int) := by omega
   have i2 : (i : Int) < (n : Int) := by omega
   have k1 : (0 : Int) ≤ (k : Int) := by omega
   have k2 : (k : Int) < 81 := by omega
   have e2 := hB.cellV (i := k) hkl
   have e3 := hB.frozen k
   obtain ⟨y,hy⟩ : ∃ y,y = B[k] := ⟨_,rfl⟩
   rw [← hy] at e2
   have hB2 := hB.setV (V := Value.bool) k true
   have hl2 : Hid ((B.set k true).length = 81) := by show _ = _;rw [List.length_set];exact hBl.out
   have hv2 : Hid (∀ j : Nat,j ≤ 80 → ((B.set k true).getD j false = true ↔ (j : Int) ∈ r.main.take (i + 1))) := by
    intro j hj
    rw [getD_setB B k j hkl,List.take_succ_eq_append_getElem hil,List.mem_append,List.mem_singleton,← hx]
    by_cases hjk : j = k
    ·subst hjk;simp
    ·rw [if_neg hjk,hBv.out j hj]
     constructor
     ·exact .inl
     ·rintro (h | h)
      ·exact h
      ·exact absurd (by omega) hjk
   have B9 := hb.setCell (p := ⟨ab,k,none⟩) (Nat.le_refl _) (.bool true)
   replace hx := hide hx
   replace hy := hide hy
   clear hcell hxi hB hBl hBv
   go_wp2
   go_roundg (n - (i + 1))
   case measure => have := hgh.out;have := hlt2.out;omega
   case rel => exact ⟨i + 1,_,rfl,by have := hlt2.out;omega,by go_num,hB2,hl2,hv2,B9⟩
  ·have hin : i = r.main.length := by have := hnh.out;omega
   have hBv2 := hBv.out
   rw [hin,List.take_length] at hBv2
   have hBv3 := hide hBv2
   replace hin := hide hin
   have i2 : ¬ (i : Int) < (n : Int) := by omega
   have x2' : wr.cell? ⟨w.heap.size + 1,2,none⟩ = some (.slice xa r.extra.length xc) := (hb.cell sAB).trans ((r1x.cell? 2).trans rfl)
   obtain ⟨m,hm⟩ : ∃ m,m = r.extra.length := ⟨_,rfl⟩
   rw [← hm] at x2'
   have hmm : m ≤ 9223372036854775807 := by omega
   have hmh := hide hm
   obtain ⟨W6,hW6⟩ : ∃ W6,W6 = wr := ⟨_,rfl⟩
   rw [← hW6] at x2' hB BE hb ⊢
   clear hW6 hm x2 x0 hBv hBv2
   go_wp2
   go_loopg [12,81] m (fun gh _ t wr => ∃ (i : Nat),gh = m - i ∧ i ≤ m ∧ t = .int .i64 (i : Int) ∧ Hid (∀ x ∈ r.extra.take i,x ∉ r.main) ∧ W6 = wr)
   case atStart => exact ⟨0,rfl,Nat.zero_le _,rfl,fun x hx => by simp at hx,rfl⟩
   case round =>
    obtain ⟨i,hgi,hi2,rfl,hE,rfl⟩ := hrel
    replace hgi := hide hgi
    by_cases hlt : i < m
    ·have hlt2 := hide hlt
     have hil : i < r.extra.length := by rw [← hmh.out];exact hlt
     obtain ⟨b,off,rfl,hbb,hcell⟩ := (hrd.out W6 BE).2.2.at_ hil
     obtain ⟨x,hx,c0⟩ : ∃ x,x = r.extra[i] ∧ W6.cell? ⟨b,off + i,none⟩ = some (.int .i64 x) := ⟨_,rfl,hcell _ hil⟩
     have hxi := inX.out x (by rw [hx];exact List.getElem_mem hil)
     obtain ⟨k,rfl⟩ := Int.eq_ofNat_of_zero_le (show 0 ≤ x by omega)
     have hk80 : k ≤ 80 := by omega
     have hkl : k < B.length := by have := hBl.out;omega
     have i1 : (0 : Int) ≤ (i : Int) := by omega
     have i2' : (i : Int) < (m : Int) := by omega
     have k1 : (0 : Int) ≤ (k : Int) := by omega
     have k2 : (k : Int) < 81 := by omega
     have e2 := hB.cellV (i := k) hkl
     have hBk := hBv3.out k hk80
     rw [List.getD_eq_getElem?_getD,List.getElem?_eq_getElem hkl] at hBk
     obtain ⟨y,hy⟩ : ∃ y,y = B[k] := ⟨_,rfl⟩
     rw [← hy] at e2
     simp only [Option.getD_some,← hy] at hBk
     clear hcell hxi
     cases y with
     | true =>
      have hmem := hBk.1 rfl
      have hP2 := hP1.out
      rw [if_pos ⟨(k : Int),by rw [hx];exact List.getElem_mem hil,hmem⟩] at hP2
      subst hP2
      replace hx := hide hx
      replace hmem := hide hmem
      replace hy := hide hy
      replace hBk := hide hBk
      go_wp2
      go_ret
      exact ⟨rfl,BE⟩
     | false =>
      have hnm2 : (k : Int) ∉ r.main := fun h => by have := hBk.2 h;cases this
      have hE2 : Hid (∀ x ∈ r.extra.take (i + 1),x ∉ r.main) := by
       intro y hy2
       rw [List.take_succ_eq_append_getElem hil,List.mem_append,List.mem_singleton,← hx] at hy2
       rcases hy2 with h | rfl
       ·exact hE.out y h
       ·exact hnm2
      replace hx := hide hx
      replace hnm2 := hide hnm2
      replace hy := hide hy
      replace hBk := hide hBk
      go_wp2
      go_roundg (m - (i + 1))
      case measure => have := hgi.out;have := hlt2.out;omega
      case rel => exact ⟨i + 1,rfl,by have := hlt2.out;omega,by go_num,hE2,rfl⟩
    ·have him : i = r.extra.length := by have := hmh.out;omega
     have hE2 := hE.out
     rw [him,List.take_length] at hE2
     have hP2 := hP1.out
     rw [if_neg (by rintro ⟨x,h1,h2⟩;exact hE2 x h1 h2)] at hP2
     subst hP2
     replace him := hide him
     replace hE2 := hide hE2
     have i2' : ¬ (i : Int) < (m : Int) := by omega
     go_wp2
     go_ret
     exact ⟨rfl,BE⟩
theorem infoAddon6 : (Tryz.prog.info? 61).map (·.size) = some 6 := by kernel_rfl
def addonV : Option AddonM → Value
 | some m => addonVal m
 | none => .agg #[.string ⟨#[]⟩,.int .i64 0,.int .i64 0,.slice none 0 0,.int .i64 0,.slice none 0 0]
def findM (ms : List AddonM) (k : Int) : Option AddonM := ms.find? fun m => decide (m.d.kind = k)
def AddonO (ms : List AddonM) (k : Int) (w : World) (e : Ending) (w' : World) : Prop := e = .returned (.tuple #[addonV (findM ms k),.bool (findM ms k).isSome]) ∧ Below w.heap.size w w'
theorem findM_d {g : GameD} {ms : List AddonM} (h : ms.map (·.d) = g.addons) (k : Int) : addonG g k = (findM ms k).map (·.d) := by
 unfold addonG findM
 rw [← h,List.find?_map]
 rfl
theorem findM_mem {ms : List AddonM} {k : Int} {m : AddonM} (h : findM ms k = some m) : ∃ i : Nat,ms[i]? = some m := by
 have := List.mem_of_find?_eq_some h
 obtain ⟨i,hi,e⟩ := List.getElem_of_mem this
 exact ⟨i,by rw [List.getElem?_eq_getElem hi,e]⟩
set_option maxHeartbeats 4000000 in
set_option maxRecDepth 100000 in
theorem addon_any (g : GameD) (av tv : Value) (ms : List AddonM) (k : Int) (w : World) (hg : GameR w av tv ms g) :
  Calls Tryz.prog 42 #[gameVal g av tv,.int .i64 k] w (AddonO ms k w) := by
 obtain ⟨O,hO⟩ : ∃ O,O = findM ms k := ⟨_,rfl⟩
 unfold AddonO
 rw [← hO]
 have hO0 := hide (show (ms.drop 0).find? (fun m => decide (m.d.kind = k)) = O by rw [List.drop_zero,hO];rfl)
 obtain ⟨M,hM⟩ : ∃ M,M = ms.length := ⟨_,rfl⟩
 have hA := hide (fun X (hX : Below w.heap.size w X) => (hg.below hX).1)
 obtain ⟨aa,ac,rfl,hal,ham⟩ := hg.1.1.shape
 obtain ⟨ta,tc,rfl,htl,htm⟩ := hg.2.2.shape
 have hMm : M ≤ 9223372036854775807 := by unfold maxLen at ham;omega
 rw [← hM] at hA
 replace hM := hide hM
 clear hg hO hal ham htl htm
 unfold gameVal
 rw [← hM.out]
 go_enter Tryz.func42,Tryz.ntmps42
 go_upto_region 1 with (fail)
 obtain ⟨W,hW⟩ : ∃ W,W = ((w.alloc (Obj.cells #[.string g.name,.int .i64 g.kind,.int .i64 g.price,.int .i64 g.main,.int .i64 g.of,.int .i64 g.bonus,.int .i64 g.bonusOf,.int .i64 g.extra,.int .i64 g.draws,.int .i64 g.system,.int .i64 g.days,.int .i64 g.at_,.int .i64 g.close,.int .i64 g.cancel,.int .i64 g.expiry,.int .i64 g.pool,.int .i64 g.reserve,.int .i64 g.round,.int .i64 g.cap,.int .i64 g.rolls,(.slice aa M ac),(.slice ta g.tiers.length tc)] 25)).alloc (Obj.cells #[.string ⟨#[]⟩,.int .i64 0,.int .i64 0,.slice none 0 0,.int .i64 0,.slice none 0 0] 61)) := ⟨_,rfl⟩
 have bW : Below w.heap.size w W := by rw [hW];exact Bel.al (Bel.al (Below.refl _ _) _) _
 have r0 : GameAt W (w.heap.size) g ((.slice aa M ac)) ((.slice ta g.tiers.length tc)) := by rw [hW];exact Row.alloc (Row.new _ _ _) _
 have r1 : Row W ((w.heap.size + 1)) 61 [.string ⟨#[]⟩,.int .i64 0,.int .i64 0,.slice none 0 0,.int .i64 0,.slice none 0 0] := by rw [hW];exact Row.at2 _ _ _ _
 have sW : w.heap.size + 1 < W.heap.size := by rw [hW];simp
 rw [← hW]
 clear hW
 have da := r0.addons
 go_wp2
 go_loopg [7,11] M (fun gh _ t wr => ∃ (i : Nat),gh = M - i ∧ i ≤ M ∧ t = .int .i64 (i : Int) ∧ Hid ((ms.drop i).find? (fun m => decide (m.d.kind = k)) = O) ∧ Below W.heap.size W wr)
 case atStart => exact ⟨0,rfl,Nat.zero_le _,rfl,hO0,Below.refl _ _⟩
 case round =>
  obtain ⟨i,hgh,hi,rfl,hF,hB⟩ := hrel
  replace hgh := hide hgh
  have BW := Bel.to bW hB
  by_cases hlt : i < M
  ·have hlt2 := hide hlt
   have hAw := hA.out wr BW
   obtain ⟨b,off,rfl,hbb,hcell⟩ := hAw.1.at_ (i := i) (by rw [← hM.out];exact hlt)
   have hil : i < ms.length := by rw [← hM.out];exact hlt
   have hF2 := hF.out
   rw [List.drop_eq_getElem_cons hil] at hF2
   obtain ⟨m,hm⟩ : ∃ m,m = ms[i] := ⟨_,rfl⟩
   have hmi : ms[i]? = some m := by rw [hm];exact List.getElem?_eq_getElem hil
   rw [← hm] at hF2
   have hrange : wr.rangeAt b (off + i * 6) (AddonM.cells m) := fun j u hu => hcell i m hmi j u hu
   have hAd := hAw.2 i m hmi
   clear hcell hmi hAw hF hm
   obtain ⟨⟨aname,akind,aprice,afactors,adigits,aprizes⟩,fv,pv⟩ := m
   unfold AddonM.cells at hrange
   obtain ⟨hf,hp⟩ := hAd
   simp only [] at hrange hf hp
   obtain ⟨fa,fn,fc,rfl⟩ := Rd.shape hf
   obtain ⟨pa,pn,pc,rfl⟩ := Rd.shape hp
   clear hf hp
   have hthere : (wr.alloc (.cells #[.string ⟨#[]⟩,.int .i64 0,.int .i64 0,.slice none 0 0,.int .i64 0,.slice none 0 0] 61)).there wr.heap.size 0 6 := Row.there (Row.newOf (cs := [.string ⟨#[]⟩,.int .i64 0,.int .i64 0,.slice none 0 0,.int .i64 0,.slice none 0 0]) _ rfl)
   replace hthere := hide hthere
   have i1 : (0 : Int) ≤ (i : Int) := by omega
   have i2 : (i : Int) < (M : Int) := by omega
   go_upto_region 4 with (first | (refine wpList_load_mid rfl 61 _ rfl b (off + i * 6) rfl [.string aname,.int .i64 akind,.int .i64 aprice,.slice fa fn fc,.int .i64 adigits,.slice pa pn pc] _ hrange Tryz.underlying61 rfl (by kernel_rfl) ?_) | (refine wpList_store_mid rfl 61 _ _ rfl wr.heap.size 0 _ rfl rfl hthere.out (by kernel_rfl) (by rfl) ?_) | fail)
   obtain ⟨W1,hW1⟩ : ∃ W1,W1 = wr.alloc (.cells #[.string aname,.int .i64 akind,.int .i64 aprice,.slice fa fn fc,.int .i64 adigits,.slice pa pn pc] 61) := ⟨_,rfl⟩
   have hb1 : Below wr.heap.size wr W1 := by rw [hW1];exact Bel.al (Below.refl _ _) _
   have hw1 : Row W1 wr.heap.size 61 [.string aname,.int .i64 akind,.int .i64 aprice,.slice fa fn fc,.int .i64 adigits,.slice pa pn pc] := by rw [hW1];exact Row.newOf _ rfl
   rw [← hW1]
   clear hW1 hthere hrange
   have k1 : W1.cell? ⟨wr.heap.size,1,none⟩ = some (.int .i64 akind) := (hw1.cell? 1).trans rfl
   have B9 := Bel.to hB hb1
   have r9 := Row.keep r1 B9
   have BE := Bel.to bW B9
   by_cases hk : akind = k
   ·have hkb : (akind == k) = true := by simpa using hk
    rw [List.find?_cons_of_pos (by simpa using hk)] at hF2
    subst hF2
    replace hk := hide hk
    go_upto_region 5 with (fail)
    go_wp2_with (first | (refine wpList_load_row rfl 61 _ rfl _ rfl _ _ _ _ hw1 Tryz.underlying61 rfl (by kernel_rfl) ?_) | (with_reducible refine wpList_store_whole rfl 61 _ _ rfl (w.heap.size + 1) _ rfl rfl 61 _ r9 ?_ ?_ ?_ ?_) | fail)
    case refine_1 => kernel_rfl
    case refine_2 => rfl
    case refine_3 => simp [Value.oneCell']
    intro W2 hrow hgr
    have BF : Below w.heap.size w W2 := Below.grown BE hgr BE.size (fun k hk => by injection hk with hk;omega)
    have y0 : W2.cell? ⟨w.heap.size + 1,0,none⟩ = some (.string aname) := (hrow.cell? 0).trans rfl
    have y1 : W2.cell? ⟨w.heap.size + 1,1,none⟩ = some (.int .i64 akind) := (hrow.cell? 1).trans rfl
    have y2 : W2.cell? ⟨w.heap.size + 1,2,none⟩ = some (.int .i64 aprice) := (hrow.cell? 2).trans rfl
    have y3 : W2.cell? ⟨w.heap.size + 1,3,none⟩ = some (.slice fa fn fc) := (hrow.cell? 3).trans rfl
    have y4 : W2.cell? ⟨w.heap.size + 1,4,none⟩ = some (.int .i64 adigits) := (hrow.cell? 4).trans rfl
    have y5 : W2.cell? ⟨w.heap.size + 1,5,none⟩ = some (.slice pa pn pc) := (hrow.cell? 5).trans rfl
    replace y0 := hide y0
    replace y1 := hide y1
    replace y2 := hide y2
    replace y3 := hide y3
    replace y4 := hide y4
    replace y5 := hide y5
    go_wp2
    exact bodyPost_ret (v := .tuple #[addonVal ⟨⟨aname,akind,aprice,afactors,adigits,aprizes⟩,.slice fa fn fc,.slice pa pn pc⟩,.bool true]) (by simp [results,addonVal,Tryz.results42,go_sem,y0.out,y1.out,y2.out,y3.out,y4.out,y5.out]) rfl ⟨rfl,BF⟩
   ·have hkb : (akind == k) = false := by simpa using hk
    rw [List.find?_cons_of_neg (by simpa using hk)] at hF2
    replace hF2 := hide hF2
    replace hk := hide hk
    clear hw1 hb1 r9
    go_wp2
    go_roundg (M - (i + 1))
    case measure => have := hgh.out;have := hlt2.out;omega
    case rel => exact ⟨i + 1,rfl,by have := hlt2.out;omega,by go_num,hF2,B9⟩
  ·have hiM : i = ms.length := by have := hM.out;omega
   have hF2 := hF.out
   rw [hiM,List.drop_length,List.find?_nil] at hF2
   subst hF2
   replace hiM := hide hiM
   have i2 : ¬ (i : Int) < (M : Int) := by omega
   have r9 := Row.keep r1 hB
   go_wp2_with (first | (with_reducible refine wpList_store_whole rfl 61 _ _ rfl (w.heap.size + 1) _ rfl rfl 61 _ r9 ?_ ?_ ?_ ?_) | fail)
   case refine_1 => exact Option.map_eq_some_iff.1 infoAddon6
   case refine_3 => simp [Value.oneCell']
   intro W2 hrow hgr
   have BF : Below w.heap.size w W2 := Below.grown BW hgr BW.size (fun k hk => by injection hk with hk;omega)
   have y0 : W2.cell? ⟨w.heap.size + 1,0,none⟩ = some (.string ⟨#[]⟩) := (hrow.cell? 0).trans rfl
   have y1 : W2.cell? ⟨w.heap.size + 1,1,none⟩ = some (.int .i64 0) := (hrow.cell? 1).trans rfl
   have y2 : W2.cell? ⟨w.heap.size + 1,2,none⟩ = some (.int .i64 0) := (hrow.cell? 2).trans rfl
   have y3 : W2.cell? ⟨w.heap.size + 1,3,none⟩ = some (.slice none 0 0) := (hrow.cell? 3).trans rfl
   have y4 : W2.cell? ⟨w.heap.size + 1,4,none⟩ = some (.int .i64 0) := (hrow.cell? 4).trans rfl
   have y5 : W2.cell? ⟨w.heap.size + 1,5,none⟩ = some (.slice none 0 0) := (hrow.cell? 5).trans rfl
   replace y0 := hide y0
   replace y1 := hide y1
   replace y2 := hide y2
   replace y3 := hide y3
   replace y4 := hide y4
   replace y5 := hide y5
   go_wp2
   exact bodyPost_ret (v := .tuple #[addonV none,.bool false]) (by simp [results,addonV,Tryz.results42,go_sem,y0.out,y1.out,y2.out,y3.out,y4.out,y5.out]) rfl ⟨rfl,BF⟩
theorem serial_bad {s : ByteArray} {i : Nat} (h : i < s.size) (hb : byteN s i < 48 ∨ 57 < byteN s i) : digitsS s = false := decide_eq_false (fun e => by have := e i h;omega)
theorem serial_ok {s : ByteArray} (h : ∀ i,i < s.size → 48 ≤ byteN s i ∧ byteN s i ≤ 57) : digitsS s = true := decide_eq_true h
set_option maxHeartbeats 4000000 in
set_option maxRecDepth 100000 in
theorem checkSerial_any (g : GameD) (av tv : Value) (ms : List AddonM) (s : ByteArray) (w : World) (hg : GameR w av tv ms g) (hs : s.size ≤ 9223372036854775807) :
  Calls Tryz.prog 44 #[gameVal g av tv,.string s] w (IntB (serialE g s) w) := by
 have cA := hide (fun X (hX : Below w.heap.size w X) => addon_any g av tv ms 2 X (hg.below hX))
 have hfd := findM_d hg.2.1 2
 have hrd := hide (fun (i : Nat) m (hm : ms[i]? = some m) => hg.1.2 i m hm)
 obtain ⟨P,hP⟩ : ∃ P,P = serialE g s := ⟨_,rfl⟩
 rw [← hP]
 unfold serialE at hP
 rw [hfd] at hP
 clear hfd
 obtain ⟨aa,ac,rfl,hal,ham⟩ := hg.1.1.shape
 obtain ⟨ta,tc,rfl,htl,htm⟩ := hg.2.2.shape
 clear hg hal ham htl htm
 unfold AddonO at cA
 obtain ⟨O,hO⟩ : ∃ O,O = findM ms 2 := ⟨_,rfl⟩
 rw [← hO] at cA hP
 unfold gameVal at cA ⊢
 have hthere := fun (X : World) => hide (show (X.alloc (.cells #[.string ⟨#[]⟩,.int .i64 0,.int .i64 0,.slice none 0 0,.int .i64 0,.slice none 0 0] 61)).there X.heap.size 0 6 from Row.there (Row.newOf (cs := [.string ⟨#[]⟩,.int .i64 0,.int .i64 0,.slice none 0 0,.int .i64 0,.slice none 0 0]) _ rfl))
 cases O with
 | none =>
  simp only [Option.map_none] at hP
  subst hP
  clear hO
  unfold addonV at cA
  simp only [Option.isSome_none] at cA
  go_enter Tryz.func44,Tryz.ntmps44
  go_upto_region 1 with (fail)
  obtain ⟨W,hW⟩ : ∃ W,W = (w.alloc (Obj.cells #[.string g.name,.int .i64 g.kind,.int .i64 g.price,.int .i64 g.main,.int .i64 g.of,.int .i64 g.bonus,.int .i64 g.bonusOf,.int .i64 g.extra,.int .i64 g.draws,.int .i64 g.system,.int .i64 g.days,.int .i64 g.at_,.int .i64 g.close,.int .i64 g.cancel,.int .i64 g.expiry,.int .i64 g.pool,.int .i64 g.reserve,.int .i64 g.round,.int .i64 g.cap,.int .i64 g.rolls,(.slice aa ms.length ac),(.slice ta g.tiers.length tc)] 25)) := ⟨_,rfl⟩
  have bW : Below w.heap.size w W := by rw [hW];exact Bel.al (Below.refl _ _) _
  have r0 : GameAt W (w.heap.size) g ((.slice aa ms.length ac)) ((.slice ta g.tiers.length tc)) := by rw [hW];exact Row.new _ _ _
  have sW : w.heap.size < W.heap.size := by rw [hW];simp
  rw [← hW]
  clear hW
  go_wp2_with (first | (refine wpList_load_row rfl 25 _ rfl _ rfl _ _ _ _ r0 Tryz.underlying25 rfl (by kernel_rfl) ?_) | fail)
  refine (cA.out _ bW).mono ?_
  rintro e w1 ⟨rfl,hb1⟩
  have ht := hthere w1
  go_wp2_with (first | (refine wpList_store_mid rfl 61 _ _ rfl w1.heap.size 0 _ rfl rfl ht.out (by kernel_rfl) (by rfl) ?_) | fail)
  go_ret
  exact ⟨rfl,Bel.al (Bel.to bW hb1) _⟩
 | some m =>
  simp only [Option.map_some] at hP
  obtain ⟨i0,hi0⟩ := findM_mem hO.symm
  have hAd := hrd.out i0 m hi0
  clear hO hi0 hrd
  obtain ⟨⟨aname,akind,aprice,afactors,adigits,aprizes⟩,fv,pv⟩ := m
  obtain ⟨hf,hp⟩ := hAd
  simp only [] at hf hp hP
  obtain ⟨fa,fn,fc,rfl⟩ := Rd.shape hf
  obtain ⟨pa,pn,pc,rfl⟩ := Rd.shape hp
  clear hf hp
  unfold addonV addonVal at cA
  simp only [Option.isSome_some] at cA
  replace hP := hide hP
  go_enter Tryz.func44,Tryz.ntmps44
  go_upto_region 1 with (fail)
  obtain ⟨W,hW⟩ : ∃ W,W = (w.alloc (Obj.cells #[.string g.name,.int .i64 g.kind,.int .i64 g.price,.int .i64 g.main,.int .i64 g.of,.int .i64 g.bonus,.int .i64 g.bonusOf,.int .i64 g.extra,.int .i64 g.draws,.int .i64 g.system,.int .i64 g.days,.int .i64 g.at_,.int .i64 g.close,.int .i64 g.cancel,.int .i64 g.expiry,.int .i64 g.pool,.int .i64 g.reserve,.int .i64 g.round,.int .i64 g.cap,.int .i64 g.rolls,(.slice aa ms.length ac),(.slice ta g.tiers.length tc)] 25)) := ⟨_,rfl⟩
  have bW : Below w.heap.size w W := by rw [hW];exact Bel.al (Below.refl _ _) _
  have r0 : GameAt W (w.heap.size) g ((.slice aa ms.length ac)) ((.slice ta g.tiers.length tc)) := by rw [hW];exact Row.new _ _ _
  have sW : w.heap.size < W.heap.size := by rw [hW];simp
  rw [← hW]
  clear hW
  go_wp2_with (first | (refine wpList_load_row rfl 25 _ rfl _ rfl _ _ _ _ r0 Tryz.underlying25 rfl (by kernel_rfl) ?_) | fail)
  refine (cA.out _ bW).mono ?_
  rintro e w1 ⟨rfl,hb1⟩
  have ht := hthere w1
  go_upto_region 2 with (first | (refine wpList_store_mid rfl 61 _ _ rfl w1.heap.size 0 _ rfl rfl ht.out (by kernel_rfl) (by rfl) ?_) | fail)
  obtain ⟨W2,hW2⟩ : ∃ W2,W2 = w1.alloc (.cells #[.string aname,.int .i64 akind,.int .i64 aprice,.slice fa fn fc,.int .i64 adigits,.slice pa pn pc] 61) := ⟨_,rfl⟩
  have hb2 : Below w1.heap.size w1 W2 := by rw [hW2];exact Bel.al (Below.refl _ _) _
  have hw2 : Row W2 w1.heap.size 61 [.string aname,.int .i64 akind,.int .i64 aprice,.slice fa fn fc,.int .i64 adigits,.slice pa pn pc] := by rw [hW2];exact Row.newOf _ rfl
  rw [← hW2]
  have k4 : W2.cell? ⟨w1.heap.size,4,none⟩ = some (.int .i64 adigits) := (hw2.cell? 4).trans rfl
  have BE := Bel.to (Bel.to bW hb1) hb2
  clear hW2 ht hthere hw2 hb1 hb2 r0 bW cA
  by_cases hd : (s.size : Int) = adigits
  rotate_left
  ·have hdb : ((s.size : Int) != adigits) = true := by simpa using hd
   have hP1 := hP.out
   rw [if_pos hd] at hP1
   subst hP1
   replace hd := hide hd
   clear hP
   go_wp2
   go_ret
   exact ⟨rfl,BE⟩
  have hP1 := hP.out
  rw [if_neg (by simpa using hd)] at hP1
  replace hP := hide hP1
  clear hP1
  subst hd
  have hsz : s.size ≤ 9223372036854775807 := hs
  go_wp2
  go_loopg [7,24] s.size (fun gh _ t wr => ∃ (i : Nat),gh = s.size - i ∧ i ≤ s.size ∧ t = .int .i64 (i : Int) ∧ Hid (∀ j,j < i → 48 ≤ byteN s j ∧ byteN s j ≤ 57) ∧ wr = W2)
  case atStart => exact ⟨0,rfl,Nat.zero_le _,rfl,fun j hj => absurd hj (Nat.not_lt_zero _),rfl⟩
  case round =>
   obtain ⟨i,hgh,hi,rfl,hall,rfl⟩ := hrel
   replace hgh := hide hgh
   by_cases hlt : i < s.size
   ·have hlt2 := hide hlt
    have hb := byteN_eq hlt
    obtain ⟨d,hdd⟩ : ∃ d,d = (s[i]'hlt).toNat := ⟨_,rfl⟩
    rw [← hdd] at hb
    by_cases h1 : d < 48
    ·have hP2 := hP.out
     rw [serial_bad hlt (.inl (by omega)),if_neg (by simp)] at hP2
     subst hP2
     have d1 : (d : Int) < 48 := by omega
     clear hb h1
     subst hdd
     go_wp2
     go_ret
     exact ⟨rfl,BE⟩
    ·by_cases h2 : 57 < d
     ·have hP2 := hP.out
      rw [serial_bad hlt (.inr (by omega)),if_neg (by simp)] at hP2
      subst hP2
      have d1 : ¬ (d : Int) < 48 := by omega
      have d2 : (57 : Int) < (d : Int) := by omega
      clear hb h1 h2
      subst hdd
      go_wp2
      go_ret
      exact ⟨rfl,BE⟩
     ·have hnext : Hid (∀ j,j < i + 1 → 48 ≤ byteN s j ∧ byteN s j ≤ 57) := by
       intro j hj
       rcases Nat.lt_succ_iff_lt_or_eq.1 hj with h | rfl
       ·exact hall.out j h
       ·omega
      have d1 : ¬ (d : Int) < 48 := by omega
      have d2 : ¬ (57 : Int) < (d : Int) := by omega
      clear hb h1 h2
      subst hdd
      go_wp2
      go_roundg (s.size - (i + 1))
      case measure => have := hgh.out;have := hlt2.out;omega
      case rel => exact ⟨i + 1,rfl,by have := hlt2.out;omega,by go_num,hnext,rfl⟩
   ·have his : i = s.size := by omega
    have hP2 := hP.out
    rw [serial_ok (by rw [← his];exact hall.out),if_pos rfl] at hP2
    subst hP2
    replace his := hide his
    have i2 : ¬ (i : Int) < (s.size : Int) := by omega
    go_wp2
    go_ret
    exact ⟨rfl,BE⟩
theorem contains_mem (v : Value) (l : List Int) (x : Int) (w : World) (h : Rd I64 w v l) : Calls Tryz.prog 43 #[v,.int .i64 x] w (Pure (.bool (decide (x ∈ l))) w) := by
 refine (contains_any v l x w h).mono fun e w' h => ?_
 obtain ⟨rfl,rfl⟩ := h
 refine ⟨?_,rfl⟩
 congr 2
 rw [Bool.eq_iff_iff]
 simp
theorem factors_M {g : GameD} {ms : List AddonM} (h : ms.map (·.d) = g.addons) : factorsG g = ((findM ms 1).map (·.d.factors)).getD [] := by
 unfold factorsG
 rw [findM_d h,Option.map_map]
 rfl
def facV (o : Option AddonM) : Value := (o.map (·.fv)).getD (.slice none 0 0)
set_option maxHeartbeats 4000000 in
set_option maxRecDepth 100000 in
theorem dcheck_tail (g : GameD) (av tv mv bv xv : Value) (ms : List AddonM) (r : ResD) (w : World) (hg : GameR w av tv ms g) (hr : ResR w mv bv xv r) (hs : r.serial.size ≤ 9223372036854775807) (he : gameE g = 0) (hn : numE g r = 0) :
  Calls Tryz.prog 18 #[gameVal g av tv,resVal mv bv xv r] w (IntB (resE g r) w) := by
 have cG := hide (fun X (hX : Below w.heap.size w X) => gcheck_any g av tv ms X (hg.below hX))
 rw [he] at cG
 have cN := hide (fun X (hX : Below w.heap.size w X) => checkNumbers_any g av tv mv bv xv ms r X (hg.below hX) (hr.below hX) he)
 rw [hn] at cN
 have cA := hide (fun X (hX : Below w.heap.size w X) => addon_any g av tv ms 1 X (hg.below hX))
 have cS := hide (fun X (hX : Below w.heap.size w X) => checkSerial_any g av tv ms r.serial X (hg.below hX) hs)
 obtain ⟨P,hP⟩ : ∃ P,P = resE g r := ⟨_,rfl⟩
 rw [← hP]
 unfold resE at hP
 rw [if_neg (by simpa using he),if_neg (by simpa using hn),factors_M hg.2.1] at hP
 unfold AddonO at cA
 obtain ⟨O,hO⟩ : ∃ O,O = findM ms 1 := ⟨_,rfl⟩
 rw [← hO] at cA hP
 obtain ⟨L,hL⟩ : ∃ L,L = (O.map (·.d.factors)).getD [] := ⟨_,rfl⟩
 rw [← hL] at hP
 have hF : ∀ X,Below w.heap.size w X → Rd I64 X (facV O) L := by
  intro X hX
  rw [hL]
  unfold facV
  cases O with
  | none => exact Rd.nil
  | some m =>
   obtain ⟨i,hi⟩ := findM_mem hO.symm
   exact (((hg.below hX).1.2 i m hi)).1
 have hF := hide hF
 have hAd : ∀ m,O = some m → AddonR w m := by
  intro m hm
  rw [hm] at hO
  obtain ⟨i,hi⟩ := findM_mem hO.symm
  exact hg.1.2 i m hi
 obtain ⟨n1,n2,n3,n4,n5,n6,hV⟩ : ∃ a b c d e f,addonV O = .agg #[.string a,.int .i64 b,.int .i64 c,d,.int .i64 e,f] ∧ d = facV O ∧ f.oneCell' = true ∧ (∃ x y z,f = .slice x y z) ∧ ∃ x y z,d = .slice x y z := by
  cases O with
  | none => exact ⟨_,_,_,_,_,_,rfl,rfl,rfl,⟨_,_,_,rfl⟩,_,_,_,rfl⟩
  | some m =>
   obtain ⟨h1,h2⟩ := hAd m rfl
   obtain ⟨fa,fn,fc,e1⟩ := Rd.shape h1
   obtain ⟨pa,pn,pc,e2⟩ := Rd.shape h2
   exact ⟨_,_,_,_,_,_,rfl,rfl,by rw [e2];rfl,⟨_,_,_,e2⟩,_,_,_,e1⟩
 obtain ⟨hV,hV4,-,⟨pa,pn,pc,rfl⟩,fa,fn,fc,rfl⟩ := hV
 rw [hV] at cA
 rw [← hV4] at hF
 clear hL hAd hV hV4 hO
 obtain ⟨S,hS⟩ : ∃ S,S = serialE g r.serial := ⟨_,rfl⟩
 rw [← hS] at cS hP
 clear hS
 obtain ⟨ok,hok⟩ : ∃ ok,ok = O.isSome := ⟨_,rfl⟩
 rw [← hok] at cA
 clear hok
 obtain ⟨aa,ac,rfl,hal,ham⟩ := hg.1.1.shape
 obtain ⟨ta,tc,rfl,htl,htm⟩ := hg.2.2.shape
 obtain ⟨ma,mc,rfl,-,-,-⟩ := hr.1.form
 obtain ⟨ba,bc,rfl,-,-,-⟩ := hr.2.1.form
 obtain ⟨xa,xc,rfl,-,-,-⟩ := hr.2.2.form
 clear hg hr hal ham htl htm he hn hs
 unfold gameVal at cG cN cA cS
 unfold resVal at cN
 unfold gameVal resVal
 replace hP := hide hP
 go_enter Tryz.func18,Tryz.ntmps18
 go_upto_region 1 with (fail)
 obtain ⟨W,hW⟩ : ∃ W,W = ((w.alloc (Obj.cells #[.string g.name,.int .i64 g.kind,.int .i64 g.price,.int .i64 g.main,.int .i64 g.of,.int .i64 g.bonus,.int .i64 g.bonusOf,.int .i64 g.extra,.int .i64 g.draws,.int .i64 g.system,.int .i64 g.days,.int .i64 g.at_,.int .i64 g.close,.int .i64 g.cancel,.int .i64 g.expiry,.int .i64 g.pool,.int .i64 g.reserve,.int .i64 g.round,.int .i64 g.cap,.int .i64 g.rolls,(.slice aa ms.length ac),(.slice ta g.tiers.length tc)] 25)).alloc (Obj.cells #[(.slice ma r.main.length mc),(.slice ba r.bonus.length bc),(.slice xa r.extra.length xc),.int .i64 r.factor,.string r.serial] 29)) := ⟨_,rfl⟩
 have bW : Below w.heap.size w W := by rw [hW];exact Bel.al (Bel.al (Below.refl _ _) _) _
 have r0 : GameAt W (w.heap.size) g ((.slice aa ms.length ac)) ((.slice ta g.tiers.length tc)) := by rw [hW];exact Row.alloc (Row.new _ _ _) _
 have r1 : Row W ((w.heap.size + 1)) 29 [(.slice ma r.main.length mc),(.slice ba r.bonus.length bc),(.slice xa r.extra.length xc),.int .i64 r.factor,.string r.serial] := by rw [hW];exact Row.at2 _ _ _ _
 have sW : w.heap.size + 1 < W.heap.size := by rw [hW];simp
 rw [← hW]
 clear hW
 go_wp2_with (first | (refine wpList_load_row rfl 25 _ rfl _ rfl _ _ _ _ r0 Tryz.underlying25 rfl (by kernel_rfl) ?_) | fail)
 refine (cG.out _ bW).mono ?_
 rintro e w1 ⟨s,rfl,hb⟩
 replace bW := Bel.to bW hb
 replace r0 := r0.keep hb
 replace r1 := Row.keep r1 hb
 clear hb
 go_wp2_with (first | (refine wpList_load_row rfl 25 _ rfl _ rfl _ _ _ _ r0 Tryz.underlying25 rfl (by kernel_rfl) ?_) | (refine wpList_load_row rfl 29 _ rfl _ rfl _ _ _ _ r1 Tryz.underlying29 rfl (by kernel_rfl) ?_) | fail)
 refine (cN.out _ bW).mono ?_
 rintro e w2 ⟨rfl,hb⟩
 replace bW := Bel.to bW hb
 replace r0 := r0.keep hb
 replace r1 := Row.keep r1 hb
 have x3 : w2.cell? ⟨w.heap.size + 1,3,none⟩ = some (.int .i64 r.factor) := (r1.cell? 3).trans rfl
 have x4 : w2.cell? ⟨w.heap.size + 1,4,none⟩ = some (.string r.serial) := (r1.cell? 4).trans rfl
 obtain ⟨fac,hfac⟩ : ∃ f,f = r.factor := ⟨_,rfl⟩
 obtain ⟨ser,hser⟩ : ∃ s,s = r.serial := ⟨_,rfl⟩
 have hfh := hide hfac
 have hsh := hide hser
 have hP := hP.out
 rw [← hfac] at x3 hP
 rw [← hser] at x4 cS hP
 clear hb cG cN hfac hser
 by_cases hz : fac = 0
 ·subst hz
  rw [if_neg (by simp)] at hP
  by_cases hse : ser = ⟨#[]⟩
  ·subst hse
   have hP2 : P = 0 := hP.trans (if_pos rfl)
   clear hP
   subst hP2
   clear cS hsh
   go_wp2
   go_ret
   exact ⟨rfl,bW⟩
  ·have hne := str_ne _ hse
   have hsz : ser.size ≠ 0 := fun h => hse (ByteArray.ext (Array.eq_empty_of_size_eq_zero h))
   rw [if_neg hsz] at hP
   subst hP
   replace hse := hide hse
   replace hsz := hide hsz
   go_wp2_with (first | (refine wpList_load_row rfl 25 _ rfl _ rfl _ _ _ _ r0 Tryz.underlying25 rfl (by kernel_rfl) ?_) | fail)
   refine (cS.out _ bW).mono ?_
   rintro e w3 ⟨rfl,hb⟩
   go_wp2
   go_ret
   exact ⟨rfl,Bel.to bW hb⟩
 ·have hzb : (fac != 0) = true := by simpa using hz
  replace hP := hide hP
  replace hz := hide hz
  have hthere := fun (X : World) => hide (show (X.alloc (.cells #[.string ⟨#[]⟩,.int .i64 0,.int .i64 0,.slice none 0 0,.int .i64 0,.slice none 0 0] 61)).there X.heap.size 0 6 from Row.there (Row.newOf (cs := [.string ⟨#[]⟩,.int .i64 0,.int .i64 0,.slice none 0 0,.int .i64 0,.slice none 0 0]) _ rfl))
  go_wp2_with (first | (refine wpList_load_row rfl 25 _ rfl _ rfl _ _ _ _ r0 Tryz.underlying25 rfl (by kernel_rfl) ?_) | fail)
  refine (cA.out _ bW).mono ?_
  rintro e w3 ⟨rfl,hb⟩
  replace bW := Bel.to bW hb
  replace r0 := r0.keep hb
  replace r1 := Row.keep r1 hb
  have ht := hthere w3
  go_upto_region 9 with (first | (refine wpList_store_mid rfl 61 _ _ rfl w3.heap.size 0 _ rfl rfl ht.out (by kernel_rfl) (by rfl) ?_) | fail)
  obtain ⟨W4,hW4⟩ : ∃ W4,W4 = w3.alloc (.cells #[.string n1,.int .i64 n2,.int .i64 n3,.slice fa fn fc,.int .i64 n5,.slice pa pn pc] 61) := ⟨_,rfl⟩
  have hb4 : Below w3.heap.size w3 W4 := by rw [hW4];exact Bel.al (Below.refl _ _) _
  have hw4 : Row W4 w3.heap.size 61 [.string n1,.int .i64 n2,.int .i64 n3,.slice fa fn fc,.int .i64 n5,.slice pa pn pc] := by rw [hW4];exact Row.newOf _ rfl
  rw [← hW4]
  have k3 : W4.cell? ⟨w3.heap.size,3,none⟩ = some (.slice fa fn fc) := (hw4.cell? 3).trans rfl
  replace bW := Bel.to bW hb4
  replace r0 := r0.keep hb4
  replace r1 := Row.keep r1 hb4
  have x3 : W4.cell? ⟨w.heap.size + 1,3,none⟩ = some (.int .i64 fac) := by rw [hfh.out];exact (r1.cell? 3).trans rfl
  have x4 : W4.cell? ⟨w.heap.size + 1,4,none⟩ = some (.string ser) := by rw [hsh.out];exact (r1.cell? 4).trans rfl
  have cC := hide (contains_mem _ L fac W4 (hF.out _ bW))
  obtain ⟨q,hq⟩ : ∃ q,q = decide (fac ∈ L) := ⟨_,rfl⟩
  rw [← hq] at cC
  clear hW4 ht hthere hw4 hb hb4 cA
  have hP := hP.out
  cases q with
  | false =>
   have hni := of_decide_eq_false hq.symm
   rw [if_pos ⟨hz.out,hni⟩] at hP
   subst hP
   replace hni := hide hni
   replace hq := hide hq
   go_wp2_with fail
   refine cC.out.mono ?_
   rintro e w5 ⟨rfl,rfl⟩
   go_wp2
   go_ret
   exact ⟨rfl,bW⟩
  | true =>
   have hni := of_decide_eq_true hq.symm
   rw [if_neg (fun h => h.2 hni)] at hP
   replace hni := hide hni
   replace hq := hide hq
   by_cases hse : ser = ⟨#[]⟩
   ·subst hse
    have hP2 : P = 0 := hP.trans (if_pos rfl)
    clear hP
    subst hP2
    clear cS hsh
    go_wp2_with fail
    refine cC.out.mono ?_
    rintro e w5 ⟨rfl,rfl⟩
    go_wp2
    go_ret
    exact ⟨rfl,bW⟩
   ·have hne := str_ne _ hse
    have hsz : ser.size ≠ 0 := fun h => hse (ByteArray.ext (Array.eq_empty_of_size_eq_zero h))
    rw [if_neg hsz] at hP
    subst hP
    replace hse := hide hse
    replace hsz := hide hsz
    go_wp2_with fail
    refine cC.out.mono ?_
    rintro e w5 ⟨rfl,rfl⟩
    go_wp2_with (first | (refine wpList_load_row rfl 25 _ rfl _ rfl _ _ _ _ r0 Tryz.underlying25 rfl (by kernel_rfl) ?_) | fail)
    refine (cS.out _ bW).mono ?_
    rintro e w6 ⟨rfl,hb⟩
    go_wp2
    go_ret
    exact ⟨rfl,Bel.to bW hb⟩
set_option maxHeartbeats 4000000 in
set_option maxRecDepth 100000 in
theorem dcheck_any (g : GameD) (av tv mv bv xv : Value) (ms : List AddonM) (r : ResD) (w : World) (hg : GameR w av tv ms g) (hr : ResR w mv bv xv r) (hs : r.serial.size ≤ 9223372036854775807) :
  Calls Tryz.prog 18 #[gameVal g av tv,resVal mv bv xv r] w (IntB (resE g r) w) := by
 by_cases he : gameE g = 0
 ·by_cases hn : numE g r = 0
  ·exact dcheck_tail g av tv mv bv xv ms r w hg hr hs he hn
  ·have cG := hide (fun X (hX : Below w.heap.size w X) => gcheck_any g av tv ms X (hg.below hX))
   rw [he] at cG
   have cN := hide (fun X (hX : Below w.heap.size w X) => checkNumbers_any g av tv mv bv xv ms r X (hg.below hX) (hr.below hX) he)
   have hP : resE g r = numE g r := by unfold resE;rw [if_neg (by simpa using he),if_pos hn]
   rw [hP]
   obtain ⟨c,hc⟩ : ∃ c,c = numE g r := ⟨_,rfl⟩
   rw [← hc] at cN hn ⊢
   have hcb : (c != 0) = true := by simpa using hn
   obtain ⟨aa,ac,rfl,hal,ham⟩ := hg.1.1.shape
   obtain ⟨ta,tc,rfl,htl,htm⟩ := hg.2.2.shape
   obtain ⟨ma,mc,rfl,-,-,-⟩ := hr.1.form
   obtain ⟨ba,bc,rfl,-,-,-⟩ := hr.2.1.form
   obtain ⟨xa,xc,rfl,-,-,-⟩ := hr.2.2.form
   clear hg hr hal ham htl htm he hs hc hP
   replace hn := hide hn
   unfold gameVal at cG cN
   unfold resVal at cN
   unfold gameVal resVal
   go_enter Tryz.func18,Tryz.ntmps18
   go_upto_region 1 with (fail)
   obtain ⟨W,hW⟩ : ∃ W,W = ((w.alloc (Obj.cells #[.string g.name,.int .i64 g.kind,.int .i64 g.price,.int .i64 g.main,.int .i64 g.of,.int .i64 g.bonus,.int .i64 g.bonusOf,.int .i64 g.extra,.int .i64 g.draws,.int .i64 g.system,.int .i64 g.days,.int .i64 g.at_,.int .i64 g.close,.int .i64 g.cancel,.int .i64 g.expiry,.int .i64 g.pool,.int .i64 g.reserve,.int .i64 g.round,.int .i64 g.cap,.int .i64 g.rolls,(.slice aa ms.length ac),(.slice ta g.tiers.length tc)] 25)).alloc (Obj.cells #[(.slice ma r.main.length mc),(.slice ba r.bonus.length bc),(.slice xa r.extra.length xc),.int .i64 r.factor,.string r.serial] 29)) := ⟨_,rfl⟩
   have bW : Below w.heap.size w W := by rw [hW];exact Bel.al (Bel.al (Below.refl _ _) _) _
   have r0 : GameAt W (w.heap.size) g ((.slice aa ms.length ac)) ((.slice ta g.tiers.length tc)) := by rw [hW];exact Row.alloc (Row.new _ _ _) _
   have r1 : Row W ((w.heap.size + 1)) 29 [(.slice ma r.main.length mc),(.slice ba r.bonus.length bc),(.slice xa r.extra.length xc),.int .i64 r.factor,.string r.serial] := by rw [hW];exact Row.at2 _ _ _ _
   have sW : w.heap.size + 1 < W.heap.size := by rw [hW];simp
   rw [← hW]
   clear hW
   go_wp2_with (first | (refine wpList_load_row rfl 25 _ rfl _ rfl _ _ _ _ r0 Tryz.underlying25 rfl (by kernel_rfl) ?_) | fail)
   refine (cG.out _ bW).mono ?_
   rintro e w1 ⟨s,rfl,hb⟩
   replace bW := Bel.to bW hb
   replace r0 := r0.keep hb
   replace r1 := Row.keep r1 hb
   clear hb
   go_wp2_with (first | (refine wpList_load_row rfl 25 _ rfl _ rfl _ _ _ _ r0 Tryz.underlying25 rfl (by kernel_rfl) ?_) | (refine wpList_load_row rfl 29 _ rfl _ rfl _ _ _ _ r1 Tryz.underlying29 rfl (by kernel_rfl) ?_) | fail)
   refine (cN.out _ bW).mono ?_
   rintro e w2 ⟨rfl,hb⟩
   go_wp2
   go_ret
   exact ⟨rfl,Bel.to bW hb⟩
 ·have cG := hide (fun X (hX : Below w.heap.size w X) => gcheck_any g av tv ms X (hg.below hX))
  have hP : resE g r = gameE g := by unfold resE;rw [if_pos he]
  rw [hP]
  obtain ⟨c,hc⟩ : ∃ c,c = gameE g := ⟨_,rfl⟩
  rw [← hc] at cG he ⊢
  have hcb : (c != 0) = true := by simpa using he
  obtain ⟨aa,ac,rfl,hal,ham⟩ := hg.1.1.shape
  obtain ⟨ta,tc,rfl,htl,htm⟩ := hg.2.2.shape
  obtain ⟨ma,mc,rfl,-,-,-⟩ := hr.1.form
  obtain ⟨ba,bc,rfl,-,-,-⟩ := hr.2.1.form
  obtain ⟨xa,xc,rfl,-,-,-⟩ := hr.2.2.form
  clear hg hr hal ham htl htm hs hc hP
  replace he := hide he
  unfold gameVal at cG
  unfold gameVal resVal
  go_enter Tryz.func18,Tryz.ntmps18
  go_upto_region 1 with (fail)
  obtain ⟨W,hW⟩ : ∃ W,W = ((w.alloc (Obj.cells #[.string g.name,.int .i64 g.kind,.int .i64 g.price,.int .i64 g.main,.int .i64 g.of,.int .i64 g.bonus,.int .i64 g.bonusOf,.int .i64 g.extra,.int .i64 g.draws,.int .i64 g.system,.int .i64 g.days,.int .i64 g.at_,.int .i64 g.close,.int .i64 g.cancel,.int .i64 g.expiry,.int .i64 g.pool,.int .i64 g.reserve,.int .i64 g.round,.int .i64 g.cap,.int .i64 g.rolls,(.slice aa ms.length ac),(.slice ta g.tiers.length tc)] 25)).alloc (Obj.cells #[(.slice ma r.main.length mc),(.slice ba r.bonus.length bc),(.slice xa r.extra.length xc),.int .i64 r.factor,.string r.serial] 29)) := ⟨_,rfl⟩
  have bW : Below w.heap.size w W := by rw [hW];exact Bel.al (Bel.al (Below.refl _ _) _) _
  have r0 : GameAt W (w.heap.size) g ((.slice aa ms.length ac)) ((.slice ta g.tiers.length tc)) := by rw [hW];exact Row.alloc (Row.new _ _ _) _
  have r1 : Row W ((w.heap.size + 1)) 29 [(.slice ma r.main.length mc),(.slice ba r.bonus.length bc),(.slice xa r.extra.length xc),.int .i64 r.factor,.string r.serial] := by rw [hW];exact Row.at2 _ _ _ _
  have sW : w.heap.size + 1 < W.heap.size := by rw [hW];simp
  rw [← hW]
  clear hW
  go_wp2_with (first | (refine wpList_load_row rfl 25 _ rfl _ rfl _ _ _ _ r0 Tryz.underlying25 rfl (by kernel_rfl) ?_) | fail)
  refine (cG.out _ bW).mono ?_
  rintro e w1 ⟨s,rfl,hb⟩
  go_wp2
  go_ret
  exact ⟨rfl,Bel.to bW hb⟩
theorem comM_take {a b : List Int} {i : Nat} (h : i < a.length) : comM (a.take (i + 1)) b = comM (a.take i) b + if a[i] ∈ b then 1 else 0 := by
 unfold comM
 rw [List.take_succ_eq_append_getElem h,List.countP_append,List.countP_cons,List.countP_nil]
 by_cases hm : a[i] ∈ b
 ·simp [hm]
 ·simp [hm]
set_option maxHeartbeats 2000000 in
set_option maxRecDepth 100000 in
theorem common_any (u v : Value) (a b : List Int) (w : World) (ha : Rd I64 w u a) (hb : Rd I64 w v b) :
  Calls Tryz.prog 75 #[u,v] w (Pure (.int .i64 (comM a b : Int)) w) := by
 have hbb := hide hb
 obtain ⟨ao,cap,rfl,hle,hmax,hrd⟩ := Rd.form ha
 obtain ⟨bo,bc,rfl,-,-,-⟩ := Rd.form hb
 obtain ⟨n,hn⟩ : ∃ n,n = a.length := ⟨_,rfl⟩
 have hnm : n ≤ 9223372036854775807 := by unfold maxLen at hmax;omega
 obtain ⟨R,hR⟩ : ∃ R,R = comM a b := ⟨_,rfl⟩
 rw [← hR]
 rw [← hn]
 replace hn := hide hn
 replace hR := hide hR
 clear ha hb hle hmax
 go_enter Tryz.func75,Tryz.ntmps75
 go_wp2
 go_loopg [5,7,10] n (fun gh t5 _ t wr => ∃ (i c : Nat),gh = n - i ∧ i ≤ n ∧ t = .int .i64 (i : Int) ∧ t5 = .int .i64 (c : Int) ∧ c ≤ i ∧ Hid (c = comM (a.take i) b) ∧ w = wr)
 case atStart => exact ⟨0,0,rfl,Nat.zero_le _,rfl,rfl,Nat.le_refl _,rfl,rfl⟩
 case round =>
  obtain ⟨i,c,hgh,hi,rfl,rfl,hci,hc,rfl⟩ := hrel
  replace hgh := hide hgh
  by_cases hlt : i < n
  ·have hlt2 := hide hlt
   have hil : i < a.length := by rw [← hn.out];exact hlt
   obtain ⟨b0,off,rfl,hbb0,hcell⟩ := hrd.at_ hil
   obtain ⟨x,hx,c0⟩ : ∃ x,x = a[i] ∧ w.cell? ⟨b0,off + i,none⟩ = some (.int .i64 x) := ⟨_,rfl,hcell _ hil⟩
   have hct := comM_take (b := b) hil
   rw [← hx,← hc.out] at hct
   have i1 : (0 : Int) ≤ (i : Int) := by omega
   have i2 : (i : Int) < (n : Int) := by omega
   have cC := hide (contains_mem _ b x w hbb.out)
   obtain ⟨q,hq⟩ : ∃ q,q = decide (x ∈ b) := ⟨_,rfl⟩
   rw [← hq] at cC
   replace hx := hide hx
   replace hcell := hide hcell
   cases q with
   | true =>
    rw [if_pos (of_decide_eq_true hq.symm)] at hct
    replace hq := hide hq
    replace hct := hide hct.symm
    have c9 : c + 1 ≤ i + 1 := by omega
    go_wp2_with fail
    refine cC.out.mono ?_
    rintro e w2 ⟨rfl,rfl⟩
    go_wp2
    go_roundg (n - (i + 1))
    case measure => have := hgh.out;have := hlt2.out;omega
    case rel => exact ⟨i + 1,c + 1,rfl,by have := hlt2.out;omega,by go_num,by go_num,c9,hct,rfl⟩
   | false =>
    rw [if_neg (of_decide_eq_false hq.symm)] at hct
    replace hq := hide hq
    replace hct := hide hct.symm
    have c9 : c ≤ i + 1 := by omega
    go_wp2_with fail
    refine cC.out.mono ?_
    rintro e w2 ⟨rfl,rfl⟩
    go_wp2
    go_roundg (n - (i + 1))
    case measure => have := hgh.out;have := hlt2.out;omega
    case rel => exact ⟨i + 1,c,rfl,by have := hlt2.out;omega,by go_num,rfl,c9,hct,rfl⟩
  ·have hin : i = a.length := by have := hn.out;omega
   have hc2 := hc.out
   rw [hin,List.take_length,← hR.out] at hc2
   subst hc2
   replace hin := hide hin
   have i2 : ¬ (i : Int) < (n : Int) := by omega
   go_wp2
   go_ret
   exact ⟨rfl,rfl⟩
def TripD (x y c : Int) (w : World) (e : Ending) (w' : World) : Prop := e = .returned (.tuple #[.int .i64 x,.int .i64 y,.int .i64 c]) ∧ Below w.heap.size w w'
set_option maxHeartbeats 4000000 in
set_option maxRecDepth 100000 in
theorem hits_choose (g : GameD) (av tv lm lb mv bv xv : Value) (ms : List AddonM) (x : LineD) (r : ResD) (w : World) (hg : GameR w av tv ms g) (hl : LineR w lm lb x.1 x.2) (hr : ResR w mv bv xv r) (hk : g.kind ≠ 2) :
  Calls Tryz.prog 46 #[gameVal g av tv,lineVal lm lb,resVal mv bv xv r] w (TripD (comM x.1 r.main : Int) (comM x.2 r.bonus : Int) (comM x.1 r.extra : Int) w) := by
 have hl0 := hide (fun X (hX : Below w.heap.size w X) => hl.below hX)
 have hr0 := hide (fun X (hX : Below w.heap.size w X) => hr.below hX)
 obtain ⟨aa,ac,rfl,hal,ham⟩ := hg.1.1.shape
 obtain ⟨ta,tc,rfl,htl,htm⟩ := hg.2.2.shape
 obtain ⟨a1,n1,k1,rfl⟩ := Rd.shape hl.1
 obtain ⟨a2,n2,k2,rfl⟩ := Rd.shape hl.2
 obtain ⟨ma,mc,rfl,-,-,-⟩ := hr.1.form
 obtain ⟨ba,bc,rfl,-,-,-⟩ := hr.2.1.form
 obtain ⟨xa,xc,rfl,-,-,-⟩ := hr.2.2.form
 clear hg hl hr hal ham htl htm
 have hkb : (g.kind == 2) = false := by simpa using hk
 replace hk := hide hk
 unfold gameVal lineVal resVal
 go_enter Tryz.func46,Tryz.ntmps46
 go_upto_region 1 with (fail)
 obtain ⟨W,hW⟩ : ∃ W,W = (((w.alloc (Obj.cells #[.string g.name,.int .i64 g.kind,.int .i64 g.price,.int .i64 g.main,.int .i64 g.of,.int .i64 g.bonus,.int .i64 g.bonusOf,.int .i64 g.extra,.int .i64 g.draws,.int .i64 g.system,.int .i64 g.days,.int .i64 g.at_,.int .i64 g.close,.int .i64 g.cancel,.int .i64 g.expiry,.int .i64 g.pool,.int .i64 g.reserve,.int .i64 g.round,.int .i64 g.cap,.int .i64 g.rolls,(.slice aa ms.length ac),(.slice ta g.tiers.length tc)] 25)).alloc (Obj.cells #[(.slice a1 n1 k1),(.slice a2 n2 k2)] 53)).alloc (Obj.cells #[(.slice ma r.main.length mc),(.slice ba r.bonus.length bc),(.slice xa r.extra.length xc),.int .i64 r.factor,.string r.serial] 29)) := ⟨_,rfl⟩
 have bW : Below w.heap.size w W := by rw [hW];exact Bel.al (Bel.al (Bel.al (Below.refl _ _) _) _) _
 have r0 : GameAt W (w.heap.size) g ((.slice aa ms.length ac)) ((.slice ta g.tiers.length tc)) := by rw [hW];exact Row.alloc (Row.alloc (Row.new _ _ _) _) _
 have r1 : LineAt W (w.heap.size + 1) ((.slice a1 n1 k1)) ((.slice a2 n2 k2)) := by rw [hW];exact Row.alloc (Row.at2 _ _ _ _) _
 have r2 : Row W ((w.heap.size + 1 + 1)) 29 [(.slice ma r.main.length mc),(.slice ba r.bonus.length bc),(.slice xa r.extra.length xc),.int .i64 r.factor,.string r.serial] := by rw [hW];exact Row.at3 _ _ _ _ _
 have sW : w.heap.size + 1 + 1 < W.heap.size := by rw [hW];simp
 rw [← hW]
 clear hW
 have d1 := r0.kind
 have bd : Below w.heap.size w W.drew := Bel.to bW (Below.drewSelf _)
 have hl1 := (hl0.out _ bd).1
 have hl2 := (hl0.out _ bd).2
 have hm1 := (hr0.out _ bd).1
 have hm2 := (hr0.out _ bd).2.1
 have hm3 := (hr0.out _ bd).2.2
 go_upto_region 10 with (fail)
 clear r0
 refine wp_region_held_drew (S := fun X => Rng X [(w.heap.size + 1,[.slice a1 n1 k1,.slice a2 n2 k2]),(w.heap.size + 1 + 1,[.slice ma r.main.length mc,.slice ba r.bonus.length bc,.slice xa r.extra.length xc,.int .i64 r.factor,.string r.serial])]) (by kernel_rfl) (Rng.drew (Rng.cons r1 (Rng.cons r2 (Rng.nil _)))) (fun hHeld => ?_)
 refine' wpAnyH_take (i := 0) (oi := _) (v := .pointer (some ⟨w.heap.size + 1,0,none⟩)) rfl (by kernel_rfl) (by kernel_rfl) (by kernel_rfl) (fun _ _ _ h => h) (Or.inl ⟨by first | (go_simp;done) | rfl,fun X _ => by go_simp⟩) hHeld ?_
 try simp only [Act.put,zsA,zsB,zsC]
 refine' wpAnyH_take (i := 1) (oi := _) (v := .slice a1 n1 k1) rfl (by kernel_rfl) (by kernel_rfl) (by kernel_rfl) (fun _ _ _ h => h) (Or.inl ⟨by first | (go_simp;done) | rfl,fun X hX => by have cX := Rng.cell0 hX 0 _ rfl;go_simp⟩) hHeld ?_
 try simp only [Act.put,zsA,zsB,zsC]
 refine' wpAnyH_take (i := 2) (oi := _) (v := .pointer (some ⟨w.heap.size + 1 + 1,0,none⟩)) rfl (by kernel_rfl) (by kernel_rfl) (by kernel_rfl) (fun _ _ _ h => h) (Or.inl ⟨by first | (go_simp;done) | rfl,fun X _ => by go_simp⟩) hHeld ?_
 try simp only [Act.put,zsA,zsB,zsC]
 refine' wpAnyH_take (i := 3) (oi := _) (v := .slice ma r.main.length mc) rfl (by kernel_rfl) (by kernel_rfl) (by kernel_rfl) (fun _ _ _ h => h) (Or.inl ⟨by first | (go_simp;done) | rfl,fun X hX => by have cX := Rng.cell1 hX 0 _ rfl;go_simp⟩) hHeld ?_
 try simp only [Act.put,zsA,zsB,zsC]
 refine' wpAnyH_take (i := 5) (oi := _) (v := .pointer (some ⟨w.heap.size + 1,1,none⟩)) rfl (by kernel_rfl) (by kernel_rfl) (by kernel_rfl) (fun _ _ _ h => h) (Or.inl ⟨by first | (go_simp;done) | rfl,fun X _ => by go_simp⟩) hHeld ?_
 try simp only [Act.put,zsA,zsB,zsC]
 refine' wpAnyH_take (i := 6) (oi := _) (v := .slice a2 n2 k2) rfl (by kernel_rfl) (by kernel_rfl) (by kernel_rfl) (fun _ _ _ h => h) (Or.inl ⟨by first | (go_simp;done) | rfl,fun X hX => by have cX := Rng.cell0 hX 1 _ rfl;go_simp⟩) hHeld ?_
 try simp only [Act.put,zsA,zsB,zsC]
 refine' wpAnyH_take (i := 7) (oi := _) (v := .pointer (some ⟨w.heap.size + 1 + 1,1,none⟩)) rfl (by kernel_rfl) (by kernel_rfl) (by kernel_rfl) (fun _ _ _ h => h) (Or.inl ⟨by first | (go_simp;done) | rfl,fun X _ => by go_simp⟩) hHeld ?_
 try simp only [Act.put,zsA,zsB,zsC]
 refine' wpAnyH_take (i := 8) (oi := _) (v := .slice ba r.bonus.length bc) rfl (by kernel_rfl) (by kernel_rfl) (by kernel_rfl) (fun _ _ _ h => h) (Or.inl ⟨by first | (go_simp;done) | rfl,fun X hX => by have cX := Rng.cell1 hX 1 _ rfl;go_simp⟩) hHeld ?_
 try simp only [Act.put,zsA,zsB,zsC]
 refine' wpAnyH_take (i := 10) (oi := _) (v := .pointer (some ⟨w.heap.size + 1,0,none⟩)) rfl (by kernel_rfl) (by kernel_rfl) (by kernel_rfl) (fun _ _ _ h => h) (Or.inl ⟨by first | (go_simp;done) | rfl,fun X _ => by go_simp⟩) hHeld ?_
 try simp only [Act.put,zsA,zsB,zsC]
 refine' wpAnyH_take (i := 11) (oi := _) (v := .slice a1 n1 k1) rfl (by kernel_rfl) (by kernel_rfl) (by kernel_rfl) (fun _ _ _ h => h) (Or.inl ⟨by first | (go_simp;done) | rfl,fun X hX => by have cX := Rng.cell0 hX 0 _ rfl;go_simp⟩) hHeld ?_
 try simp only [Act.put,zsA,zsB,zsC]
 refine' wpAnyH_take (i := 12) (oi := _) (v := .pointer (some ⟨w.heap.size + 1 + 1,2,none⟩)) rfl (by kernel_rfl) (by kernel_rfl) (by kernel_rfl) (fun _ _ _ h => h) (Or.inl ⟨by first | (go_simp;done) | rfl,fun X _ => by go_simp⟩) hHeld ?_
 try simp only [Act.put,zsA,zsB,zsC]
 refine' wpAnyH_take (i := 13) (oi := _) (v := .slice xa r.extra.length xc) rfl (by kernel_rfl) (by kernel_rfl) (by kernel_rfl) (fun _ _ _ h => h) (Or.inl ⟨by first | (go_simp;done) | rfl,fun X hX => by have cX := Rng.cell1 hX 2 _ rfl;go_simp⟩) hHeld ?_
 try simp only [Act.put,zsA,zsB,zsC]
 refine wpAnyH_ready (rs := [4]) (by kernel_rfl) (by simp) ?_
 refine AllReadyH.cons (o := _) rfl (fun K hK => ?_) AllReadyH.nil
 go_simp
 refine (common_any _ _ x.1 r.main _ hl1 hm1).mono ?_
 rintro e w3 ⟨rfl,rfl⟩
 go_wp2_with fail
 refine hK.out _ _ (hHeld) (fun hHeld => ?_)
 clear hK K
 try simp only [Act.put,zsA,zsB,zsC]
 refine wpAnyH_ready (rs := [9]) (by kernel_rfl) (by simp) ?_
 refine AllReadyH.cons (o := _) rfl (fun K hK => ?_) AllReadyH.nil
 go_simp
 refine (common_any _ _ x.2 r.bonus _ hl2 hm2).mono ?_
 rintro e w4 ⟨rfl,rfl⟩
 go_wp2_with fail
 refine hK.out _ _ (hHeld) (fun hHeld => ?_)
 clear hK K
 try simp only [Act.put,zsA,zsB,zsC]
 refine wpAnyH_ready (rs := [14]) (by kernel_rfl) (by simp) ?_
 refine AllReadyH.cons (o := _) rfl (fun K hK => ?_) AllReadyH.nil
 go_simp
 refine (common_any _ _ x.1 r.extra _ hl1 hm3).mono ?_
 rintro e w5 ⟨rfl,rfl⟩
 go_wp2_with fail
 refine hK.out _ _ (hHeld) (fun hHeld => ?_)
 clear hK K
 try simp only [Act.put,zsA,zsB,zsC]
 refine' wpAnyH_take (i := 15) (oi := _) (v := .int .i64 (comM x.1 r.main : Int)) rfl (by kernel_rfl) (by kernel_rfl) (by kernel_rfl) (fun _ _ _ h => h) (Or.inl ⟨by first | (go_simp;done) | rfl,fun X _ => by go_simp⟩) hHeld ?_
 try simp only [Act.put,zsA,zsB,zsC]
 refine' wpAnyH_take (i := 16) (oi := _) (v := .int .i64 (comM x.2 r.bonus : Int)) rfl (by kernel_rfl) (by kernel_rfl) (by kernel_rfl) (fun _ _ _ h => h) (Or.inl ⟨by first | (go_simp;done) | rfl,fun X _ => by go_simp⟩) hHeld ?_
 try simp only [Act.put,zsA,zsB,zsC]
 refine' wpAnyH_take (i := 17) (oi := _) (v := .int .i64 (comM x.1 r.extra : Int)) rfl (by kernel_rfl) (by kernel_rfl) (by kernel_rfl) (fun _ _ _ h => h) (Or.inl ⟨by first | (go_simp;done) | rfl,fun X _ => by go_simp⟩) hHeld ?_
 try simp only [Act.put,zsA,zsB,zsC]
 refine wpAnyH_done (by kernel_rfl) ?_ _
 go_simp
 go_wp2
 go_ret3
 exact ⟨rfl,bd⟩
set_option maxHeartbeats 4000000 in
set_option maxRecDepth 100000 in
theorem hits_digits (g : GameD) (av tv lm lb mv bv xv : Value) (ms : List AddonM) (x : LineD) (r : ResD) (w : World) (hg : GameR w av tv ms g) (hl : LineR w lm lb x.1 x.2) (hr : ResR w mv bv xv r) (hk : g.kind = 2) (hn : x.1.length = r.main.length) :
  Calls Tryz.prog 46 #[gameVal g av tv,lineVal lm lb,resVal mv bv xv r] w (fun e w' => ∃ c : Int,TripD c 0 0 w e w') := by
 have hl0 := hide (fun X (hX : Below w.heap.size w X) => hl.below hX)
 have hr0 := hide (fun X (hX : Below w.heap.size w X) => hr.below hX)
 obtain ⟨aa,ac,rfl,hal,ham⟩ := hg.1.1.shape
 obtain ⟨ta,tc,rfl,htl,htm⟩ := hg.2.2.shape
 obtain ⟨a1,k1,rfl,hk0,hk1,-⟩ := hl.1.form
 obtain ⟨a2,n2,k2,rfl⟩ := Rd.shape hl.2
 obtain ⟨ma,mc,rfl,-,-,-⟩ := hr.1.form
 obtain ⟨ba,bc,rfl,-,-,-⟩ := hr.2.1.form
 obtain ⟨xa,xc,rfl,-,-,-⟩ := hr.2.2.form
 obtain ⟨n,hnn⟩ : ∃ n,n = x.1.length := ⟨_,rfl⟩
 have hnm : n ≤ 9223372036854775807 := by unfold maxLen at hk1;omega
 rw [← hnn] at hn hl0 ⊢
 rw [← hn] at hr0 ⊢
 have hnnh := hide hnn
 have hnh := hide hn
 clear hg hl hr hal ham htl htm hk1 hk0 hnn hn
 have hkb : (g.kind == 2) = true := by simpa using hk
 replace hk := hide hk
 unfold gameVal lineVal resVal
 go_enter Tryz.func46,Tryz.ntmps46
 go_upto_region 1 with (fail)
 obtain ⟨W,hW⟩ : ∃ W,W = (((w.alloc (Obj.cells #[.string g.name,.int .i64 g.kind,.int .i64 g.price,.int .i64 g.main,.int .i64 g.of,.int .i64 g.bonus,.int .i64 g.bonusOf,.int .i64 g.extra,.int .i64 g.draws,.int .i64 g.system,.int .i64 g.days,.int .i64 g.at_,.int .i64 g.close,.int .i64 g.cancel,.int .i64 g.expiry,.int .i64 g.pool,.int .i64 g.reserve,.int .i64 g.round,.int .i64 g.cap,.int .i64 g.rolls,(.slice aa ms.length ac),(.slice ta g.tiers.length tc)] 25)).alloc (Obj.cells #[(.slice a1 n k1),(.slice a2 n2 k2)] 53)).alloc (Obj.cells #[(.slice ma n mc),(.slice ba r.bonus.length bc),(.slice xa r.extra.length xc),.int .i64 r.factor,.string r.serial] 29)) := ⟨_,rfl⟩
 have bW : Below w.heap.size w W := by rw [hW];exact Bel.al (Bel.al (Bel.al (Below.refl _ _) _) _) _
 have r0 : GameAt W (w.heap.size) g ((.slice aa ms.length ac)) ((.slice ta g.tiers.length tc)) := by rw [hW];exact Row.alloc (Row.alloc (Row.new _ _ _) _) _
 have r1 : LineAt W (w.heap.size + 1) ((.slice a1 n k1)) ((.slice a2 n2 k2)) := by rw [hW];exact Row.alloc (Row.at2 _ _ _ _) _
 have r2 : Row W ((w.heap.size + 1 + 1)) 29 [(.slice ma n mc),(.slice ba r.bonus.length bc),(.slice xa r.extra.length xc),.int .i64 r.factor,.string r.serial] := by rw [hW];exact Row.at3 _ _ _ _ _
 have sW : w.heap.size + 1 + 1 < W.heap.size := by rw [hW];simp
 rw [← hW]
 clear hW
 have d1 := r0.kind
 have x0 : W.cell? ⟨w.heap.size + 1,0,none⟩ = some (.slice a1 n k1) := (Row.cell? r1 0).trans rfl
 have y0 : W.cell? ⟨w.heap.size + 1 + 1,0,none⟩ = some (.slice ma n mc) := (Row.cell? r2 0).trans rfl
 clear r0
 go_wp2
 go_loopg [9,10,11,18] n (fun gh t9 _ _ t wr => ∃ (i c : Nat),gh = n - i ∧ i ≤ n ∧ t = .int .i64 (i : Int) ∧ t9 = .int .i64 (c : Int) ∧ c ≤ i ∧ W = wr)
 case atStart => exact ⟨0,0,rfl,Nat.zero_le _,rfl,rfl,Nat.le_refl _,rfl⟩
 case round =>
  obtain ⟨i,c,hgh,hi,rfl,rfl,hci,rfl⟩ := hrel
  replace hgh := hide hgh
  by_cases hlt : i < n
  ·have hlt2 := hide hlt
   obtain ⟨b0,off,rfl,hbb0,hcell⟩ := (hl0.out W bW).1.at_ (show i < x.1.length by rw [← hnnh.out];exact hlt)
   obtain ⟨b1,off1,rfl,hbb1,hcell1⟩ := (hr0.out W bW).1.at_ (show i < r.main.length by rw [← hnh.out];exact hlt)
   obtain ⟨y,c0⟩ : ∃ y,W.cell? ⟨b0,off + i,none⟩ = some (.int .i64 y) := ⟨_,hcell _ (by rw [← hnnh.out];exact hlt)⟩
   obtain ⟨z,c1⟩ : ∃ z,W.cell? ⟨b1,off1 + i,none⟩ = some (.int .i64 z) := ⟨_,hcell1 _ (by rw [← hnh.out];exact hlt)⟩
   have i1 : (0 : Int) ≤ (i : Int) := by omega
   have i2 : (i : Int) < (n : Int) := by omega
   clear hcell hcell1
   by_cases hyz : z = y
   ·have hb : (z == y) = true := by simpa using hyz
    replace hyz := hide hyz
    have c9 : c + 1 ≤ i + 1 := by omega
    go_wp2
    go_roundg (n - (i + 1))
    case measure => have := hgh.out;have := hlt2.out;omega
    case rel => exact ⟨i + 1,c + 1,rfl,by have := hlt2.out;omega,by go_num,by go_num,c9,rfl⟩
   ·have hb : (z == y) = false := by simpa using hyz
    replace hyz := hide hyz
    have c9 : c ≤ i + 1 := by omega
    go_wp2
    go_roundg (n - (i + 1))
    case measure => have := hgh.out;have := hlt2.out;omega
    case rel => exact ⟨i + 1,c,rfl,by have := hlt2.out;omega,by go_num,rfl,c9,rfl⟩
  ·have i2 : ¬ (i : Int) < (n : Int) := by omega
   go_wp2
   go_ret3
   exact ⟨_,rfl,bW⟩
set_option maxHeartbeats 4000000 in
set_option maxRecDepth 100000 in
theorem mcheck_any (g : GameD) (av tv lm lb mv bv xv : Value) (ms : List AddonM) (x : LineD) (r : ResD) (w : World) (hg : GameR w av tv ms g) (hl : LineR w lm lb x.1 x.2) (hr : ResR w mv bv xv r) (hs : r.serial.size ≤ 9223372036854775807) :
  Calls Tryz.prog 45 #[gameVal g av tv,lineVal lm lb,resVal mv bv xv r] w (IntB (checkM g x r) w) := by
 have cG := hide (fun X (hX : Below w.heap.size w X) => gcheck_any g av tv ms X (hg.below hX))
 have cL := hide (fun X (hX : Below w.heap.size w X) => mlcheck_any g av tv lm lb ms x.1 x.2 X (hg.below hX) (hl.below hX))
 have cD := hide (fun X (hX : Below w.heap.size w X) => dcheck_any g av tv mv bv xv ms r X (hg.below hX) (hr.below hX) hs)
 have hgl : gameE g ≠ 0 → lineE g x.1 x.2 = gameE g := fun h => by unfold lineE;rw [if_pos h]
 obtain ⟨P,hP⟩ : ∃ P,P = checkM g x r := ⟨_,rfl⟩
 rw [← hP]
 unfold checkM at hP
 obtain ⟨c1,hc1⟩ : ∃ c,c = gameE g := ⟨_,rfl⟩
 obtain ⟨c2,hc2⟩ : ∃ c,c = lineE g x.1 x.2 := ⟨_,rfl⟩
 obtain ⟨c3,hc3⟩ : ∃ c,c = resE g r := ⟨_,rfl⟩
 rw [← hc1] at cG hgl
 rw [← hc2] at cL hP hgl
 rw [← hc3] at cD hP
 obtain ⟨aa,ac,rfl,hal,ham⟩ := hg.1.1.shape
 obtain ⟨ta,tc,rfl,htl,htm⟩ := hg.2.2.shape
 obtain ⟨a1,n1,k1,rfl⟩ := Rd.shape hl.1
 obtain ⟨a2,n2,k2,rfl⟩ := Rd.shape hl.2
 obtain ⟨ma,mc,rfl,-,-,-⟩ := hr.1.form
 obtain ⟨ba,bc,rfl,-,-,-⟩ := hr.2.1.form
 obtain ⟨xa,xc,rfl,-,-,-⟩ := hr.2.2.form
 clear hg hl hr hal ham htl htm hs hc1 hc2 hc3
 unfold gameVal at cG cL cD
 unfold lineVal at cL
 unfold resVal at cD
 unfold gameVal lineVal resVal
 by_cases h1 : c1 = 0
 rotate_left
 ·have h2 := hgl h1
  have hcb : (c1 != 0) = true := by simpa using h1
  subst h2
  rw [if_pos h1] at hP
  subst hP
  replace h1 := hide h1
  clear hgl cL cD
  go_enter Tryz.func45,Tryz.ntmps45
  go_upto_region 1 with (fail)
  obtain ⟨W,hW⟩ : ∃ W,W = (((w.alloc (Obj.cells #[.string g.name,.int .i64 g.kind,.int .i64 g.price,.int .i64 g.main,.int .i64 g.of,.int .i64 g.bonus,.int .i64 g.bonusOf,.int .i64 g.extra,.int .i64 g.draws,.int .i64 g.system,.int .i64 g.days,.int .i64 g.at_,.int .i64 g.close,.int .i64 g.cancel,.int .i64 g.expiry,.int .i64 g.pool,.int .i64 g.reserve,.int .i64 g.round,.int .i64 g.cap,.int .i64 g.rolls,(.slice aa ms.length ac),(.slice ta g.tiers.length tc)] 25)).alloc (Obj.cells #[(.slice a1 n1 k1),(.slice a2 n2 k2)] 53)).alloc (Obj.cells #[(.slice ma r.main.length mc),(.slice ba r.bonus.length bc),(.slice xa r.extra.length xc),.int .i64 r.factor,.string r.serial] 29)) := ⟨_,rfl⟩
  have bW : Below w.heap.size w W := by rw [hW];exact Bel.al (Bel.al (Bel.al (Below.refl _ _) _) _) _
  have r0 : GameAt W (w.heap.size) g ((.slice aa ms.length ac)) ((.slice ta g.tiers.length tc)) := by rw [hW];exact Row.alloc (Row.alloc (Row.new _ _ _) _) _
  have r1 : LineAt W (w.heap.size + 1) ((.slice a1 n1 k1)) ((.slice a2 n2 k2)) := by rw [hW];exact Row.alloc (Row.at2 _ _ _ _) _
  have r2 : Row W ((w.heap.size + 1 + 1)) 29 [(.slice ma r.main.length mc),(.slice ba r.bonus.length bc),(.slice xa r.extra.length xc),.int .i64 r.factor,.string r.serial] := by rw [hW];exact Row.at3 _ _ _ _ _
  have sW : w.heap.size + 1 + 1 < W.heap.size := by rw [hW];simp
  rw [← hW]
  clear hW
  go_wp2_with (first | (refine wpList_load_row rfl 25 _ rfl _ rfl _ _ _ _ r0 Tryz.underlying25 rfl (by kernel_rfl) ?_) | fail)
  refine (cG.out _ bW).mono ?_
  rintro e w1 ⟨s,rfl,hb⟩
  go_wp2
  go_ret
  exact ⟨rfl,Bel.to bW hb⟩
 subst h1
 clear hgl
 by_cases h2 : c2 = 0
 rotate_left
 ·rw [if_pos h2] at hP
  have hcb : (c2 != 0) = true := by simpa using h2
  subst hP
  replace h2 := hide h2
  clear cD
  go_enter Tryz.func45,Tryz.ntmps45
  go_upto_region 1 with (fail)
  obtain ⟨W,hW⟩ : ∃ W,W = (((w.alloc (Obj.cells #[.string g.name,.int .i64 g.kind,.int .i64 g.price,.int .i64 g.main,.int .i64 g.of,.int .i64 g.bonus,.int .i64 g.bonusOf,.int .i64 g.extra,.int .i64 g.draws,.int .i64 g.system,.int .i64 g.days,.int .i64 g.at_,.int .i64 g.close,.int .i64 g.cancel,.int .i64 g.expiry,.int .i64 g.pool,.int .i64 g.reserve,.int .i64 g.round,.int .i64 g.cap,.int .i64 g.rolls,(.slice aa ms.length ac),(.slice ta g.tiers.length tc)] 25)).alloc (Obj.cells #[(.slice a1 n1 k1),(.slice a2 n2 k2)] 53)).alloc (Obj.cells #[(.slice ma r.main.length mc),(.slice ba r.bonus.length bc),(.slice xa r.extra.length xc),.int .i64 r.factor,.string r.serial] 29)) := ⟨_,rfl⟩
  have bW : Below w.heap.size w W := by rw [hW];exact Bel.al (Bel.al (Bel.al (Below.refl _ _) _) _) _
  have r0 : GameAt W (w.heap.size) g ((.slice aa ms.length ac)) ((.slice ta g.tiers.length tc)) := by rw [hW];exact Row.alloc (Row.alloc (Row.new _ _ _) _) _
  have r1 : LineAt W (w.heap.size + 1) ((.slice a1 n1 k1)) ((.slice a2 n2 k2)) := by rw [hW];exact Row.alloc (Row.at2 _ _ _ _) _
  have r2 : Row W ((w.heap.size + 1 + 1)) 29 [(.slice ma r.main.length mc),(.slice ba r.bonus.length bc),(.slice xa r.extra.length xc),.int .i64 r.factor,.string r.serial] := by rw [hW];exact Row.at3 _ _ _ _ _
  have sW : w.heap.size + 1 + 1 < W.heap.size := by rw [hW];simp
  rw [← hW]
  clear hW
  go_wp2_with (first | (refine wpList_load_row rfl 25 _ rfl _ rfl _ _ _ _ r0 Tryz.underlying25 rfl (by kernel_rfl) ?_) | fail)
  refine (cG.out _ bW).mono ?_
  rintro e w1 ⟨s,rfl,hb⟩
  replace bW := Bel.to bW hb
  replace r0 := r0.keep hb
  replace r1 := Row.keep r1 hb
  clear hb
  go_wp2_with (first | (refine wpList_load_row rfl 25 _ rfl _ rfl _ _ _ _ r0 Tryz.underlying25 rfl (by kernel_rfl) ?_) | (refine wpList_load_row rfl 53 _ rfl _ rfl _ _ _ _ r1 Tryz.underlying53 rfl (by kernel_rfl) ?_) | fail)
  refine (cL.out _ bW).mono ?_
  rintro e w2 ⟨rfl,hb⟩
  go_wp2
  go_ret
  exact ⟨rfl,Bel.to bW hb⟩
 subst h2
 rw [if_neg (by simp)] at hP
 subst hP
 go_enter Tryz.func45,Tryz.ntmps45
 go_upto_region 1 with (fail)
 obtain ⟨W,hW⟩ : ∃ W,W = (((w.alloc (Obj.cells #[.string g.name,.int .i64 g.kind,.int .i64 g.price,.int .i64 g.main,.int .i64 g.of,.int .i64 g.bonus,.int .i64 g.bonusOf,.int .i64 g.extra,.int .i64 g.draws,.int .i64 g.system,.int .i64 g.days,.int .i64 g.at_,.int .i64 g.close,.int .i64 g.cancel,.int .i64 g.expiry,.int .i64 g.pool,.int .i64 g.reserve,.int .i64 g.round,.int .i64 g.cap,.int .i64 g.rolls,(.slice aa ms.length ac),(.slice ta g.tiers.length tc)] 25)).alloc (Obj.cells #[(.slice a1 n1 k1),(.slice a2 n2 k2)] 53)).alloc (Obj.cells #[(.slice ma r.main.length mc),(.slice ba r.bonus.length bc),(.slice xa r.extra.length xc),.int .i64 r.factor,.string r.serial] 29)) := ⟨_,rfl⟩
 have bW : Below w.heap.size w W := by rw [hW];exact Bel.al (Bel.al (Bel.al (Below.refl _ _) _) _) _
 have r0 : GameAt W (w.heap.size) g ((.slice aa ms.length ac)) ((.slice ta g.tiers.length tc)) := by rw [hW];exact Row.alloc (Row.alloc (Row.new _ _ _) _) _
 have r1 : LineAt W (w.heap.size + 1) ((.slice a1 n1 k1)) ((.slice a2 n2 k2)) := by rw [hW];exact Row.alloc (Row.at2 _ _ _ _) _
 have r2 : Row W ((w.heap.size + 1 + 1)) 29 [(.slice ma r.main.length mc),(.slice ba r.bonus.length bc),(.slice xa r.extra.length xc),.int .i64 r.factor,.string r.serial] := by rw [hW];exact Row.at3 _ _ _ _ _
 have sW : w.heap.size + 1 + 1 < W.heap.size := by rw [hW];simp
 rw [← hW]
 clear hW
 go_wp2_with (first | (refine wpList_load_row rfl 25 _ rfl _ rfl _ _ _ _ r0 Tryz.underlying25 rfl (by kernel_rfl) ?_) | fail)
 refine (cG.out _ bW).mono ?_
 rintro e w1 ⟨s,rfl,hb⟩
 replace bW := Bel.to bW hb
 replace r0 := r0.keep hb
 replace r1 := Row.keep r1 hb
 replace r2 := Row.keep r2 hb
 clear hb
 go_wp2_with (first | (refine wpList_load_row rfl 25 _ rfl _ rfl _ _ _ _ r0 Tryz.underlying25 rfl (by kernel_rfl) ?_) | (refine wpList_load_row rfl 53 _ rfl _ rfl _ _ _ _ r1 Tryz.underlying53 rfl (by kernel_rfl) ?_) | fail)
 refine (cL.out _ bW).mono ?_
 rintro e w2 ⟨rfl,hb⟩
 replace bW := Bel.to bW hb
 replace r0 := r0.keep hb
 replace r2 := Row.keep r2 hb
 clear hb
 go_wp2_with (first | (refine wpList_load_row rfl 25 _ rfl _ rfl _ _ _ _ r0 Tryz.underlying25 rfl (by kernel_rfl) ?_) | (refine wpList_load_row rfl 29 _ rfl _ rfl _ _ _ _ r2 Tryz.underlying29 rfl (by kernel_rfl) ?_) | fail)
 refine (cD.out _ bW).mono ?_
 rintro e w3 ⟨rfl,hb⟩
 go_wp2
 go_ret
 exact ⟨rfl,Bel.to bW hb⟩
theorem Rd.cut {α : Type} {V : α → Value} {w : World} {ao : Option Addr} {cap k m : Nat} {l : List α} (h : Rd V w (.slice ao l.length cap) l) (hk : k ≤ m) (hm : m ≤ l.length) :
  Rd V w (sliced ao k m cap 1) ((l.take m).drop k) := by
 obtain ⟨ao',cap',e,h1,h2,h3⟩ := h
 injection e with e1 _ e3
 subst e1 e3
 have hl : ((l.take m).drop k).length = m - k := by rw [List.length_drop,List.length_take];omega
 unfold sliced
 refine ⟨_,cap - k,by rw [hl],by omega,by omega,fun hp => ?_⟩
 obtain ⟨b,off,rfl,hb,hc⟩ := h3 (by omega)
 refine ⟨b,off + k,?_,hb,fun i x hx => ?_⟩
 ·rw [if_neg (by omega)]
  simp only [Option.map_some,Nat.mul_one,Addr.add]
  split
  ·next h0 => subst h0;rfl
  ·rfl
 ·rw [List.getElem?_drop,List.getElem?_take] at hx
  split at hx
  ·have := hc (k + i) x hx
   rw [show off + k + i = off + (k + i) by omega];exact this
  ·cases hx
theorem run_cut {P : Program} {w : World} {o : Oper} {a : Act} (x lo hi : Operand) (t : TypeId) (hop : o.op = .slice t x (some lo) (some hi) none) (ht : P.underlying t = some (.slice (P.elem t))) (hs : ∀ w,(sizeOf (P.elem t)).run P w = .ok 1 w)
  (ao : Option Addr) (n cap : Nat) (hx : a.eval x = .slice ao n cap) (k m : Nat) (hk : a.eval lo = .int .i64 k) (hm : a.eval hi = .int .i64 m) (hkm : k ≤ m) (hmc : m ≤ cap) : (execOp a.eval o).run P w = .ok (.value (sliced ao k m cap 1)) w := by
 have hrun := run_slice_lh (P := P) (w := w) t ao n cap ht .i64 .i64 k m (by omega) (by omega) (by omega)
 have hrun' := (run_sliceAt_slice (P := P) (w := w) t (.slice ao n cap) (some (.int .i64 k)) (some (.int .i64 m)) none ht).trans hrun
 simp [execOp,hop,hx,hk,hm,hrun',hs,Result.andThen]
set_option maxHeartbeats 4000000 in
set_option maxRecDepth 100000 in
theorem dig_box (n : Int) (u v : Value) (a b : List Int) (w : World) (ha : Rd I64 w u a) (hb : Rd I64 w v b) (la : a.length ≤ 1000) (hn : b.length = a.length) :
  Calls Tryz.prog 47 #[.int .i64 2,.int .i64 n,u,v] w (BoolB (decide (sortI a = sortI b)) w) := by
 have cA := hide (fun X (hX : Below w.heap.size w X) => clone_any u a X (ha.below hX) (by omega))
 have cB := hide (fun X (hX : Below w.heap.size w X) => clone_any v b X (hb.below hX) (by omega))
 obtain ⟨ao,ac,rfl,-,-,-⟩ := Rd.form ha
 obtain ⟨bo,bc,rfl,-,-,-⟩ := Rd.form hb
 have hl1 : a.length < 4611686018427387904 := by omega
 have hl2 : b.length < 4611686018427387904 := by omega
 rw [hn] at cB ⊢
 obtain ⟨N,hN⟩ : ∃ N,N = a.length := ⟨_,rfl⟩
 rw [← hN] at cA cB ⊢
 have hNn : N ≤ 1000 := by omega
 replace hN := hide hN
 replace hn := hide hn
 obtain ⟨q,hq⟩ : ∃ q,q = decide (sortI a = sortI b) := ⟨_,rfl⟩
 rw [← hq]
 replace hq := hide hq
 clear ha hb la
 go_enter Tryz.func47,Tryz.ntmps47
 go_wp2_with fail
 refine (cA.out _ (Below.refl _ _)).mono ?_
 rintro e w1 ⟨u1,rfl,ho1,hb1⟩
 have hlt1 := ho1.lt
 go_wp2_with fail
 refine (cB.out _ hb1).mono ?_
 rintro e w2 ⟨u2,rfl,ho2,hb2⟩
 have hlt2 := ho2.lt
 have B2 := Bel.to hb1 hb2
 have ho1 := ho1.keep hb2
 have hne : u2.ownBlock = none ∨ u2.ownBlock ≠ u1.ownBlock := by
  cases hx : u2.ownBlock with
  | none => exact .inl rfl
  | some k => exact .inr (fun e => by have h1 := hlt2 k hx;have h2 := hlt1 k e.symm;omega)
 have hne2 : u1.ownBlock = none ∨ u1.ownBlock ≠ u2.ownBlock := by
  cases hx : u1.ownBlock with
  | none => exact .inl rfl
  | some k => exact .inr (fun e => by have h1 := hlt1 k hx;have h2 := hlt2 k e.symm;omega)
 go_wp2_with fail
 refine (sort_own u1 a w.heap.size w2 ho1 hl1).mono ?_
 rintro e w3 ⟨rfl,ho3,hg3⟩
 have ho4 := ho2.grown hg3 hne
 have B3 : Below w.heap.size w w3 := B2.grown hg3 B2.size (fun k hk => (hlt1 k hk).1)
 go_wp2_with fail
 refine (sort_own u2 b w1.heap.size w3 ho4 hl2).mono ?_
 rintro e w4 ⟨rfl,ho5,hg4⟩
 have ho6 := ho3.grown hg4 hne2
 have B4 : Below w.heap.size w w4 := B3.grown hg4 B3.size (fun k hk => by have := (hlt2 k hk).1;have := hb1.size;omega)
 have hE := hide (sequal_any u1 u2 (sortI a) (sortI b) w4 ho6.rd ho5.rd)
 rw [← hq.out] at hE
 go_wp2_with fail
 refine hE.out.mono ?_
 rintro e w5 ⟨rfl,hb5⟩
 go_wp2
 go_ret
 exact ⟨rfl,Bel.to B4 hb5⟩
set_option maxHeartbeats 4000000 in
set_option maxRecDepth 100000 in
theorem dig_exact (n : Int) (u v : Value) (a b : List Int) (w : World) (ha : Rd I64 w u a) (hb : Rd I64 w v b) (la : a.length ≤ 1000) (hn : b.length = a.length) :
  Calls Tryz.prog 47 #[.int .i64 1,.int .i64 n,u,v] w (BoolB (decide (a = b)) w) := by
 obtain ⟨ao,ac,rfl,hac,-,-⟩ := Rd.form ha
 obtain ⟨bo,bc,rfl,hbc,-,-⟩ := Rd.form hb
 have hE := sequal_any (sliced ao (0) (a.length) ac 1) (sliced bo (0) (a.length) bc 1) _ _ w.drew (Rd.cut ha (by omega) (by omega)) (Rd.cut hb (by omega) (by omega))
 rw [hn] at hbc ⊢
 obtain ⟨va,hva⟩ : ∃ x,x = sliced ao (0) (a.length) ac 1 := ⟨_,rfl⟩
 obtain ⟨vb,hvb⟩ : ∃ x,x = sliced bo (0) (a.length) bc 1 := ⟨_,rfl⟩
 rw [← hva,← hvb] at hE
 obtain ⟨q,hq⟩ : ∃ q,q = decide (a = b) := ⟨_,rfl⟩
 rw [← hq]
 have hq2 : decide (((a.take (a.length)).drop (0)) = ((b.take (a.length)).drop (0))) = q := by rw [hq] <;> rw [show b.take a.length = b from by rw [← hn,List.take_length],List.take_length,List.drop_zero,List.drop_zero]
 rw [hq2] at hE
 replace hE := hide hE
 clear hq2 hq
 obtain ⟨N,hN⟩ : ∃ N,N = a.length := ⟨_,rfl⟩
 try rw [← hN] at hva hvb
 rw [← hN] at hac hbc la ⊢
 replace hN := hide hN
 replace hn := hide hn
 replace hva := hide hva
 replace hvb := hide hvb
 have hkm : 0 ≤ N := by omega
 have hma : N ≤ ac := hac
 have hmb : N ≤ bc := hbc
 clear ha hb
 go_enter Tryz.func47,Tryz.ntmps47
 go_upto_region 19 with (fail)
 refine wp_region_held_drew (S := fun X => True) (by kernel_rfl) trivial (fun hHeld => ?_)
 refine' wpAnyH_take (i := 0) (oi := _) (v := .slice ao N ac) rfl (by kernel_rfl) (by kernel_rfl) (by kernel_rfl) (fun _ _ _ h => h) (Or.inl ⟨by first | (go_simp;done) | rfl,fun X _ => by go_simp⟩) hHeld ?_
 try simp only [Act.put,zsA,zsB,zsC]
 refine' wpAnyH_take (i := 1) (oi := _) (v := .int .i64 0) rfl (by kernel_rfl) (by kernel_rfl) (by kernel_rfl) (fun _ _ _ h => h) (Or.inl ⟨by first | (go_simp;done) | rfl,fun X _ => by go_simp⟩) hHeld ?_
 try simp only [Act.put,zsA,zsB,zsC]
 refine' wpAnyH_take (i := 2) (oi := _) (v := .int .i64 (N : Int)) rfl (by kernel_rfl) (by kernel_rfl) (by kernel_rfl) (fun _ _ _ h => h) (Or.inl ⟨by first | (go_simp;done) | rfl,fun X _ => by go_simp⟩) hHeld ?_
 try simp only [Act.put,zsA,zsB,zsC]
 refine' wpAnyH_take (i := 3) (oi := _) (v := va) rfl (by kernel_rfl) (by kernel_rfl) (by kernel_rfl) (fun _ _ _ h => h) (Or.inl ⟨by first | (go_simp;done) | rfl,fun X _ => by rw [hva.out];refine run_cut (.tmp 53) (.tmp 54) (.tmp 55) 27 rfl elemInts sizeEI ao N ac ?_ (0) (N) ?_ ?_ hkm hma <;> go_simp⟩) hHeld ?_
 try simp only [Act.put,zsA,zsB,zsC]
 refine' wpAnyH_take (i := 4) (oi := _) (v := .slice bo N bc) rfl (by kernel_rfl) (by kernel_rfl) (by kernel_rfl) (fun _ _ _ h => h) (Or.inl ⟨by first | (go_simp;done) | rfl,fun X _ => by go_simp⟩) hHeld ?_
 try simp only [Act.put,zsA,zsB,zsC]
 refine' wpAnyH_take (i := 5) (oi := _) (v := .int .i64 0) rfl (by kernel_rfl) (by kernel_rfl) (by kernel_rfl) (fun _ _ _ h => h) (Or.inl ⟨by first | (go_simp;done) | rfl,fun X _ => by go_simp⟩) hHeld ?_
 try simp only [Act.put,zsA,zsB,zsC]
 refine' wpAnyH_take (i := 6) (oi := _) (v := .int .i64 (N : Int)) rfl (by kernel_rfl) (by kernel_rfl) (by kernel_rfl) (fun _ _ _ h => h) (Or.inl ⟨by first | (go_simp;done) | rfl,fun X _ => by go_simp⟩) hHeld ?_
 try simp only [Act.put,zsA,zsB,zsC]
 refine' wpAnyH_take (i := 7) (oi := _) (v := vb) rfl (by kernel_rfl) (by kernel_rfl) (by kernel_rfl) (fun _ _ _ h => h) (Or.inl ⟨by first | (go_simp;done) | rfl,fun X _ => by rw [hvb.out];refine run_cut (.tmp 57) (.tmp 58) (.tmp 59) 27 rfl elemInts sizeEI bo N bc ?_ (0) (N) ?_ ?_ hkm hmb <;> go_simp⟩) hHeld ?_
 try simp only [Act.put,zsA,zsB,zsC]
 refine wpAnyH_ready (rs := [8]) (by kernel_rfl) (by simp) ?_
 refine AllReadyH.cons (o := _) rfl (fun K hK => ?_) AllReadyH.nil
 go_simp
 refine hE.out.mono ?_
 rintro e w3 ⟨rfl,hb3⟩
 go_wp2_with fail
 refine hK.out _ _ trivial (fun hHeld => ?_)
 clear hK K
 try simp only [Act.put,zsA,zsB,zsC]
 refine' wpAnyH_take (i := 9) (oi := _) (v := .bool q) rfl (by kernel_rfl) (by kernel_rfl) (by kernel_rfl) (fun _ _ _ h => h) (Or.inl ⟨by first | (go_simp;done) | rfl,fun X _ => by go_simp⟩) hHeld ?_
 try simp only [Act.put,zsA,zsB,zsC]
 refine wpAnyH_done (by kernel_rfl) ?_ _
 go_simp
 go_wp2
 go_ret
 exact ⟨rfl,Bel.to (Below.drewSelf w) hb3⟩
set_option maxHeartbeats 4000000 in
set_option maxRecDepth 100000 in
theorem dig_front (j : Nat) (u v : Value) (a b : List Int) (w : World) (ha : Rd I64 w u a) (hb : Rd I64 w v b) (la : a.length ≤ 1000) (hn : b.length = a.length) (hj1 : 1 ≤ j) (hj : j ≤ a.length) :
  Calls Tryz.prog 47 #[.int .i64 3,.int .i64 (j : Int),u,v] w (BoolB (decide (a.take j = b.take j)) w) := by
 obtain ⟨ao,ac,rfl,hac,-,-⟩ := Rd.form ha
 obtain ⟨bo,bc,rfl,hbc,-,-⟩ := Rd.form hb
 have hE := sequal_any (sliced ao (0) (j) ac 1) (sliced bo (0) (j) bc 1) _ _ w.drew (Rd.cut ha (by omega) (by omega)) (Rd.cut hb (by omega) (by omega))
 rw [hn] at hbc ⊢
 obtain ⟨va,hva⟩ : ∃ x,x = sliced ao (0) (j) ac 1 := ⟨_,rfl⟩
 obtain ⟨vb,hvb⟩ : ∃ x,x = sliced bo (0) (j) bc 1 := ⟨_,rfl⟩
 rw [← hva,← hvb] at hE
 obtain ⟨q,hq⟩ : ∃ q,q = decide (a.take j = b.take j) := ⟨_,rfl⟩
 rw [← hq]
 have hq2 : decide (((a.take (j)).drop (0)) = ((b.take (j)).drop (0))) = q := by rw [hq] <;> rw [List.drop_zero,List.drop_zero]
 rw [hq2] at hE
 replace hE := hide hE
 clear hq2 hq
 obtain ⟨N,hN⟩ : ∃ N,N = a.length := ⟨_,rfl⟩
 try rw [← hN] at hva hvb
 rw [← hN] at hac hbc la hj ⊢
 replace hN := hide hN
 replace hn := hide hn
 replace hva := hide hva
 replace hvb := hide hvb
 have hkm : 0 ≤ j := by omega
 have hma : j ≤ ac := by omega
 have hmb : j ≤ bc := by omega
 have d1 : ¬ (j : Int) < 1 := by omega
 have d2 : ¬ (N : Int) < (j : Int) := by omega
 clear ha hb
 go_enter Tryz.func47,Tryz.ntmps47
 go_upto_region 19 with (fail)
 refine wp_region_held_drew (S := fun X => True) (by kernel_rfl) trivial (fun hHeld => ?_)
 refine' wpAnyH_take (i := 0) (oi := _) (v := .slice ao N ac) rfl (by kernel_rfl) (by kernel_rfl) (by kernel_rfl) (fun _ _ _ h => h) (Or.inl ⟨by first | (go_simp;done) | rfl,fun X _ => by go_simp⟩) hHeld ?_
 try simp only [Act.put,zsA,zsB,zsC]
 refine' wpAnyH_take (i := 1) (oi := _) (v := .int .i64 0) rfl (by kernel_rfl) (by kernel_rfl) (by kernel_rfl) (fun _ _ _ h => h) (Or.inl ⟨by first | (go_simp;done) | rfl,fun X _ => by go_simp⟩) hHeld ?_
 try simp only [Act.put,zsA,zsB,zsC]
 refine' wpAnyH_take (i := 2) (oi := _) (v := .int .i64 (j : Int)) rfl (by kernel_rfl) (by kernel_rfl) (by kernel_rfl) (fun _ _ _ h => h) (Or.inl ⟨by first | (go_simp;done) | rfl,fun X _ => by go_simp⟩) hHeld ?_
 try simp only [Act.put,zsA,zsB,zsC]
 refine' wpAnyH_take (i := 3) (oi := _) (v := va) rfl (by kernel_rfl) (by kernel_rfl) (by kernel_rfl) (fun _ _ _ h => h) (Or.inl ⟨by first | (go_simp;done) | rfl,fun X _ => by rw [hva.out];refine run_cut (.tmp 53) (.tmp 54) (.tmp 55) 27 rfl elemInts sizeEI ao N ac ?_ (0) (j) ?_ ?_ hkm hma <;> go_simp⟩) hHeld ?_
 try simp only [Act.put,zsA,zsB,zsC]
 refine' wpAnyH_take (i := 4) (oi := _) (v := .slice bo N bc) rfl (by kernel_rfl) (by kernel_rfl) (by kernel_rfl) (fun _ _ _ h => h) (Or.inl ⟨by first | (go_simp;done) | rfl,fun X _ => by go_simp⟩) hHeld ?_
 try simp only [Act.put,zsA,zsB,zsC]
 refine' wpAnyH_take (i := 5) (oi := _) (v := .int .i64 0) rfl (by kernel_rfl) (by kernel_rfl) (by kernel_rfl) (fun _ _ _ h => h) (Or.inl ⟨by first | (go_simp;done) | rfl,fun X _ => by go_simp⟩) hHeld ?_
 try simp only [Act.put,zsA,zsB,zsC]
 refine' wpAnyH_take (i := 6) (oi := _) (v := .int .i64 (j : Int)) rfl (by kernel_rfl) (by kernel_rfl) (by kernel_rfl) (fun _ _ _ h => h) (Or.inl ⟨by first | (go_simp;done) | rfl,fun X _ => by go_simp⟩) hHeld ?_
 try simp only [Act.put,zsA,zsB,zsC]
 refine' wpAnyH_take (i := 7) (oi := _) (v := vb) rfl (by kernel_rfl) (by kernel_rfl) (by kernel_rfl) (fun _ _ _ h => h) (Or.inl ⟨by first | (go_simp;done) | rfl,fun X _ => by rw [hvb.out];refine run_cut (.tmp 57) (.tmp 58) (.tmp 59) 27 rfl elemInts sizeEI bo N bc ?_ (0) (j) ?_ ?_ hkm hmb <;> go_simp⟩) hHeld ?_
 try simp only [Act.put,zsA,zsB,zsC]
 refine wpAnyH_ready (rs := [8]) (by kernel_rfl) (by simp) ?_
 refine AllReadyH.cons (o := _) rfl (fun K hK => ?_) AllReadyH.nil
 go_simp
 refine hE.out.mono ?_
 rintro e w3 ⟨rfl,hb3⟩
 go_wp2_with fail
 refine hK.out _ _ trivial (fun hHeld => ?_)
 clear hK K
 try simp only [Act.put,zsA,zsB,zsC]
 refine' wpAnyH_take (i := 9) (oi := _) (v := .bool q) rfl (by kernel_rfl) (by kernel_rfl) (by kernel_rfl) (fun _ _ _ h => h) (Or.inl ⟨by first | (go_simp;done) | rfl,fun X _ => by go_simp⟩) hHeld ?_
 try simp only [Act.put,zsA,zsB,zsC]
 refine wpAnyH_done (by kernel_rfl) ?_ _
 go_simp
 go_wp2
 go_ret
 exact ⟨rfl,Bel.to (Below.drewSelf w) hb3⟩
set_option maxHeartbeats 4000000 in
set_option maxRecDepth 100000 in
theorem dig_back (j : Nat) (u v : Value) (a b : List Int) (w : World) (ha : Rd I64 w u a) (hb : Rd I64 w v b) (la : a.length ≤ 1000) (hn : b.length = a.length) (hj1 : 1 ≤ j) (hj : j ≤ a.length) :
  Calls Tryz.prog 47 #[.int .i64 4,.int .i64 (j : Int),u,v] w (BoolB (decide (a.drop (a.length - j) = b.drop (a.length - j))) w) := by
 obtain ⟨ao,ac,rfl,hac,-,-⟩ := Rd.form ha
 obtain ⟨bo,bc,rfl,hbc,-,-⟩ := Rd.form hb
 have hE := sequal_any (sliced ao (a.length - j) (a.length) ac 1) (sliced bo (a.length - j) (a.length) bc 1) _ _ w.drew (Rd.cut ha (by omega) (by omega)) (Rd.cut hb (by omega) (by omega))
 rw [hn] at hbc ⊢
 obtain ⟨va,hva⟩ : ∃ x,x = sliced ao (a.length - j) (a.length) ac 1 := ⟨_,rfl⟩
 obtain ⟨vb,hvb⟩ : ∃ x,x = sliced bo (a.length - j) (a.length) bc 1 := ⟨_,rfl⟩
 rw [← hva,← hvb] at hE
 obtain ⟨q,hq⟩ : ∃ q,q = decide (a.drop (a.length - j) = b.drop (a.length - j)) := ⟨_,rfl⟩
 rw [← hq]
 have hq2 : decide (((a.take (a.length)).drop (a.length - j)) = ((b.take (a.length)).drop (a.length - j))) = q := by rw [hq] <;> rw [show b.take a.length = b from by rw [← hn,List.take_length],List.take_length]
 rw [hq2] at hE
 replace hE := hide hE
 clear hq2 hq
 obtain ⟨N,hN⟩ : ∃ N,N = a.length := ⟨_,rfl⟩
 try rw [← hN] at hva hvb
 rw [← hN] at hac hbc la hj ⊢
 replace hN := hide hN
 replace hn := hide hn
 replace hva := hide hva
 replace hvb := hide hvb
 have hkm : N - j ≤ N := by omega
 have hma : N ≤ ac := hac
 have hmb : N ≤ bc := hbc
 have d1 : ¬ (j : Int) < 1 := by omega
 have d2 : ¬ (N : Int) < (j : Int) := by omega
 have w1 : IntKind.i64.wrap ((N : Int) - (j : Int)) = ((N - j : Nat) : Int) := by rw [IntWalk.i64_in _ (by omega)];omega
 clear ha hb
 go_enter Tryz.func47,Tryz.ntmps47
 go_upto_region 19 with (fail)
 refine wp_region_held_drew (S := fun X => True) (by kernel_rfl) trivial (fun hHeld => ?_)
 refine' wpAnyH_take (i := 0) (oi := _) (v := .slice ao N ac) rfl (by kernel_rfl) (by kernel_rfl) (by kernel_rfl) (fun _ _ _ h => h) (Or.inl ⟨by first | (go_simp;done) | rfl,fun X _ => by go_simp⟩) hHeld ?_
 try simp only [Act.put,zsA,zsB,zsC]
 refine' wpAnyH_take (i := 1) (oi := _) (v := .int .i64 ((N - j : Nat) : Int)) rfl (by kernel_rfl) (by kernel_rfl) (by kernel_rfl) (fun _ _ _ h => h) (Or.inl ⟨by first | (go_simp;done) | rfl,fun X _ => by go_simp⟩) hHeld ?_
 try simp only [Act.put,zsA,zsB,zsC]
 refine' wpAnyH_take (i := 2) (oi := _) (v := .int .i64 (N : Int)) rfl (by kernel_rfl) (by kernel_rfl) (by kernel_rfl) (fun _ _ _ h => h) (Or.inl ⟨by first | (go_simp;done) | rfl,fun X _ => by go_simp⟩) hHeld ?_
 try simp only [Act.put,zsA,zsB,zsC]
 refine' wpAnyH_take (i := 3) (oi := _) (v := va) rfl (by kernel_rfl) (by kernel_rfl) (by kernel_rfl) (fun _ _ _ h => h) (Or.inl ⟨by first | (go_simp;done) | rfl,fun X _ => by rw [hva.out];refine run_cut (.tmp 53) (.tmp 54) (.tmp 55) 27 rfl elemInts sizeEI ao N ac ?_ (N - j) (N) ?_ ?_ hkm hma <;> go_simp⟩) hHeld ?_
 try simp only [Act.put,zsA,zsB,zsC]
 refine' wpAnyH_take (i := 4) (oi := _) (v := .slice bo N bc) rfl (by kernel_rfl) (by kernel_rfl) (by kernel_rfl) (fun _ _ _ h => h) (Or.inl ⟨by first | (go_simp;done) | rfl,fun X _ => by go_simp⟩) hHeld ?_
 try simp only [Act.put,zsA,zsB,zsC]
 refine' wpAnyH_take (i := 5) (oi := _) (v := .int .i64 ((N - j : Nat) : Int)) rfl (by kernel_rfl) (by kernel_rfl) (by kernel_rfl) (fun _ _ _ h => h) (Or.inl ⟨by first | (go_simp;done) | rfl,fun X _ => by go_simp⟩) hHeld ?_
 try simp only [Act.put,zsA,zsB,zsC]
 refine' wpAnyH_take (i := 6) (oi := _) (v := .int .i64 (N : Int)) rfl (by kernel_rfl) (by kernel_rfl) (by kernel_rfl) (fun _ _ _ h => h) (Or.inl ⟨by first | (go_simp;done) | rfl,fun X _ => by go_simp⟩) hHeld ?_
 try simp only [Act.put,zsA,zsB,zsC]
 refine' wpAnyH_take (i := 7) (oi := _) (v := vb) rfl (by kernel_rfl) (by kernel_rfl) (by kernel_rfl) (fun _ _ _ h => h) (Or.inl ⟨by first | (go_simp;done) | rfl,fun X _ => by rw [hvb.out];refine run_cut (.tmp 57) (.tmp 58) (.tmp 59) 27 rfl elemInts sizeEI bo N bc ?_ (N - j) (N) ?_ ?_ hkm hmb <;> go_simp⟩) hHeld ?_
 try simp only [Act.put,zsA,zsB,zsC]
 refine wpAnyH_ready (rs := [8]) (by kernel_rfl) (by simp) ?_
 refine AllReadyH.cons (o := _) rfl (fun K hK => ?_) AllReadyH.nil
 go_simp
 refine hE.out.mono ?_
 rintro e w3 ⟨rfl,hb3⟩
 go_wp2_with fail
 refine hK.out _ _ trivial (fun hHeld => ?_)
 clear hK K
 try simp only [Act.put,zsA,zsB,zsC]
 refine' wpAnyH_take (i := 9) (oi := _) (v := .bool q) rfl (by kernel_rfl) (by kernel_rfl) (by kernel_rfl) (fun _ _ _ h => h) (Or.inl ⟨by first | (go_simp;done) | rfl,fun X _ => by go_simp⟩) hHeld ?_
 try simp only [Act.put,zsA,zsB,zsC]
 refine wpAnyH_done (by kernel_rfl) ?_ _
 go_simp
 go_wp2
 go_ret
 exact ⟨rfl,Bel.to (Below.drewSelf w) hb3⟩
set_option maxHeartbeats 2000000 in
set_option maxRecDepth 100000 in
theorem digits_any (mode n : Int) (u v : Value) (a b : List Int) (w : World) (ha : Rd I64 w u a) (hb : Rd I64 w v b) (la : a.length ≤ 1000) :
  Calls Tryz.prog 47 #[.int .i64 mode,.int .i64 n,u,v] w (BoolB (digM mode n a b) w) := by
 unfold digM
 by_cases hn : b.length = a.length
 rotate_left
 ·rw [if_pos hn]
  obtain ⟨ao,ac,rfl,hac,ham,-⟩ := Rd.form ha
  obtain ⟨bo,bc,rfl,hbc,hbm,-⟩ := Rd.form hb
  unfold maxLen at ham hbm
  have hnb : ((b.length : Int) != (a.length : Int)) = true := by simp;omega
  have hn2 : ¬ (b.length : Int) = (a.length : Int) := by omega
  replace hn := hide hn
  clear ha hb
  go_enter Tryz.func47,Tryz.ntmps47
  go_wp2
  go_ret
  exact ⟨rfl,Below.refl _ _⟩
 rw [if_neg (by simpa using hn)]
 by_cases m2 : mode = 2
 ·subst m2
  rw [if_pos rfl]
  exact dig_box n u v a b w ha hb la hn
 rw [if_neg m2]
 by_cases m34 : mode = 3 ∨ mode = 4
 ·rw [if_pos m34]
  by_cases hr : n < 1 ∨ (a.length : Int) < n
  ·rw [if_pos hr]
   obtain ⟨ao,ac,rfl,hac,ham,-⟩ := Rd.form ha
   obtain ⟨bo,bc,rfl,hbc,hbm,-⟩ := Rd.form hb
   rw [hn]
   obtain ⟨N,hN⟩ : ∃ N,N = a.length := ⟨_,rfl⟩
   rw [← hN] at hr la ⊢
   replace hN := hide hN
   replace hn := hide hn
   clear ha hb hac ham hbc hbm m2
   by_cases h1 : n < 1
   ·have d1 : decide (n < 1) = true := decide_eq_true h1
    clear hr
    rcases m34 with rfl | rfl
    ·go_enter Tryz.func47,Tryz.ntmps47
     go_wp2
     go_ret
     exact ⟨rfl,Below.refl _ _⟩
    ·go_enter Tryz.func47,Tryz.ntmps47
     go_wp2
     go_ret
     exact ⟨rfl,Below.refl _ _⟩
   ·have h2 : (N : Int) < n := by omega
    have d1 : decide (n < 1) = false := decide_eq_false h1
    have d2 : decide ((N : Int) < n) = true := decide_eq_true h2
    clear hr
    rcases m34 with rfl | rfl
    ·go_enter Tryz.func47,Tryz.ntmps47
     go_wp2
     go_ret
     exact ⟨rfl,Below.refl _ _⟩
    ·go_enter Tryz.func47,Tryz.ntmps47
     go_wp2
     go_ret
     exact ⟨rfl,Below.refl _ _⟩
  ·rw [if_neg hr]
   obtain ⟨j,rfl⟩ := Int.eq_ofNat_of_zero_le (show 0 ≤ n by omega)
   have hj : j ≤ a.length := by omega
   have hj1 : 1 ≤ j := by omega
   rw [Int.toNat_natCast]
   by_cases m3 : mode = 3
   ·subst m3
    rw [if_pos rfl]
    exact dig_front j u v a b w ha hb la hn hj1 hj
   ·have m4 : mode = 4 := by omega
    subst m4
    rw [if_neg (by decide)]
    exact dig_back j u v a b w ha hb la hn hj1 hj
 ·rw [if_neg m34]
  by_cases m1 : mode = 1
  ·subst m1
   rw [if_pos rfl]
   exact dig_exact n u v a b w ha hb la hn
  ·rw [if_neg m1]
   obtain ⟨ao,ac,rfl,hac,ham,-⟩ := Rd.form ha
   obtain ⟨bo,bc,rfl,hbc,hbm,-⟩ := Rd.form hb
   rw [hn]
   obtain ⟨N,hN⟩ : ∃ N,N = a.length := ⟨_,rfl⟩
   rw [← hN] at la ⊢
   replace hN := hide hN
   replace hn := hide hn
   have b1 : (mode == 1) = false := by simpa using m1
   have b2 : (mode == 2) = false := by simpa using m2
   have b3 : (mode == 3) = false := by simp;omega
   have b4 : (mode == 4) = false := by simp;omega
   replace m1 := hide m1
   replace m2 := hide m2
   clear ha hb hac ham hbc hbm m34
   go_enter Tryz.func47,Tryz.ntmps47
   go_wp2
   go_ret
   exact ⟨rfl,Below.refl _ _⟩
theorem numE_len {g : GameD} {r : ResD} (h : numE g r = 0) : (r.main.length : Int) = g.main := by
 unfold numE at h
 split at h
 ·exact absurd h (by decide)
 ·rename_i h1;omega
theorem check_facts {g : GameD} {x : LineD} {r : ResD} (h : checkM g x r = 0) : x.1.length ≤ 1000 ∧ x.1.length = r.main.length ∧ lineE g x.1 x.2 = 0 ∧ resE g r = 0 := by
 unfold checkM at h
 split at h
 ·rename_i h1;exact absurd h h1
 ·rename_i h1
  have hl : lineE g x.1 x.2 = 0 := by simpa using h1
  have hok := lineE_ok.1 hl
  have hf := mat_facts (game_mat hok.1)
  have h2 := hok.2.1
  have hn : numE g r = 0 := by
   unfold resE at h
   rw [if_neg (by simpa using hok.1)] at h
   split at h
   ·rename_i h3;exact absurd h h3
   ·rename_i h3;simpa using h3
  have h3 := numE_len hn
  exact ⟨by omega,by omega,hl,h⟩
set_option maxHeartbeats 4000000 in
set_option maxRecDepth 100000 in
theorem mtier_bad (g : GameD) (av tv lm lb mv bv xv : Value) (ms : List AddonM) (x : LineD) (r : ResD) (w : World) (hg : GameR w av tv ms g) (hl : LineR w lm lb x.1 x.2) (hr : ResR w mv bv xv r) (hs : r.serial.size ≤ 9223372036854775807) (hc : checkM g x r ≠ 0) :
  Calls Tryz.prog 20 #[gameVal g av tv,lineVal lm lb,resVal mv bv xv r] w (IntC 0 (checkM g x r) w) := by
 have cK := hide (fun X (hX : Below w.heap.size w X) => mcheck_any g av tv lm lb mv bv xv ms x r X (hg.below hX) (hl.below hX) (hr.below hX) hs)
 obtain ⟨c,hcc⟩ : ∃ c,c = checkM g x r := ⟨_,rfl⟩
 rw [← hcc] at cK hc ⊢
 have hcb : (c != 0) = true := by simpa using hc
 replace hc := hide hc
 obtain ⟨M,hM⟩ : ∃ M,M = g.tiers.length := ⟨_,rfl⟩
 obtain ⟨aa,ac,rfl,hal,ham⟩ := hg.1.1.shape
 obtain ⟨ta,tc,rfl,htl,htm⟩ := hg.2.2.shape
 obtain ⟨a1,n1,k1,rfl⟩ := Rd.shape hl.1
 obtain ⟨a2,n2,k2,rfl⟩ := Rd.shape hl.2
 obtain ⟨ma,mc,rfl,-,-,-⟩ := hr.1.form
 obtain ⟨ba,bc,rfl,-,-,-⟩ := hr.2.1.form
 obtain ⟨xa,xc,rfl,-,-,-⟩ := hr.2.2.form
 clear hg hl hr hal ham htl htm hs hcc
 unfold gameVal lineVal resVal at cK
 unfold gameVal lineVal resVal
 rw [← hM] at cK ⊢
 clear hM
 go_enter Tryz.func20,Tryz.ntmps20
 go_upto_region 1 with (fail)
 obtain ⟨W,hW⟩ : ∃ W,W = (((w.alloc (Obj.cells #[.string g.name,.int .i64 g.kind,.int .i64 g.price,.int .i64 g.main,.int .i64 g.of,.int .i64 g.bonus,.int .i64 g.bonusOf,.int .i64 g.extra,.int .i64 g.draws,.int .i64 g.system,.int .i64 g.days,.int .i64 g.at_,.int .i64 g.close,.int .i64 g.cancel,.int .i64 g.expiry,.int .i64 g.pool,.int .i64 g.reserve,.int .i64 g.round,.int .i64 g.cap,.int .i64 g.rolls,(.slice aa ms.length ac),(.slice ta M tc)] 25)).alloc (Obj.cells #[(.slice a1 n1 k1),(.slice a2 n2 k2)] 53)).alloc (Obj.cells #[(.slice ma r.main.length mc),(.slice ba r.bonus.length bc),(.slice xa r.extra.length xc),.int .i64 r.factor,.string r.serial] 29)) := ⟨_,rfl⟩
 have bW : Below w.heap.size w W := by rw [hW];exact Bel.al (Bel.al (Bel.al (Below.refl _ _) _) _) _
 have r0 : GameAt W (w.heap.size) g ((.slice aa ms.length ac)) ((.slice ta M tc)) := by rw [hW];exact Row.alloc (Row.alloc (Row.new _ _ _) _) _
 have r1 : LineAt W (w.heap.size + 1) ((.slice a1 n1 k1)) ((.slice a2 n2 k2)) := by rw [hW];exact Row.alloc (Row.at2 _ _ _ _) _
 have r2 : Row W ((w.heap.size + 1 + 1)) 29 [(.slice ma r.main.length mc),(.slice ba r.bonus.length bc),(.slice xa r.extra.length xc),.int .i64 r.factor,.string r.serial] := by rw [hW];exact Row.at3 _ _ _ _ _
 have sW : w.heap.size + 1 + 1 < W.heap.size := by rw [hW];simp
 rw [← hW]
 clear hW
 go_wp2_with (first | (refine wpList_load_row rfl 25 _ rfl _ rfl _ _ _ _ r0 Tryz.underlying25 rfl (by kernel_rfl) ?_) | (refine wpList_load_row rfl 53 _ rfl _ rfl _ _ _ _ r1 Tryz.underlying53 rfl (by kernel_rfl) ?_) | (refine wpList_load_row rfl 29 _ rfl _ rfl _ _ _ _ r2 Tryz.underlying29 rfl (by kernel_rfl) ?_) | fail)
 refine (cK.out _ bW).mono ?_
 rintro e w1 ⟨rfl,hb⟩
 go_wp2
 go_ret2
 exact ⟨rfl,Bel.to bW hb⟩
set_option maxHeartbeats 8000000 in
set_option maxRecDepth 100000 in
theorem mtier_digits (g : GameD) (av tv lm lb mv bv xv : Value) (ms : List AddonM) (x : LineD) (r : ResD) (w : World) (hg : GameR w av tv ms g) (hl : LineR w lm lb x.1 x.2) (hr : ResR w mv bv xv r) (hs : r.serial.size ≤ 9223372036854775807) (hc : checkM g x r = 0) (hk : g.kind = 2) :
  Calls Tryz.prog 20 #[gameVal g av tv,lineVal lm lb,resVal mv bv xv r] w (IntC (tierM g x r) 0 w) := by
 obtain ⟨hx1,hx2,-⟩ := check_facts hc
 have cK := hide (fun X (hX : Below w.heap.size w X) => mcheck_any g av tv lm lb mv bv xv ms x r X (hg.below hX) (hl.below hX) (hr.below hX) hs)
 rw [hc] at cK
 have cH := hide (fun X (hX : Below w.heap.size w X) => hits_digits g av tv lm lb mv bv xv ms x r X (hg.below hX) (hl.below hX) (hr.below hX) hk hx2)
 have cD := hide (fun X (mode n : Int) (hX : Below w.heap.size w X) => digits_any mode n lm mv x.1 r.main X (hl.below hX).1 (hr.below hX).1 (by omega))
 obtain ⟨R,hR⟩ : ∃ R,R = tierM g x r := ⟨_,rfl⟩
 rw [← hR]
 have hR0 := hide (show tierGo (meetM g x r) (g.tiers.drop 0) 0 = R by rw [List.drop_zero,hR];rfl)
 obtain ⟨M,hM⟩ : ∃ M,M = g.tiers.length := ⟨_,rfl⟩
 have hT := hide (fun X (hX : Below w.heap.size w X) => (hg.below hX).2.2)
 obtain ⟨aa,ac,rfl,hal,ham⟩ := hg.1.1.shape
 obtain ⟨ta,tc,rfl,htl,htm⟩ := hg.2.2.shape
 obtain ⟨a1,n1,k1,rfl⟩ := Rd.shape hl.1
 obtain ⟨a2,n2,k2,rfl⟩ := Rd.shape hl.2
 obtain ⟨ma,mc,rfl,-,-,-⟩ := hr.1.form
 obtain ⟨ba,bc,rfl,-,-,-⟩ := hr.2.1.form
 obtain ⟨xa,xc,rfl,-,-,-⟩ := hr.2.2.form
 have hMm : M ≤ 9223372036854775807 := by unfold maxLen at htm;omega
 rw [← hM] at hT
 have hMh := hide hM
 have hkb : (g.kind == 2) = true := by simpa using hk
 have hkh := hide hk
 clear hg hl hr hal ham htl htm hs hc hR hx1 hx2 hk
 unfold gameVal lineVal resVal at cK cH
 unfold gameVal lineVal resVal
 rw [← hM] at cK cH ⊢
 clear hM
 go_enter Tryz.func20,Tryz.ntmps20
 go_upto_region 1 with (fail)
 obtain ⟨W,hW⟩ : ∃ W,W = (((w.alloc (Obj.cells #[.string g.name,.int .i64 g.kind,.int .i64 g.price,.int .i64 g.main,.int .i64 g.of,.int .i64 g.bonus,.int .i64 g.bonusOf,.int .i64 g.extra,.int .i64 g.draws,.int .i64 g.system,.int .i64 g.days,.int .i64 g.at_,.int .i64 g.close,.int .i64 g.cancel,.int .i64 g.expiry,.int .i64 g.pool,.int .i64 g.reserve,.int .i64 g.round,.int .i64 g.cap,.int .i64 g.rolls,(.slice aa ms.length ac),(.slice ta M tc)] 25)).alloc (Obj.cells #[(.slice a1 n1 k1),(.slice a2 n2 k2)] 53)).alloc (Obj.cells #[(.slice ma r.main.length mc),(.slice ba r.bonus.length bc),(.slice xa r.extra.length xc),.int .i64 r.factor,.string r.serial] 29)) := ⟨_,rfl⟩
 have bW : Below w.heap.size w W := by rw [hW];exact Bel.al (Bel.al (Bel.al (Below.refl _ _) _) _) _
 have r0 : GameAt W (w.heap.size) g ((.slice aa ms.length ac)) ((.slice ta M tc)) := by rw [hW];exact Row.alloc (Row.alloc (Row.new _ _ _) _) _
 have r1 : LineAt W (w.heap.size + 1) ((.slice a1 n1 k1)) ((.slice a2 n2 k2)) := by rw [hW];exact Row.alloc (Row.at2 _ _ _ _) _
 have r2 : Row W ((w.heap.size + 1 + 1)) 29 [(.slice ma r.main.length mc),(.slice ba r.bonus.length bc),(.slice xa r.extra.length xc),.int .i64 r.factor,.string r.serial] := by rw [hW];exact Row.at3 _ _ _ _ _
 have sW : w.heap.size + 1 + 1 < W.heap.size := by rw [hW];simp
 rw [← hW]
 clear hW
 go_wp2_with (first | (refine wpList_load_row rfl 25 _ rfl _ rfl _ _ _ _ r0 Tryz.underlying25 rfl (by kernel_rfl) ?_) | (refine wpList_load_row rfl 53 _ rfl _ rfl _ _ _ _ r1 Tryz.underlying53 rfl (by kernel_rfl) ?_) | (refine wpList_load_row rfl 29 _ rfl _ rfl _ _ _ _ r2 Tryz.underlying29 rfl (by kernel_rfl) ?_) | fail)
 refine (cK.out _ bW).mono ?_
 rintro e w1 ⟨rfl,hb⟩
 replace bW := Bel.to bW hb
 replace r0 := r0.keep hb
 replace r1 := Row.keep r1 hb
 replace r2 := Row.keep r2 hb
 clear hb
 go_wp2_with (first | (refine wpList_load_row rfl 25 _ rfl _ rfl _ _ _ _ r0 Tryz.underlying25 rfl (by kernel_rfl) ?_) | (refine wpList_load_row rfl 53 _ rfl _ rfl _ _ _ _ r1 Tryz.underlying53 rfl (by kernel_rfl) ?_) | (refine wpList_load_row rfl 29 _ rfl _ rfl _ _ _ _ r2 Tryz.underlying29 rfl (by kernel_rfl) ?_) | fail)
 refine (cH.out _ bW).mono ?_
 rintro e w2 ⟨c,rfl,hb⟩
 replace bW := Bel.to bW hb
 replace r0 := r0.keep hb
 replace r1 := Row.keep r1 hb
 replace r2 := Row.keep r2 hb
 have d1 := r0.kind
 have dt : w2.cell? ⟨w.heap.size,21,none⟩ = some (.slice ta M tc) := r0.tiers
 have x0 : w2.cell? ⟨w.heap.size + 1,0,none⟩ = some (.slice a1 n1 k1) := (Row.cell? r1 0).trans rfl
 have y0 : w2.cell? ⟨w.heap.size + 1 + 1,0,none⟩ = some (.slice ma r.main.length mc) := (Row.cell? r2 0).trans rfl
 clear hb cK cH r0 r1 r2
 go_wp2
 go_loopg [12,13,32] M (fun gh _ _ t wr => ∃ (i : Nat),gh = M - i ∧ i ≤ M ∧ t = .int .i64 (i : Int) ∧ Hid (tierGo (meetM g x r) (g.tiers.drop i) i = R) ∧ Below w2.heap.size w2 wr)
 case atStart => exact ⟨0,rfl,Nat.zero_le _,rfl,hR0,Below.refl _ _⟩
 case round =>
  obtain ⟨i,hgh,hi,rfl,hG,hB⟩ := hrel
  replace hgh := hide hgh
  have BW := Bel.to bW hB
  by_cases hlt : i < M
  ·have hlt2 := hide hlt
   have hil : i < g.tiers.length := by rw [← hMh.out];exact hlt
   obtain ⟨b,off,rfl,hbb,hcell⟩ := (hT.out wr BW).at_ hil
   have hG2 := hG.out
   rw [List.drop_eq_getElem_cons hil,tierGo] at hG2
   obtain ⟨t,ht⟩ : ∃ t,t = g.tiers[i] := ⟨_,rfl⟩
   have hti : g.tiers[i]? = some t := by rw [ht];exact List.getElem?_eq_getElem hil
   rw [← ht] at hG2
   have hrange : wr.rangeAt b (off + i * 6) (tierCells t) := fun j u hu => hcell i t hti j u hu
   clear hcell hti ht hG
   obtain ⟨tm,tb,tx,tmode,tkind,tvalue⟩ := t
   unfold tierCells at hrange
   simp only [] at hrange
   have hthere := hide (show (wr.alloc (.cells #[.int .i64 0,.int .i64 0,.int .i64 0,.int .i64 0,.int .i64 0,.int .i64 0] 72)).there wr.heap.size 0 6 from Row.there (Row.newOf (cs := [.int .i64 0,.int .i64 0,.int .i64 0,.int .i64 0,.int .i64 0,.int .i64 0]) _ rfl))
   have i1 : (0 : Int) ≤ (i : Int) := by omega
   have i2 : (i : Int) < (M : Int) := by omega
   have d1 := Bel.cellOf hB d1
   have x0 := Bel.cellOf hB x0
   have y0 := Bel.cellOf hB y0
   go_upto_region 8 with (first | (refine wpList_load_mid rfl 72 _ rfl b (off + i * 6) rfl [.int .i64 tm,.int .i64 tb,.int .i64 tx,.int .i64 tmode,.int .i64 tkind,.int .i64 tvalue] _ hrange Tryz.underlying72 rfl (by kernel_rfl) ?_) | (refine wpList_store_mid rfl 72 _ _ rfl wr.heap.size 0 _ rfl rfl hthere.out (by kernel_rfl) (by rfl) ?_) | fail)
   obtain ⟨W1,hW1⟩ : ∃ W1,W1 = wr.alloc (.cells #[.int .i64 tm,.int .i64 tb,.int .i64 tx,.int .i64 tmode,.int .i64 tkind,.int .i64 tvalue] 72) := ⟨_,rfl⟩
   have hb1 : Below wr.heap.size wr W1 := by rw [hW1];exact Bel.al (Below.refl _ _) _
   have hw1 : Row W1 wr.heap.size 72 [.int .i64 tm,.int .i64 tb,.int .i64 tx,.int .i64 tmode,.int .i64 tkind,.int .i64 tvalue] := by rw [hW1];exact Row.newOf _ rfl
   rw [← hW1]
   clear hW1 hthere hrange
   have q0 : W1.cell? ⟨wr.heap.size,0,none⟩ = some (.int .i64 tm) := (hw1.cell? 0).trans rfl
   have q1 : W1.cell? ⟨wr.heap.size,1,none⟩ = some (.int .i64 tb) := (hw1.cell? 1).trans rfl
   have q2 : W1.cell? ⟨wr.heap.size,2,none⟩ = some (.int .i64 tx) := (hw1.cell? 2).trans rfl
   have q3 : W1.cell? ⟨wr.heap.size,3,none⟩ = some (.int .i64 tmode) := (hw1.cell? 3).trans rfl
   have d1 := Bel.cellOf hb1 d1
   have x0 := Bel.cellOf hb1 x0
   have y0 := Bel.cellOf hb1 y0
   have B9 := Bel.to hB hb1
   have BE := Bel.to bW B9
   clear hw1 hb1 hB BW
   have hm9 : meetM g x r ⟨tm,tb,tx,tmode,tkind,tvalue⟩ = digM tmode tm x.1 r.main := by unfold meetM;rw [if_pos hkh.out]
   rw [hm9] at hG2
   have cD1 := hide (cD.out W1 tmode tm BE)
   obtain ⟨q,hq⟩ : ∃ q,q = digM tmode tm x.1 r.main := ⟨_,rfl⟩
   rw [← hq] at hG2 cD1
   clear hq hm9
   cases q with
   | true =>
    rw [if_pos rfl] at hG2
    subst hG2
    go_wp2_with fail
    refine cD1.out.mono ?_
    rintro e w3 ⟨rfl,hb3⟩
    go_wp2
    go_ret2
    exact ⟨rfl,Bel.to BE hb3⟩
   | false =>
    rw [if_neg (by simp)] at hG2
    replace hG2 := hide hG2
    go_wp2_with fail
    refine cD1.out.mono ?_
    rintro e w3 ⟨rfl,hb3⟩
    have B10 := Bel.to B9 hb3
    go_wp2
    go_roundg (M - (i + 1))
    case measure => have := hgh.out;have := hlt2.out;omega
    case rel => exact ⟨i + 1,rfl,by have := hlt2.out;omega,by go_num,hG2,B10⟩
  ·have hiM : i = g.tiers.length := by have := hMh.out;omega
   have hG2 := hG.out
   rw [hiM,List.drop_length,tierGo] at hG2
   subst hG2
   replace hiM := hide hiM
   have i2 : ¬ (i : Int) < (M : Int) := by omega
   go_wp2
   go_ret2
   exact ⟨rfl,BW⟩
set_option maxHeartbeats 8000000 in
set_option maxRecDepth 100000 in
theorem mtier_choose (g : GameD) (av tv lm lb mv bv xv : Value) (ms : List AddonM) (x : LineD) (r : ResD) (w : World) (hg : GameR w av tv ms g) (hl : LineR w lm lb x.1 x.2) (hr : ResR w mv bv xv r) (hs : r.serial.size ≤ 9223372036854775807) (hc : checkM g x r = 0) (hk : g.kind ≠ 2) :
  Calls Tryz.prog 20 #[gameVal g av tv,lineVal lm lb,resVal mv bv xv r] w (IntC (tierM g x r) 0 w) := by
 obtain ⟨hx1,hx2,-⟩ := check_facts hc
 have cK := hide (fun X (hX : Below w.heap.size w X) => mcheck_any g av tv lm lb mv bv xv ms x r X (hg.below hX) (hl.below hX) (hr.below hX) hs)
 rw [hc] at cK
 have cH := hide (fun X (hX : Below w.heap.size w X) => hits_choose g av tv lm lb mv bv xv ms x r X (hg.below hX) (hl.below hX) (hr.below hX) hk)
 obtain ⟨R,hR⟩ : ∃ R,R = tierM g x r := ⟨_,rfl⟩
 rw [← hR]
 have hR0 := hide (show tierGo (meetM g x r) (g.tiers.drop 0) 0 = R by rw [List.drop_zero,hR];rfl)
 obtain ⟨M,hM⟩ : ∃ M,M = g.tiers.length := ⟨_,rfl⟩
 have hT := hide (fun X (hX : Below w.heap.size w X) => (hg.below hX).2.2)
 obtain ⟨aa,ac,rfl,hal,ham⟩ := hg.1.1.shape
 obtain ⟨ta,tc,rfl,htl,htm⟩ := hg.2.2.shape
 obtain ⟨a1,n1,k1,rfl⟩ := Rd.shape hl.1
 obtain ⟨a2,n2,k2,rfl⟩ := Rd.shape hl.2
 obtain ⟨ma,mc,rfl,-,-,-⟩ := hr.1.form
 obtain ⟨ba,bc,rfl,-,-,-⟩ := hr.2.1.form
 obtain ⟨xa,xc,rfl,-,-,-⟩ := hr.2.2.form
 have hMm : M ≤ 9223372036854775807 := by unfold maxLen at htm;omega
 rw [← hM] at hT
 have hMh := hide hM
 have hkb : (g.kind == 2) = false := by simpa using hk
 have hkh := hide hk
 clear hg hl hr hal ham htl htm hs hc hR hx1 hx2 hk
 unfold gameVal lineVal resVal at cK cH
 unfold gameVal lineVal resVal
 rw [← hM] at cK cH ⊢
 clear hM
 go_enter Tryz.func20,Tryz.ntmps20
 go_upto_region 1 with (fail)
 obtain ⟨W,hW⟩ : ∃ W,W = (((w.alloc (Obj.cells #[.string g.name,.int .i64 g.kind,.int .i64 g.price,.int .i64 g.main,.int .i64 g.of,.int .i64 g.bonus,.int .i64 g.bonusOf,.int .i64 g.extra,.int .i64 g.draws,.int .i64 g.system,.int .i64 g.days,.int .i64 g.at_,.int .i64 g.close,.int .i64 g.cancel,.int .i64 g.expiry,.int .i64 g.pool,.int .i64 g.reserve,.int .i64 g.round,.int .i64 g.cap,.int .i64 g.rolls,(.slice aa ms.length ac),(.slice ta M tc)] 25)).alloc (Obj.cells #[(.slice a1 n1 k1),(.slice a2 n2 k2)] 53)).alloc (Obj.cells #[(.slice ma r.main.length mc),(.slice ba r.bonus.length bc),(.slice xa r.extra.length xc),.int .i64 r.factor,.string r.serial] 29)) := ⟨_,rfl⟩
 have bW : Below w.heap.size w W := by rw [hW];exact Bel.al (Bel.al (Bel.al (Below.refl _ _) _) _) _
 have r0 : GameAt W (w.heap.size) g ((.slice aa ms.length ac)) ((.slice ta M tc)) := by rw [hW];exact Row.alloc (Row.alloc (Row.new _ _ _) _) _
 have r1 : LineAt W (w.heap.size + 1) ((.slice a1 n1 k1)) ((.slice a2 n2 k2)) := by rw [hW];exact Row.alloc (Row.at2 _ _ _ _) _
 have r2 : Row W ((w.heap.size + 1 + 1)) 29 [(.slice ma r.main.length mc),(.slice ba r.bonus.length bc),(.slice xa r.extra.length xc),.int .i64 r.factor,.string r.serial] := by rw [hW];exact Row.at3 _ _ _ _ _
 have sW : w.heap.size + 1 + 1 < W.heap.size := by rw [hW];simp
 rw [← hW]
 clear hW
 go_wp2_with (first | (refine wpList_load_row rfl 25 _ rfl _ rfl _ _ _ _ r0 Tryz.underlying25 rfl (by kernel_rfl) ?_) | (refine wpList_load_row rfl 53 _ rfl _ rfl _ _ _ _ r1 Tryz.underlying53 rfl (by kernel_rfl) ?_) | (refine wpList_load_row rfl 29 _ rfl _ rfl _ _ _ _ r2 Tryz.underlying29 rfl (by kernel_rfl) ?_) | fail)
 refine (cK.out _ bW).mono ?_
 rintro e w1 ⟨rfl,hb⟩
 replace bW := Bel.to bW hb
 replace r0 := r0.keep hb
 replace r1 := Row.keep r1 hb
 replace r2 := Row.keep r2 hb
 clear hb
 go_wp2_with (first | (refine wpList_load_row rfl 25 _ rfl _ rfl _ _ _ _ r0 Tryz.underlying25 rfl (by kernel_rfl) ?_) | (refine wpList_load_row rfl 53 _ rfl _ rfl _ _ _ _ r1 Tryz.underlying53 rfl (by kernel_rfl) ?_) | (refine wpList_load_row rfl 29 _ rfl _ rfl _ _ _ _ r2 Tryz.underlying29 rfl (by kernel_rfl) ?_) | fail)
 refine (cH.out _ bW).mono ?_
 rintro e w2 ⟨rfl,hb⟩
 replace bW := Bel.to bW hb
 replace r0 := r0.keep hb
 replace r1 := Row.keep r1 hb
 replace r2 := Row.keep r2 hb
 have d1 := r0.kind
 have dt : w2.cell? ⟨w.heap.size,21,none⟩ = some (.slice ta M tc) := r0.tiers
 have x0 : w2.cell? ⟨w.heap.size + 1,0,none⟩ = some (.slice a1 n1 k1) := (Row.cell? r1 0).trans rfl
 have y0 : w2.cell? ⟨w.heap.size + 1 + 1,0,none⟩ = some (.slice ma r.main.length mc) := (Row.cell? r2 0).trans rfl
 obtain ⟨cm,hcm⟩ : ∃ c,c = comM x.1 r.main := ⟨_,rfl⟩
 obtain ⟨cb,hcb⟩ : ∃ c,c = comM x.2 r.bonus := ⟨_,rfl⟩
 obtain ⟨cx,hcx⟩ : ∃ c,c = comM x.1 r.extra := ⟨_,rfl⟩
 rw [← hcm,← hcb,← hcx]
 replace hcm := hide hcm
 replace hcb := hide hcb
 replace hcx := hide hcx
 clear hb cK cH r0 r1 r2
 go_wp2
 go_loopg [12,13,32] M (fun gh _ _ t wr => ∃ (i : Nat),gh = M - i ∧ i ≤ M ∧ t = .int .i64 (i : Int) ∧ Hid (tierGo (meetM g x r) (g.tiers.drop i) i = R) ∧ Below w2.heap.size w2 wr)
 case atStart => exact ⟨0,rfl,Nat.zero_le _,rfl,hR0,Below.refl _ _⟩
 case round =>
  obtain ⟨i,hgh,hi,rfl,hG,hB⟩ := hrel
  replace hgh := hide hgh
  have BW := Bel.to bW hB
  by_cases hlt : i < M
  ·have hlt2 := hide hlt
   have hil : i < g.tiers.length := by rw [← hMh.out];exact hlt
   obtain ⟨b,off,rfl,hbb,hcell⟩ := (hT.out wr BW).at_ hil
   have hG2 := hG.out
   rw [List.drop_eq_getElem_cons hil,tierGo] at hG2
   obtain ⟨t,ht⟩ : ∃ t,t = g.tiers[i] := ⟨_,rfl⟩
   have hti : g.tiers[i]? = some t := by rw [ht];exact List.getElem?_eq_getElem hil
   rw [← ht] at hG2
   have hrange : wr.rangeAt b (off + i * 6) (tierCells t) := fun j u hu => hcell i t hti j u hu
   clear hcell hti ht hG
   obtain ⟨tm,tb,tx,tmode,tkind,tvalue⟩ := t
   unfold tierCells at hrange
   simp only [] at hrange
   have hthere := hide (show (wr.alloc (.cells #[.int .i64 0,.int .i64 0,.int .i64 0,.int .i64 0,.int .i64 0,.int .i64 0] 72)).there wr.heap.size 0 6 from Row.there (Row.newOf (cs := [.int .i64 0,.int .i64 0,.int .i64 0,.int .i64 0,.int .i64 0,.int .i64 0]) _ rfl))
   have i1 : (0 : Int) ≤ (i : Int) := by omega
   have i2 : (i : Int) < (M : Int) := by omega
   have d1 := Bel.cellOf hB d1
   have x0 := Bel.cellOf hB x0
   have y0 := Bel.cellOf hB y0
   go_upto_region 8 with (first | (refine wpList_load_mid rfl 72 _ rfl b (off + i * 6) rfl [.int .i64 tm,.int .i64 tb,.int .i64 tx,.int .i64 tmode,.int .i64 tkind,.int .i64 tvalue] _ hrange Tryz.underlying72 rfl (by kernel_rfl) ?_) | (refine wpList_store_mid rfl 72 _ _ rfl wr.heap.size 0 _ rfl rfl hthere.out (by kernel_rfl) (by rfl) ?_) | fail)
   obtain ⟨W1,hW1⟩ : ∃ W1,W1 = wr.alloc (.cells #[.int .i64 tm,.int .i64 tb,.int .i64 tx,.int .i64 tmode,.int .i64 tkind,.int .i64 tvalue] 72) := ⟨_,rfl⟩
   have hb1 : Below wr.heap.size wr W1 := by rw [hW1];exact Bel.al (Below.refl _ _) _
   have hw1 : Row W1 wr.heap.size 72 [.int .i64 tm,.int .i64 tb,.int .i64 tx,.int .i64 tmode,.int .i64 tkind,.int .i64 tvalue] := by rw [hW1];exact Row.newOf _ rfl
   rw [← hW1]
   clear hW1 hthere hrange
   have q0 : W1.cell? ⟨wr.heap.size,0,none⟩ = some (.int .i64 tm) := (hw1.cell? 0).trans rfl
   have q1 : W1.cell? ⟨wr.heap.size,1,none⟩ = some (.int .i64 tb) := (hw1.cell? 1).trans rfl
   have q2 : W1.cell? ⟨wr.heap.size,2,none⟩ = some (.int .i64 tx) := (hw1.cell? 2).trans rfl
   have q3 : W1.cell? ⟨wr.heap.size,3,none⟩ = some (.int .i64 tmode) := (hw1.cell? 3).trans rfl
   have d1 := Bel.cellOf hb1 d1
   have x0 := Bel.cellOf hb1 x0
   have y0 := Bel.cellOf hb1 y0
   have B9 := Bel.to hB hb1
   have BE := Bel.to bW B9
   clear hw1 hb1 hB BW
   have hm9 : meetM g x r ⟨tm,tb,tx,tmode,tkind,tvalue⟩ = decide (tm ≤ (cm : Int) ∧ tb ≤ (cb : Int) ∧ tx ≤ (cx : Int)) := by unfold meetM;rw [if_neg hkh.out,hcm.out,hcb.out,hcx.out]
   rw [hm9] at hG2
   clear hm9
   by_cases e1 : tm ≤ (cm : Int)
   ·have f1 : decide (tm ≤ (cm : Int)) = true := decide_eq_true e1
    by_cases e2 : tb ≤ (cb : Int)
    ·have f2 : decide (tb ≤ (cb : Int)) = true := decide_eq_true e2
     by_cases e3 : tx ≤ (cx : Int)
     ·have f3 : decide (tx ≤ (cx : Int)) = true := decide_eq_true e3
      rw [if_pos (decide_eq_true ⟨e1,e2,e3⟩)] at hG2
      subst hG2
      go_wp2
      go_ret2
      exact ⟨rfl,BE⟩
     ·have f3 : decide (tx ≤ (cx : Int)) = false := decide_eq_false e3
      rw [if_neg (by simp;omega)] at hG2
      replace hG2 := hide hG2
      go_wp2
      go_roundg (M - (i + 1))
      case measure => have := hgh.out;have := hlt2.out;omega
      case rel => exact ⟨i + 1,rfl,by have := hlt2.out;omega,by go_num,hG2,B9⟩
    ·have f2 : decide (tb ≤ (cb : Int)) = false := decide_eq_false e2
     rw [if_neg (by simp;omega)] at hG2
     replace hG2 := hide hG2
     go_wp2
     go_roundg (M - (i + 1))
     case measure => have := hgh.out;have := hlt2.out;omega
     case rel => exact ⟨i + 1,rfl,by have := hlt2.out;omega,by go_num,hG2,B9⟩
   ·have f1 : decide (tm ≤ (cm : Int)) = false := decide_eq_false e1
    rw [if_neg (by simp;omega)] at hG2
    replace hG2 := hide hG2
    go_wp2
    go_roundg (M - (i + 1))
    case measure => have := hgh.out;have := hlt2.out;omega
    case rel => exact ⟨i + 1,rfl,by have := hlt2.out;omega,by go_num,hG2,B9⟩
  ·have hiM : i = g.tiers.length := by have := hMh.out;omega
   have hG2 := hG.out
   rw [hiM,List.drop_length,tierGo] at hG2
   subst hG2
   replace hiM := hide hiM
   have i2 : ¬ (i : Int) < (M : Int) := by omega
   go_wp2
   go_ret2
   exact ⟨rfl,BW⟩
theorem mtier_any (g : GameD) (av tv lm lb mv bv xv : Value) (ms : List AddonM) (x : LineD) (r : ResD) (w : World) (hg : GameR w av tv ms g) (hl : LineR w lm lb x.1 x.2) (hr : ResR w mv bv xv r) (hs : r.serial.size ≤ 9223372036854775807) :
  Calls Tryz.prog 20 #[gameVal g av tv,lineVal lm lb,resVal mv bv xv r] w (IntC (tierP g x r).1 (tierP g x r).2 w) := by
 unfold tierP
 by_cases hc : checkM g x r = 0
 ·rw [if_neg (by simpa using hc)]
  by_cases hk : g.kind = 2
  ·exact mtier_digits g av tv lm lb mv bv xv ms x r w hg hl hr hs hc hk
  ·exact mtier_choose g av tv lm lb mv bv xv ms x r w hg hl hr hs hc hk
 ·rw [if_pos hc]
  exact mtier_bad g av tv lm lb mv bv xv ms x r w hg hl hr hs hc
end Go.Proofs.YtelgllgaofjgjaaGreat
end

/- Lemmas, merged out of smaller texts (wip/tools/mergedce.py). No condition. -/
import Derived.WalkKit
import Derived.Lib.Hide
import Derived.Deep.Draws
import Derived.Laws.CopyOwn
import Derived.Maps.AppendAt
import Derived.Test.YtelgllgaofjgjaaGreatProg
import Derived.Deep.LoopGhost
import Derived.Maps.OwnOps
import Derived.Maps.Views
section
set_option linter.unusedVariables false
namespace Go.Proofs.YtelgllgaofjgjaaGreat
theorem zsA {α : Type _} (xs : List α) (i : Nat) (a : α) : xs.toArray.setIfInBounds i a = (xs.set i a).toArray := List.setIfInBounds_toArray xs i a
theorem zsB {α : Type _} (x a : α) (xs : List α) : (x :: xs).set 0 a = a :: xs := rfl
theorem zsC {α : Type _} (x a : α) (xs : List α) (i : Nat) : (x :: xs).set (i + 1) a = x :: xs.set i a := rfl
structure TierD where
 main : Int
 bonus : Int
 extra : Int
 mode : Int
 kind : Int
 value : Int
structure AddonD where
 name : ByteArray
 kind : Int
 price : Int
 factors : List Int
 digits : Int
 prizes : List Int
structure GameD where
 name : ByteArray
 kind : Int
 price : Int
 main : Int
 of : Int
 bonus : Int
 bonusOf : Int
 extra : Int
 draws : Int
 system : Int
 days : Int
 at_ : Int
 close : Int
 cancel : Int
 expiry : Int
 pool : Int
 reserve : Int
 round : Int
 cap : Int
 rolls : Int
 addons : List AddonD
 tiers : List TierD
def inB (x lo hi : Int) : Bool := decide (lo ≤ x ∧ x ≤ hi)
theorem inB_yes {x lo hi : Int} (h1 : lo ≤ x) (h2 : x ≤ hi) : inB x lo hi = true := decide_eq_true ⟨h1,h2⟩
theorem inB_lo {x lo hi : Int} (h1 : x < lo) : inB x lo hi = false := decide_eq_false (by omega)
theorem inB_hi {x lo hi : Int} (h1 : hi < x) : inB x lo hi = false := decide_eq_false (by omega)
theorem inB_iff {x lo hi : Int} : inB x lo hi = true ↔ lo ≤ x ∧ x ≤ hi := decide_eq_true_iff
def nameC (c : Nat) : Bool := decide ((97 ≤ c ∧ c ≤ 122) ∨ (48 ≤ c ∧ c ≤ 57) ∨ c = 45)
def byteN (s : ByteArray) (i : Nat) : Nat := if h : i < s.size then (s[i]'h).toNat else 0
theorem byteN_eq {s : ByteArray} {i : Nat} (h : i < s.size) : byteN s i = (s[i]'h).toNat := dif_pos h
def nameB (s : ByteArray) : Bool := decide (1 ≤ s.size ∧ s.size ≤ 24 ∧ 97 ≤ byteN s 0 ∧ byteN s 0 ≤ 122 ∧ ∀ i,i < s.size → nameC (byteN s i) = true)
theorem name_short {s : ByteArray} (h : ¬ (1 ≤ s.size ∧ s.size ≤ 24)) : nameB s = false := decide_eq_false (fun e => h ⟨e.1,e.2.1⟩)
theorem name_first {s : ByteArray} (h : ¬ (97 ≤ byteN s 0 ∧ byteN s 0 ≤ 122)) : nameB s = false := decide_eq_false (fun e => h ⟨e.2.2.1,e.2.2.2.1⟩)
theorem name_at {s : ByteArray} {i : Nat} (hi : i < s.size) (h : nameC (byteN s i) = false) : nameB s = false := decide_eq_false (fun e => by have := e.2.2.2.2 i hi;rw [h] at this;cases this)
theorem name_yes {s : ByteArray} (h1 : 1 ≤ s.size) (h2 : s.size ≤ 24) (h3 : 97 ≤ byteN s 0) (h4 : byteN s 0 ≤ 122) (h : ∀ i,i < s.size → nameC (byteN s i) = true) : nameB s = true := decide_eq_true ⟨h1,h2,h3,h4,h⟩
theorem name_size {s : ByteArray} (h : nameB s = true) : s.size ≤ 24 := (of_decide_eq_true h).2.1
def allE (l : List Int) (lo hi : Int) : Int := if l.all (fun x => inB x lo hi) then 0 else 2
def addonE (a : AddonD) : Int :=
 if nameB a.name = false then 4
 else if a.kind ≠ 1 ∧ a.kind ≠ 2 then 7
 else if inB a.price 0 1000000 = false then 2
 else if a.kind = 1 then
  (if a.digits ≠ 0 ∨ 0 < a.prizes.length then 7 else if inB a.factors.length 1 8 = false then 3 else allE a.factors 1 100)
 else
  (if 0 < a.factors.length then 7 else if inB a.digits 1 8 = false then 2 else if (a.prizes.length : Int) ≠ a.digits then 3 else allE a.prizes 0 1000000000)
def addonsGo : List AddonD → List AddonD → Int
 | _,[] => 0
 | seen,a :: r => if addonE a ≠ 0 then addonE a else if seen.any (fun s => decide (s.name = a.name) || decide (s.kind = a.kind)) then 6 else addonsGo (seen ++ [a]) r
def addonsE (l : List AddonD) : Int := if 4 < l.length then 3 else addonsGo [] l
def chooseTE (g : GameD) (t : TierD) : Int := if t.mode ≠ 0 then 7 else if inB t.main 0 g.main = false ∨ inB t.bonus 0 g.bonus = false ∨ inB t.extra 0 g.extra = false ∨ (t.main = 0 ∧ t.bonus = 0 ∧ t.extra = 0) then 2 else 0
def digitsTE (g : GameD) (t : TierD) : Int := if inB t.mode 1 4 = false then 7 else if t.bonus ≠ 0 ∨ t.extra ≠ 0 ∨ (if t.mode ≤ 2 then inB t.main 0 0 else inB t.main 1 g.main) = false then 2 else 0
def tierE (g : GameD) (t : TierD) : Int :=
 let c : Int := if g.kind = 2 then digitsTE g t else chooseTE g t
 if c ≠ 0 then c else if inB t.kind 1 3 = false then 7 else if inB t.value 0 1000000000 = false then 2 else 0
def modeV (g : GameD) (t : TierD) : Int := if 3 ≤ t.mode ∧ t.mode ≤ 4 ∧ t.main = g.main then 1 else t.mode
def coversB (g : GameD) (a b : TierD) : Bool :=
 if g.kind = 1 then decide (a.main ≤ b.main ∧ a.bonus ≤ b.bonus ∧ a.extra ≤ b.extra)
 else if modeV g b = 1 then true
 else decide (modeV g a = modeV g b ∧ a.main ≤ b.main)
def tiersGo (g : GameD) : List TierD → List TierD → Int
 | _,[] => 0
 | seen,t :: r => if tierE g t ≠ 0 then tierE g t else if seen.any (fun s => coversB g s t) then 6 else tiersGo g (seen ++ [t]) r
def tiersE (g : GameD) : Int := if inB g.tiers.length 1 12 = false then 3 else tiersGo g [] g.tiers
def matB (g : GameD) : Bool :=
 inB g.price 1 1000000 && inB g.main 1 10 && (if g.kind = 2 then inB g.of 2 10 else inB g.of g.main 80) && (if g.kind = 2 then inB g.bonus 0 0 else inB g.bonus 0 4)
 && (if g.bonus = 0 then inB g.bonusOf 0 0 else inB g.bonusOf g.bonus 80)
 && (if g.kind = 2 then inB g.extra 0 0 else (inB g.extra 0 4 && decide (g.main + g.extra ≤ g.of)))
 && inB g.draws 1 32 && (if g.kind = 2 then inB g.system g.main g.main else (inB g.system g.main 14 && decide (g.system ≤ g.of)))
def termB (g : GameD) : Bool :=
 inB g.days 1 127 && inB g.at_ 0 1439 && inB g.close 0 1440 && inB g.cancel 0 10080 && inB g.expiry 1 3660 && inB g.pool 0 10000 && inB g.reserve 0 10000
 && inB g.round 1 1000000 && inB g.cap 0 1000000000000 && inB g.rolls 0 64
def gameE (g : GameD) : Int :=
 if nameB g.name = false then 4
 else if g.kind ≠ 1 ∧ g.kind ≠ 2 then 7
 else if matB g = false then 2
 else if termB g = false then 2
 else if addonsE g.addons ≠ 0 then addonsE g.addons
 else tiersE g
end Go.Proofs.YtelgllgaofjgjaaGreat
end
section
open Go.RowKit
set_option linter.unusedVariables false
set_option linter.unusedSimpArgs false
namespace Go.Proofs.YtelgllgaofjgjaaGreat
def Rd {α : Type} (V : α → Value) (w : World) (v : Value) (l : List α) : Prop :=
 ∃ ao cap,v = .slice ao l.length cap ∧ l.length ≤ cap ∧ cap ≤ maxLen ∧
  (0 < l.length → ∃ b off,ao = some ⟨b,off,none⟩ ∧ b < w.heap.size ∧ ∀ i x,l[i]? = some x → w.cell? ⟨b,off + i,none⟩ = some (V x))
abbrev U32 (n : Nat) : Value := .int .u32 (n : Int)
abbrev I64 (n : Int) : Value := .int .i64 n
section
variable {α : Type} {V : α → Value} {w w' : World} {v : Value} {l : List α}
theorem Rd.nil : Rd V w (.slice none 0 0) [] := ⟨none,0,rfl,Nat.le_refl _,Nat.zero_le _,fun h => absurd h (by simp)⟩
theorem Rd.keep (h : Rd V w v l) (hs : w.heap.size ≤ w'.heap.size) (hk : ∀ p : Addr,p.block < w.heap.size → v.ownBlock = some p.block → w'.cell? p = w.cell? p) : Rd V w' v l := by
 obtain ⟨ao,cap,rfl,h1,h2,h3⟩ := h
 refine ⟨ao,cap,rfl,h1,h2,fun hl => ?_⟩
 obtain ⟨b,off,rfl,hb,hc⟩ := h3 hl
 exact ⟨b,off,rfl,by omega,fun i x hx => (hk ⟨b,off + i,none⟩ hb rfl).trans (hc i x hx)⟩
theorem Rd.below (h : Rd V w v l) (hb : Below w.heap.size w w') : Rd V w' v l :=
 h.keep hb.size fun _ hp _ => hb.cell hp
theorem Rd.grown {row : Option Nat} (h : Rd V w v l) (hg : w.grownBy w' row) (hne : v.ownBlock ≠ row ∨ v.ownBlock = none) : Rd V w' v l :=
 h.keep hg.size fun p hp ho => World.cell?_of_block (hg.block p.block hp (by rw [← ho];rcases hne with h | h;exact h;rw [h] at ho;cases ho))
theorem Rd.alloc (h : Rd V w v l) (o : Obj) : Rd V (w.alloc o) v l := h.below ((Below.refl _ _).alloc (Nat.le_refl _) o)
theorem Rd.drew (h : Rd V w v l) : Rd V w.drew v l := h
theorem Rd.drewN (h : Rd V w v l) (k : Nat) : Rd V (w.drewN k) v l := h
theorem Rd.setCell (h : Rd V w v l) {p : Addr} (hp : v.ownBlock ≠ some p.block) (u : Value) : Rd V (w.setCell p u) v l :=
 h.keep (by simp [World.setCell]) fun q _ hq => World.cell?_setCell_other w p q u (fun e => by subst e;exact hp hq)
theorem Rd.own {base e : Nat} {n : Nat} (h : w.ownsRow base e 1 v n (l.map V)) : Rd V w v l := by
 have hn : n = l.length := by have := h.1;simp at this;omega
 subst hn
 rcases h.2 with ⟨rfl,h0⟩ | ⟨g,cap,cur,rfl,hb,hh,hc,hm,hs,ht⟩
 ·have : l = [] := List.eq_nil_of_length_eq_zero h0
  subst this;exact Rd.nil
 ·refine ⟨_,cap,rfl,hc,hm,fun hl => ⟨g,0,rfl,?_,fun i x hx => ?_⟩⟩
  ·exact (h.lt g rfl).2
  ·have hi : i < l.length := (List.getElem?_eq_some_iff.1 hx).1
   rw [Nat.zero_add,h.cellAt i (by omega)]
   simp [hx]
theorem Rd.take (h : Rd V w v l) {ao : Option Addr} {cap n c : Nat} (hv : v = .slice ao l.length cap) (hn : n ≤ l.length) (hnc : n ≤ c) (hc : c ≤ maxLen) : Rd V w (.slice ao n c) (l.take n) := by
 obtain ⟨ao',cap',hv',h1,h2,h3⟩ := h
 rw [hv] at hv'
 injection hv' with e1 e2 e3
 subst e1 e3
 have hl : (l.take n).length = n := by rw [List.length_take];omega
 refine ⟨ao,c,by rw [hl],by omega,hc,fun hp => ?_⟩
 obtain ⟨b,off,e,hb,hcell⟩ := h3 (by omega)
 exact ⟨b,off,e,hb,fun i x hx => hcell i x (by
  rw [List.getElem?_take] at hx
  split at hx
  ·exact hx
  ·cases hx)⟩
theorem Rd.len (h : Rd V w v l) : l.length ≤ maxLen := by
 obtain ⟨_,_,_,h1,h2,_⟩ := h;omega
theorem Rd.at_ {ao : Option Addr} {n cap k : Nat} (h : Rd V w (.slice ao n cap) l) (hk : k < l.length) :
  ∃ b off,ao = some ⟨b,off,none⟩ ∧ b < w.heap.size ∧ ∀ i (hi : i < l.length),w.cell? ⟨b,off + i,none⟩ = some (V l[i]) := by
 obtain ⟨ao',cap',hv,h1,h2,h3⟩ := h
 injection hv with e1 e2 e3
 subst e1
 obtain ⟨b,off,e,hb,hc⟩ := h3 (by omega)
 exact ⟨b,off,e,hb,fun i hi => hc i _ (List.getElem?_eq_getElem hi)⟩
theorem Rd.form (h : Rd V w v l) : ∃ ao cap,v = .slice ao l.length cap ∧ l.length ≤ cap ∧ cap ≤ maxLen ∧ Rd V w (.slice ao l.length cap) l := by
 obtain ⟨ao,cap,rfl,h1,h2,h3⟩ := h
 exact ⟨ao,cap,rfl,h1,h2,⟨ao,cap,rfl,h1,h2,h3⟩⟩
end
theorem bcell {W w1 : World} (hb : Below W.heap.size W w1) : (∀ b o,b < W.heap.size → w1.cell? ⟨b,o,none⟩ = W.cell? ⟨b,o,none⟩) ∧ (∀ b o,b < W.heap.size → w1.frozen? ⟨b,o,none⟩ = W.frozen? ⟨b,o,none⟩) :=
 ⟨fun b o h => hb.cell (p := ⟨b,o,none⟩) h,fun b o h => hb.frozen (p := ⟨b,o,none⟩) h⟩
theorem hide {p : Prop} (h : p) : Hid p := h
theorem ret_int {k : IntKind} {a b : Int} (h : a = b) : Ending.returned (.int k a) = .returned (.int k b) := by rw [h]
section
variable {α : Type} {V : α → Value} {w W W1 : World} {v : Value} {l : List α}
theorem Rd.setNe (h : Rd V w v l) {p : Addr} {c : Value} (hp : w.cell? p = some c) (hc : ∀ x,V x ≠ c) (u : Value) : Rd V (w.setCell p u) v l := by
 obtain ⟨ao,cap,rfl,h1,h2,h3⟩ := h
 refine ⟨ao,cap,rfl,h1,h2,fun hl => ?_⟩
 obtain ⟨b,off,rfl,hb,hcell⟩ := h3 hl
 refine ⟨b,off,rfl,by simpa [World.setCell] using hb,fun i x hx => ?_⟩
 have := hcell i x hx
 rw [World.cell?_setCell_other w p _ u (fun e => by rw [← e] at this;rw [this] at hp;injection hp with hp;exact hc x hp)]
 exact this
theorem Rd.new {w : World} {t : TypeId} {cs : Array Value} {g n c : Nat} (l : List α) (hg : g = w.heap.size) (hn : n = l.length) (hnc : n ≤ c) (hm : c ≤ 9223372036854775807) (hcs : cs.toList = l.map V) : Rd V (w.alloc (.cells cs t)) (.slice (some ⟨g,0,none⟩) n c) l := by
 subst hg hn
 refine ⟨_,c,rfl,hnc,by unfold maxLen;omega,fun _ => ⟨w.heap.size,0,rfl,by simp,fun i x hx => ?_⟩⟩
 rw [Nat.zero_add,cell_of_row (w.alloc (.cells cs t)) w.heap.size i cs t (0,0) (heap_alloc_new w _)]
 rw [← Array.getElem?_toList,hcs,List.getElem?_map,hx];rfl
theorem Bel.al (h : Below w.heap.size w W) (o : Obj) : Below w.heap.size w (W.alloc o) := h.alloc h.size o
theorem Bel.to (h : Below w.heap.size w W) (hb : Below W.heap.size W W1) : Below w.heap.size w W1 := h.trans (hb.mono h.size)
theorem Bel.drN (h : Below w.heap.size w W) (n : Nat) : Below w.heap.size w (W.drewN n) := ⟨h.os,h.tape,h.output,h.size,h.block⟩
theorem Bel.st (h : Below w.heap.size w W) {p : Addr} (hp : w.heap.size ≤ p.block) (u : Value) : Below w.heap.size w (W.setCell p u) := h.setCell hp u
theorem Bel.one (o : Obj) (hb : Below (w.alloc o).heap.size (w.alloc o) W1) : Below w.heap.size w W1 := Bel.to (Bel.al (Below.refl _ _) o) hb
theorem Bel.two (o o' : Obj) (hb : Below ((w.alloc o).alloc o').heap.size ((w.alloc o).alloc o') W1) : Below w.heap.size w W1 := Bel.to (Bel.al (Bel.al (Below.refl _ _) o) o') hb
theorem Bel.three (o o' o'' : Obj) (hb : Below (((w.alloc o).alloc o').alloc o'').heap.size (((w.alloc o).alloc o').alloc o'') W1) : Below w.heap.size w W1 := Bel.to (Bel.al (Bel.al (Bel.al (Below.refl _ _) o) o') o'') hb
end
def Row (w : World) (g : Nat) (t : TypeId) (cs : List Value) : Prop := w.heap[g]? = some (.cells cs.toArray t (0,0))
def Pure (v : Value) (w : World) (e : Ending) (w' : World) : Prop := e = .returned v ∧ w = w'
def IntP (x c : Int) (w : World) (e : Ending) (w' : World) : Prop := e = .returned (.tuple #[.int .i64 x,.int .i64 c]) ∧ w = w'
def BoolB (b : Bool) (w : World) (e : Ending) (w' : World) : Prop := e = .returned (.bool b) ∧ Below w.heap.size w w'
def IntB (x : Int) (w : World) (e : Ending) (w' : World) : Prop := e = .returned (.int .i64 x) ∧ Below w.heap.size w w'
section
variable {α : Type} {V : α → Value} {w w' a : World} {g : Nat} {t : TypeId} {cs : List Value}
theorem Rd.shape {v : Value} {l : List α} (h : Rd V w v l) : ∃ ao n cap,v = .slice ao n cap := by
 obtain ⟨ao,cap,rfl,_⟩ := h
 exact ⟨_,_,_,rfl⟩
theorem Row.lt (h : Row w g t cs) : g < w.heap.size := by
 rcases Nat.lt_or_ge g w.heap.size with hlt | hge
 ·exact hlt
 ·unfold Row at h;rw [Array.getElem?_eq_none hge] at h;cases h
theorem Row.cell? (h : Row w g t cs) (i : Nat) : w.cell? ⟨g,i,none⟩ = cs[i]? := by
 have := cell_of_row w g i cs.toArray t (0,0) h
 rw [this];simp
theorem Row.cell (h : Row w g t cs) {i : Nat} (hi : i < cs.length) : w.cell? ⟨g,i,none⟩ = some cs[i] := by
 rw [h.cell? i];exact List.getElem?_eq_getElem hi
theorem Row.cellV {l : List α} (h : Row w g t (l.map V)) {i : Nat} (hi : i < l.length) : w.cell? ⟨g,i,none⟩ = some (V l[i]) := by
 rw [h.cell? i,List.getElem?_map,List.getElem?_eq_getElem hi];rfl
theorem Row.frozen (h : Row w g t cs) (i : Nat) : w.frozen? ⟨g,i,none⟩ = false := by
 unfold Row at h
 simp [World.frozen?,h]
theorem Row.new (w : World) (t : TypeId) (cs : List Value) : Row (w.alloc (.cells cs.toArray t)) w.heap.size t cs := heap_alloc_new w _
theorem Row.newOf {c : Array Value} (t : TypeId) (h : c.toList = cs) : Row (w.alloc (.cells c t)) w.heap.size t cs := by
 subst h;exact heap_alloc_new w _
theorem Row.drew (h : Row w g t cs) : Row w.drew g t cs := h
theorem Row.drewN (h : Row w g t cs) (n : Nat) : Row (w.drewN n) g t cs := h
theorem Row.alloc (h : Row w g t cs) (o : Obj) : Row (w.alloc o) g t cs := (Below.heap_alloc w o g h.lt).trans h
theorem Row.set (h : Row w g t cs) (i : Nat) (u : Value) : Row (w.setCell ⟨g,i,none⟩ u) g t (cs.set i u) := by
 unfold Row at h ⊢
 simp [World.setCell,Array.getElem?_modify,h]
theorem Row.setV {l : List α} (h : Row w g t (l.map V)) (i : Nat) (x : α) : Row (w.setCell ⟨g,i,none⟩ (V x)) g t ((l.set i x).map V) := by
 rw [List.map_set];exact h.set i _
theorem Row.far (h : Row w g t cs) {p : Addr} (hp : g ≠ p.block) (u : Value) : Row (w.setCell p u) g t cs := (Below.heap_setCell w p u g hp).trans h
theorem Row.below {B : Nat} (h : Row w g t cs) (hb : Below B w w') (hg : g < B) : Row w' g t cs := (hb.block g hg).trans h
theorem Row.keep (h : Row w g t cs) (hb : Below w.heap.size w w') : Row w' g t cs := (hb.block g h.lt).trans h
theorem Row.grown {row : Option Nat} (h : Row w g t cs) (hb : w.grownBy w' row) (hg : some g ≠ row) : Row w' g t cs := (hb.block g h.lt hg).trans h
theorem Row.rd {l : List α} (h : Row w g t (l.map V)) {n c : Nat} (hn : n ≤ l.length) (hnc : n ≤ c) (hm : c ≤ 9223372036854775807) : Rd V w (.slice (some ⟨g,0,none⟩) n c) (l.take n) := by
 have hl : (l.take n).length = n := by rw [List.length_take];omega
 refine ⟨_,c,by rw [hl],by omega,by unfold maxLen;omega,fun _ => ⟨g,0,rfl,h.lt,fun i x hx => ?_⟩⟩
 rw [Nat.zero_add,h.cell? i,List.getElem?_map]
 rw [List.getElem?_take] at hx
 split at hx
 ·rw [hx];rfl
 ·cases hx
theorem Row.rdAll {l : List α} (h : Row w g t (l.map V)) {n c : Nat} (hn : n = l.length) (hnc : n ≤ c) (hm : c ≤ 9223372036854775807) : Rd V w (.slice (some ⟨g,0,none⟩) n c) l := by
 have := h.rd (n := n) (by omega) hnc hm
 rwa [hn,List.take_length] at *
theorem Bel.cellOf (hb : Below w.heap.size w w') {p : Addr} {v : Value} (h : w.cell? p = some v) : w'.cell? p = some v := (hb.cell (World.block_lt_of_cell? w p h)).trans h
theorem Bel.frozenOf (hb : Below w.heap.size w w') {p : Addr} {v : Value} (h : w.cell? p = some v) (hf : w.frozen? p = false) : w'.frozen? p = false := (hb.frozen (World.block_lt_of_cell? w p h)).trans hf
theorem cell_alloc {p : Addr} {v : Value} (h : w.cell? p = some v) (o : Obj) : (w.alloc o).cell? p = some v := Bel.cellOf (Bel.al (Below.refl _ _) o) h
theorem cell_far {p q : Addr} {v : Value} (h : w.cell? q = some v) (hne : q.block ≠ p.block) (u : Value) : (w.setCell p u).cell? q = some v := by
 rw [World.cell?_setCell_other w p q u (fun e => hne (by rw [e]))];exact h
theorem new_cell (w : World) (v : Value) (t : TypeId) : (w.alloc (.cells #[v] t)).cell? ⟨w.heap.size,0,none⟩ = some v := (Row.newOf (cs := [v]) t rfl).cell (by simp)
theorem new_frozen (w : World) (v : Value) (t : TypeId) : (w.alloc (.cells #[v] t)).frozen? ⟨w.heap.size,0,none⟩ = false := (Row.newOf (cs := [v]) t rfl).frozen 0
theorem set_cell {b o : Nat} {v : Value} (h : w.cell? ⟨b,o,none⟩ = some v) (u : Value) : (w.setCell ⟨b,o,none⟩ u).cell? ⟨b,o,none⟩ = some u := by
 go_simp
theorem Gb.refl (w : World) (row : Option Nat) : w.grownBy w row := ⟨rfl,rfl,rfl,Nat.le_refl _,fun _ _ _ => rfl⟩
theorem Gb.drewN {row : Option Nat} (h : a.grownBy w row) (n : Nat) : a.grownBy (w.drewN n) row := ⟨h.os,h.tape,h.output,h.size,h.block⟩
theorem Gb.alloc {row : Option Nat} (h : a.grownBy w row) (o : Obj) : a.grownBy (w.alloc o) row :=
 ⟨h.os,h.tape,h.output,Nat.le_trans h.size (by simp),fun i hi hne => (Below.heap_alloc w o i (Nat.lt_of_lt_of_le hi h.size)).trans (h.block i hi hne)⟩
theorem Gb.set (h : a.grownBy w (some g)) {p : Addr} (hp : p.block = g ∨ a.heap.size ≤ p.block) (u : Value) : a.grownBy (w.setCell p u) (some g) :=
 ⟨h.os,h.tape,h.output,by simpa [World.setCell] using h.size,fun i hi hne => (Below.heap_setCell w p u i (by
  rintro rfl
  rcases hp with hp | hp
  ·exact hne (by rw [hp])
  ·omega)).trans (h.block i hi hne)⟩
theorem Gb.cellOf (h : a.grownBy w (some g)) {b o : Nat} {v : Value} (hv : a.cell? ⟨b,o,none⟩ = some v) (hne : b ≠ g) : w.cell? ⟨b,o,none⟩ = some v :=
 h.cell hv (fun e => hne (by injection e))
theorem Gb.frozenOf (h : a.grownBy w (some g)) {b o : Nat} (hb : b < a.heap.size) (hne : b ≠ g) : w.frozen? ⟨b,o,none⟩ = a.frozen? ⟨b,o,none⟩ :=
 World.frozen?_of_block (h.block b hb (fun e => hne (by injection e)))
theorem Gb.bel {W : World} (hb : Below W.heap.size W a) (h : a.grownBy w (some g)) (hg : W.heap.size ≤ g) : Below W.heap.size W w :=
 hb.grown h hb.size (fun k hk => by injection hk with hk;omega)
end
theorem splice_all {α : Type} (L cs : List α) (h : L.length = cs.length) : splice L 0 cs = cs := by
 unfold splice
 rw [List.take_zero,List.nil_append,List.drop_of_length_le (by omega),List.append_nil]
theorem wpList_copy_all {P : Program} {w : World} {α : Type} {V : α → Value} {ops : Array Oper} {rest : List Oper} {o : Oper} {a : Act} {Q : Exit → Act → World → Prop} (hgd : o.guard = none) (d s : Operand) (dT sT : TypeId)
  (ho : o.op = .call { callee := .builtin .copy,args := #[d,s],argTypes := #[dT,sT] }) (elem : TypeId) (hu : P.underlying dT = some (.slice elem)) (hsz : (P.info? elem).map (·.size) = some 1) (hone : ∀ x,(V x).oneCell' = true)
  (g n c : Nat) (hd : a.eval d = .slice (some ⟨g,0,none⟩) n c) (v : Value) (hs : a.eval s = v) (l : List α) (hr : Rd V w v l) (hln : l.length = n)
  (cur : List Value) (t : TypeId) (hg : Row w g t cur) (hcur : cur.length = n) (w0 : World) (hb : Below w0.heap.size w0 w) (hBg : w0.heap.size ≤ g)
  (h : ∀ w',Row w' g t (l.map V) → Below w0.heap.size w0 w' → wpList P ops Q rest (a.put o.dst (goInt n)) w') : wpList P ops Q (o :: rest) a w := by
 obtain ⟨ao,cap,rfl,h1,h2,h3⟩ := hr
 refine wpList_copy_splice hgd d s dT sT ho elem hu hsz _ ao n c l.length cap hd hs g 0 cur t hg (l.map V) ?_ ?_ ?_ ?_ w0.heap.size w0 hb hBg ?_
 ·rw [List.length_map,hln];exact (Nat.min_self n).symm
 ·intro hp
  rw [List.length_map] at hp
  obtain ⟨b,off,rfl,hbk,hc⟩ := h3 hp
  refine ⟨rfl,_,rfl,fun j x hx => ?_⟩
  rw [List.getElem?_map] at hx
  cases hj : l[j]? with
  | none => rw [hj] at hx;cases hx
  | some y =>
   rw [hj] at hx
   simp only [Option.map_some,Option.some.injEq] at hx
   subst hx
   have := hc j y hj
   unfold Addr.add
   split
   ·next h0 => subst h0;exact this
   ·exact this
 ·rw [List.length_map];omega
 ·intro x hx;obtain ⟨y,_,rfl⟩ := List.mem_map.1 hx;exact hone y
 ·intro w' hrow hb'
  have hrow' := hrow.out
  rw [splice_all _ _ (by rw [List.length_map];omega)] at hrow'
  have := h w' hrow' hb'
  rw [List.length_map,hln]
  exact this
theorem wpList_make_row {P : Program} (w : World) {ops : Array Oper} {rest : List Oper} {o : Oper} {a : Act} {Q : Exit → Act → World → Prop}
  (hg : o.guard = none) (l c : Operand) (t : TypeId) (hop : o.op = Op.makeSlice t l c)
  (e : TypeId) (z : Value) (bytes : Nat) (h1 : P.underlying t = some (.slice e)) (h2 : (P.info? e).map (fun i => (i.zero,i.size,i.bytes)) = some (some z,1,bytes)) (hzc : z.cells = #[z])
  (kl kc : IntKind) (L C : Int) (n m : Nat) (hl : a.eval l = .int kl L) (hc : a.eval c = .int kc C) (hL : L = (n : Int)) (hC : C = (m : Int)) (hnm : n ≤ m) (b2 : bytes * m ≤ 281474976710656) (b3 : m ≤ 9223372036854775807)
  (hK : ∀ w',Row w' w.heap.size e (List.replicate m z) → Below w.heap.size w w' → w'.heap.size = w.heap.size + 1 → wpList P ops Q rest (a.put o.dst (.slice (some ⟨w.heap.size,0,none⟩) n m)) w') :
  wpList P ops Q (o :: rest) a w := by
 obtain ⟨i,hi,hz,hs,hb⟩ := info_parts h2
 refine wpList_plain hg fun K hK' => ?_
 subst hL hC
 have hrun := run_make (P := P) w t e i z h1 hi hz kl kc n m (by omega) (by omega) (by rw [hb];omega) (by omega)
 simp only [Int.toNat_natCast,hs,Nat.mul_one,hzc] at hrun
 unfold Oper.wp
 simp [execOp,hop,hl,hc,hrun,Result.andThen]
 refine hK' _ _ (hK _ (Row.newOf e (toList_madeCells_one z m)) (Bel.al (Below.refl _ _) _) (by simp))
def Own {α : Type} (V : α → Value) (w : World) (base e : Nat) (v : Value) (l : List α) : Prop := w.ownsRow base e 1 v l.length (l.map V)
section
variable {α : Type} {V : α → Value} {w w' : World} {base e : Nat} {v : Value} {l : List α}
theorem Own.nil (w : World) (base e : Nat) : Own V w base e (.slice none 0 0) [] := World.ownsRow_nil w base e 1
theorem Own.rd (h : Own V w base e v l) : Rd V w v l := Rd.own h
theorem Own.alloc (h : Own V w base e v l) (o : Obj) : Own V (w.alloc o) base e v l := World.ownsRow.alloc h o
theorem Own.drewN (h : Own V w base e v l) (n : Nat) : Own V (w.drewN n) base e v l := h
theorem Own.grown {row : Option Nat} (h : Own V w base e v l) (hg : w.grownBy w' row) (hne : v.ownBlock = none ∨ v.ownBlock ≠ row) : Own V w' base e v l := World.ownsRow.kept h hg hne
theorem Own.keep (h : Own V w base e v l) (hb : Below w.heap.size w w') : Own V w' base e v l :=
 World.ownsRow.kept (row := none) h ⟨hb.os,hb.tape,hb.output,hb.size,fun k hk _ => hb.block k hk⟩ (by
  cases hv : v.ownBlock with
  | none => exact .inl rfl
  | some k => exact .inr (by simp))
theorem Own.lt (h : Own V w base e v l) : ∀ k,v.ownBlock = some k → base ≤ k ∧ k < w.heap.size := World.ownsRow.lt h
theorem Own.form (h : Own V w base e v l) (hl : 0 < l.length) : ∃ g cap,v = .slice (some ⟨g,0,none⟩) l.length cap ∧ base ≤ g ∧ g < w.heap.size := by
 have hlt := h.lt
 rcases h.2 with ⟨rfl,h0⟩ | ⟨g,cap,cur,rfl,hb,_⟩
 ·omega
 ·exact ⟨g,cap,rfl,hb,(hlt g rfl).2⟩
theorem Own.ofRow {g m : Nat} {z : Value} (h : Row w g e (List.replicate m z)) (hb : base ≤ g) (hm : m ≤ 9223372036854775807) : Own V w base e (.slice (some ⟨g,0,none⟩) 0 m) ([] : List α) :=
 ⟨by simp,.inr ⟨g,m,_,rfl,hb,h,Nat.zero_le _,by unfold maxLen;omega,by simp,by simp⟩⟩
theorem Own.shape (h : Own V w base e v l) : ∃ ao cap,v = .slice ao l.length cap := by
 obtain ⟨ao,cap,rfl,_⟩ := h.rd
 exact ⟨_,_,rfl⟩
theorem Own.far (h : Own V w base e v l) {p : Addr} (hp : v.ownBlock ≠ some p.block) (u : Value) : Own V (w.setCell p u) base e v l := by
 obtain ⟨h1,h2⟩ := h
 refine ⟨h1,?_⟩
 rcases h2 with h2 | ⟨g,cap,cur,hv,hg,hh,r⟩
 ·exact Or.inl h2
 ·subst hv
  exact Or.inr ⟨g,cap,cur,rfl,hg,by rw [Below.heap_setCell _ _ _ _ (by intro h;exact hp (by rw [← h];rfl))];exact hh,r⟩
end
def Fr {α : Type} (base : Nat) (v : Value) (l : List α) : Prop := l = [] ∨ ∃ k,v.ownBlock = some k ∧ base ≤ k
theorem Fr.nil {α : Type} {base : Nat} {v : Value} : Fr base v ([] : List α) := .inl rfl
theorem Fr.mono {α : Type} {base base' : Nat} {v : Value} {l : List α} (h : Fr base v l) (hb : base' ≤ base) : Fr base' v l := by
 rcases h with h | ⟨k,h,h2⟩
 ·exact .inl h
 ·exact .inr ⟨k,h,Nat.le_trans hb h2⟩
theorem Own.fr {α : Type} {V : α → Value} {w : World} {base e : Nat} {v : Value} {l : List α} (h : Own V w base e v l) : Fr base v l := by
 rcases Nat.eq_zero_or_pos l.length with h0 | h0
 ·exact .inl (List.eq_nil_of_length_eq_zero h0)
 ·obtain ⟨g,cap,rfl,hb,_⟩ := h.form h0
  exact .inr ⟨g,rfl,hb⟩
section
variable {P : Program} (w : World) {α : Type} {V : α → Value}
theorem run_append_rd (hone : ∀ x,(V x).oneCell' = true) (base : Nat) (t ty e : TypeId) (z : Value) (bytes : Nat) (ht : P.underlying t = some (.slice e)) (hi : (P.info? e).map (fun i => (i.zero,i.size,i.bytes)) = some (some z,1,bytes)) (hzs : z.cells.size = 1)
  (v : Value) (l : List α) (hown : Own V w base e v l) (u : Value) (l2 : List α) (hr : Rd V w u l2)
  (h63 : l.length + l2.length ≤ 9223372036854775807) (hbytes : (l.length + l2.length) * bytes ≤ 140737488355328) (hbase : base ≤ w.heap.size) :
  ∃ v' w',(Builtin.append_ #[t,t] ty #[v,u]).run P w = .ok v' w' ∧ Own V w' base e v' (l ++ l2) ∧ w.grownBy w' v.ownBlock ∧
   (v'.ownBlock = v.ownBlock ∨ v'.ownBlock = some w.heap.size) := by
 obtain ⟨i,hi,hz,hs,hb⟩ := info_parts hi
 obtain ⟨ao,cap,rfl,h1,h2,h3⟩ := hr
 by_cases hl : l2.length = 0
 ·have : l2 = [] := List.eq_nil_of_length_eq_zero hl
  subst this
  rw [List.append_nil,List.length_nil]
  cases ao with
  | none =>
   refine ⟨v,w,?_,hown,Gb.refl _ _,.inl rfl⟩
   have hown' := hown
   rcases hown.2 with ⟨rfl,h0⟩ | ⟨g,cap,cur,rfl,_,_,hnc,_⟩
   ·simp [Builtin.append_,run_underlying ht,sizeOf,typeInfo,hi,Builtin.lenOf,Builtin.firstCells]
   ·simp [Builtin.append_,run_underlying ht,sizeOf,typeInfo,hi,Builtin.lenOf,Builtin.firstCells,hnc,storeCells]
  | some ad =>
   obtain ⟨v',w',e1,e2,e3,_,e5⟩ := run_append_own_at (P := P) w base t ty e i z 1 bytes ht hi hz hs hb hzs (by omega) v l.length (l.map V) hown ad 0 cap [] (by simp) (by simp) (by simp) (by have := hown.1;unfold maxLen;omega) (by simpa using hbytes) hbase
   exact ⟨v',w',e1,by simpa [Own] using e2,e3,e5⟩
 ·obtain ⟨b,off,rfl,hbk,hc⟩ := h3 (by omega)
  obtain ⟨v',w',e1,e2,e3,_,e5⟩ := run_append_own_at (P := P) w base t ty e i z 1 bytes ht hi hz hs hb hzs (by omega) v l.length (l.map V) hown ⟨b,off,none⟩ l2.length cap (l2.map V) (by simp)
   (by
    intro j x hx
    rw [List.getElem?_map] at hx
    cases hj : l2[j]? with
    | none => rw [hj] at hx;cases hx
    | some y =>
     rw [hj] at hx
     simp only [Option.map_some,Option.some.injEq] at hx
     subst hx
     have := hc j y hj
     unfold Addr.add
     split
     ·next h0 => subst h0;exact this
     ·exact this)
   (by intro x hx;obtain ⟨y,_,rfl⟩ := List.mem_map.1 hx;exact hone y) (by unfold maxLen;omega) hbytes hbase
  exact ⟨v',w',e1,by simpa [Own] using e2,e3,e5⟩
theorem wpList_append_rd {ops : Array Oper} {rest : List Oper} {o : Oper} {a : Act} {Q : Exit → Act → World → Prop} (hgd : o.guard = none) (s x : Operand) (t : TypeId)
  (ho : o.op = .call { callee := .builtin .append,args := #[s,x],argTypes := #[t,t] })
  (hone : ∀ x,(V x).oneCell' = true) (base : Nat) (e : TypeId) (z : Value) (bytes : Nat) (ht : P.underlying t = some (.slice e)) (hi : (P.info? e).map (fun i => (i.zero,i.size,i.bytes)) = some (some z,1,bytes)) (hzs : z.cells.size = 1)
  (v : Value) (l : List α) (hs : a.eval s = v) (hown : Own V w base e v l) (u : Value) (l2 : List α) (hx : a.eval x = u) (hr : Rd V w u l2)
  (h63 : l.length + l2.length ≤ 9223372036854775807) (hbytes : (l.length + l2.length) * bytes ≤ 140737488355328) (hbase : base ≤ w.heap.size)
  (h : ∀ v' w',Own V w' base e v' (l ++ l2) → w.grownBy w' v.ownBlock → (v'.ownBlock = v.ownBlock ∨ v'.ownBlock = some w.heap.size) → wpList P ops Q rest (a.put o.dst v') w') : wpList P ops Q (o :: rest) a w := by
 refine wpList_plain hgd fun K hK => ?_
 obtain ⟨v',w',hr,h2,h3,h4⟩ := run_append_rd (P := P) w hone base t o.type e z bytes ht hi hzs v l hown u l2 hr h63 hbytes hbase
 unfold Oper.wp execOp
 simp only [ho,resolve,invoke,builtin,Sem.run_bind,Sem.run_pure,Result.andThen_ok,List.map_toArray,List.map_cons,List.map_nil,hs,hx,hr]
 exact hK _ _ (h v' w' h2 h3 h4)
end
theorem within_any (x lo hi : Int) (w : World) : Calls Tryz.prog 98 #[.int .i64 x,.int .i64 lo,.int .i64 hi] w (Pure (.bool (inB x lo hi)) w) := by
 by_cases h1 : lo ≤ x
 ·by_cases h2 : x ≤ hi
  ·rw [inB_yes h1 h2]
   go_enter Tryz.func98,Tryz.ntmps98
   go_wp2
   go_ret
   exact ⟨rfl,rfl⟩
  ·rw [inB_hi (show hi < x by omega)]
   go_enter Tryz.func98,Tryz.ntmps98
   go_wp2
   go_ret
   exact ⟨rfl,rfl⟩
 ·rw [inB_lo (show x < lo by omega)]
  go_enter Tryz.func98,Tryz.ntmps98
  go_wp2
  go_ret
  exact ⟨rfl,rfl⟩
set_option maxHeartbeats 1000000 in
theorem name_any (s : ByteArray) (w : World) : Calls Tryz.prog 68 #[.string s] w (Pure (.bool (nameB s)) w) := by
 by_cases h1 : 1 ≤ s.size ∧ s.size ≤ 24
 ·obtain ⟨h1,h2⟩ := h1
  have hp : 0 < s.size := by omega
  obtain ⟨c,hc⟩ : ∃ c,c = (s[0]'hp).toNat := ⟨_,rfl⟩
  have hcb := byteN_eq hp
  rw [← hc] at hcb
  by_cases h3 : 97 ≤ c ∧ c ≤ 122
  ·have h3a : 97 ≤ byteN s 0 := by rw [hcb];exact h3.1
   have h3b : byteN s 0 ≤ 122 := by rw [hcb];exact h3.2
   replace h3a := hide h3a
   replace h3b := hide h3b
   clear hcb
   subst hc
   obtain ⟨h3,h4⟩ := h3
   go_enter Tryz.func68,Tryz.ntmps68
   go_wp2
   go_loopg [25] s.size (fun g t wr => ∃ (i : Nat),g = s.size - i ∧ i ≤ s.size ∧ t = .int .i64 i ∧ w = wr ∧ ∀ j,j < i → nameC (byteN s j) = true)
   case atStart => exact ⟨0,rfl,Nat.zero_le _,rfl,rfl,fun j hj => absurd hj (Nat.not_lt_zero _)⟩
   case round =>
    obtain ⟨i,hg,hi,rfl,rfl,hall⟩ := hrel
    replace hg := hide hg
    replace hall := hide hall
    by_cases hlt : i < s.size
    ·have hb := byteN_eq hlt
     obtain ⟨d,hd⟩ : ∃ d,d = (s[i]'hlt).toNat := ⟨_,rfl⟩
     rw [← hd] at hb
     replace hb := hide hb
     by_cases hc : nameC d = true
     ·have hcc := hide hc
      unfold nameC at hc
      rw [decide_eq_true_iff] at hc
      have hnext : ∀ j,j < i + 1 → nameC (byteN s j) = true := by
       intro j hj
       rcases Nat.lt_succ_iff_lt_or_eq.1 hj with h | rfl
       ·exact hall.out j h
       ·rw [hb.out];exact hcc.out
      replace hnext := hide hnext
      rcases (show ((97 : Int) ≤ d ∧ (d : Int) ≤ 122) ∨ ((48 : Int) ≤ d ∧ (d : Int) ≤ 57 ∧ (d : Int) < 97) ∨ (((d : Int) != 45) = false ∧ (d : Int) < 48 ∧ (d : Int) < 97) by
       rcases hc with h | h | h
       ·exact .inl (by omega)
       ·exact .inr (.inl (by omega))
       ·exact .inr (.inr ⟨by subst h;rfl,by omega,by omega⟩)) with ⟨f1,f2⟩ | ⟨f1,f2,f3⟩ | ⟨f1,f2,f3⟩
      all_goals
       clear hc
       subst hd
       go_wp2
       all_goals
        go_roundg (s.size - (i + 1))
        case measure => have := hg.out;omega
        case rel => exact ⟨i + 1,rfl,by omega,by go_num,rfl,hnext.out⟩
     ·have hf : nameB s = false := name_at hlt (by rw [hb.out];simpa using hc)
      unfold nameC at hc
      rw [decide_eq_true_iff] at hc
      rw [hf]
      have f0 : ((d : Int) != 45) = true := by
       have : (d : Int) ≠ 45 := by omega
       simpa using this
      rcases (show ((d : Int) < 48 ∧ (d : Int) < 97) ∨ ((57 : Int) < d ∧ (48 : Int) ≤ d ∧ (d : Int) < 97) ∨ ((122 : Int) < d ∧ (57 : Int) < d ∧ (48 : Int) ≤ d ∧ (97 : Int) ≤ d) by omega) with ⟨f1,f2⟩ | ⟨f1,f2,f3⟩ | ⟨f1,f2,f3,f4⟩
      all_goals
       clear hc
       subst hd
       go_wp2
       all_goals
        first | (go_ret;exact ⟨rfl,rfl⟩) | (exfalso;rename_i k1 k2;(try simp at k1);(try simp at k2);omega)
    ·have hie : i = s.size := by omega
     have hyes := hide (name_yes h1 h2 h3a.out h3b.out (fun j hj => hall.out j (by omega)))
     go_wp2
     go_ret
     rw [hyes.out]
     exact ⟨rfl,rfl⟩
  ·rw [name_first (by rw [hcb];exact h3)]
   clear hcb
   rcases (show c < 97 ∨ 122 < c by omega) with h | h
   all_goals
    subst hc
    go_enter Tryz.func68,Tryz.ntmps68
    go_wp2
    all_goals
     go_ret
     exact ⟨rfl,rfl⟩
 ·rw [name_short h1]
  rcases (show s.size < 1 ∨ 24 < s.size by omega) with h | h
  all_goals
   clear h1
   go_enter Tryz.func68,Tryz.ntmps68
   go_wp2
   go_ret
   exact ⟨rfl,rfl⟩
end Go.Proofs.YtelgllgaofjgjaaGreat
end
section
open Go.RowKit
set_option linter.unusedVariables false
namespace Go.Proofs.YtelgllgaofjgjaaGreat
open Go.Maps (Keyed)
theorem plainElem_bool_inv {H : Type} {P : Program} {e : TypeId} (he : P.underlying e = some .bool) {v : Value} {z : DataW H × List MemPlace} (h : plainElem P e v = some z) : ∃ x,v = .bool x ∧ z = (.lit (.bool x),[]) := by
 unfold plainElem at h
 rw [he] at h
 cases v <;> simp at h
 exact ⟨_,rfl,h.symm⟩
def SetIs (P : Program) (k e : TypeId) (w : World) (b n : Nat) (S : List Lit) : Prop :=
 ∃ D : DataW Unit,Go.Maps.IsMap D ∧ w.ownsMap P k (plainElem P e) b n D ∧ ∀ kl,WideAt.IsKeyLit kl → D.atKey kl (.lit (.bool false)) = .lit (.bool (S.any (fun y => y.sameKey kl)))
theorem SetIs.made (P : Program) (k e : TypeId) (w : World) : SetIs P k e (w.alloc (.map #[] 0)) w.heap.size 0 [] :=
 ⟨.map [],Go.Maps.isMap_empty,World.ownsMap_made w P k _,fun _ _ => rfl⟩
theorem SetIs.alloc {P : Program} {k e : TypeId} {w : World} {b n : Nat} {S : List Lit} (h : SetIs P k e w b n S) (o : Obj) : SetIs P k e (w.alloc o) b n S := by
 obtain ⟨D,h1,h2,h3⟩ := h
 exact ⟨D,h1,h2.alloc o,h3⟩
theorem SetIs.drew {P : Program} {k e : TypeId} {w : World} {b n : Nat} {S : List Lit} (h : SetIs P k e w b n S) : SetIs P k e w.drew b n S := h
theorem SetIs.kept {P : Program} {k e : TypeId} {w w' : World} {b n : Nat} {S : List Lit} {row : Option Nat} (h : SetIs P k e w b n S) (hg : w.grownBy w' row) (hne : some b ≠ row) : SetIs P k e w' b n S := by
 obtain ⟨D,h1,h2,h3⟩ := h
 exact ⟨D,h1,h2.kept hg hne,h3⟩
theorem SetIs.lt {P : Program} {k e : TypeId} {w : World} {b n : Nat} {S : List Lit} (h : SetIs P k e w b n S) : b < w.heap.size := by
 obtain ⟨D,h1,h2,h3⟩ := h
 exact h2.lt
theorem SetIs.below {P : Program} {k e : TypeId} {w w' : World} {b n : Nat} {S : List Lit} (h : SetIs P k e w b n S) (hb : Below w.heap.size w w') : SetIs P k e w' b n S := by
 have hl := h.lt
 obtain ⟨D,h1,⟨es,clock,h4,F,hs,hD⟩,h3⟩ := h
 exact ⟨D,h1,⟨es,clock,(hb.block b hl).trans h4,F,hs,hD⟩,h3⟩
theorem SetIs.look {P : Program} {k e t : TypeId} {w : World} {b n : Nat} {S : List Lit} (hown : SetIs P k e w b n S) (K : Keyed P k) (ht : P.underlying t = some (.map k e)) (he : P.underlying e = some .bool) (hz : (zeroValue e).run P w = .ok (.bool false) w)
  {key : Value} {kl : Lit} (hkey : keyOf P k key = some kl) (hkl : WideAt.IsKeyLit kl) : (Instr.lookup t (.map (some b)) key false).run P w = .ok (.bool (S.any (fun y => y.sameKey kl))) w := by
 obtain ⟨D,h1,h2,h3⟩ := hown
 obtain ⟨v,ps,hrun,hv⟩ := h2.lookup K ht hz (plainElem_bool he false) hkey
 obtain ⟨c,rfl,hc⟩ := plainElem_bool_inv he hv
 simp only [Prod.mk.injEq] at hc
 rw [h3 kl hkl] at hc
 have hcc : c = S.any (fun y => y.sameKey kl) := by
  have := hc.1
  injection this with this
  injection this with this
  exact this.symm
 rw [hrun,hcc]
theorem wp_update_set {P : Program} {w : World} {o : Oper} {a : Act} {K' : Act → World → Prop} {Q : Exit → Act → World → Prop}
  (m x v : Operand) (t : TypeId) (hop : o.op = Op.mapUpdate t m x v)
  (k e : TypeId) (K : Keyed P k) (ht : P.underlying t = some (.map k e)) (he : P.underlying e = some .bool) (b n : Nat) (S : List Lit)
  (hm : a.eval m = .map (some b)) (hown : SetIs P k e w b n S) (hn : n < maxLen) (key : Value) (kl : Lit) (hx : a.eval x = key) (hv : a.eval v = .bool true) (hkey : keyOf P k key = some kl) (hkl : WideAt.IsKeyLit kl)
  (hK : ∀ w',SetIs P k e w' b (n + 1) (S ++ [kl]) → w.grownBy w' (some b) → K' (a.put o.dst undef) w') :
  o.wp P a w K' Q := by
 obtain ⟨D,h1,h2,h3⟩ := hown
 obtain ⟨w',hrun,r1,r2⟩ := h2.update K ht hn hkey (plainElem_bool he true)
 unfold Oper.wp
 simp [execOp,hop,hm,hx,hv,hrun,Result.andThen]
 refine hK w' ⟨_,h1.put kl _,r1,fun kl' hkl' => ?_⟩ r2
 rw [List.any_append]
 by_cases e' : kl' = kl
 ·subst e'
  rw [Go.Maps.atKey_put_same h1 hkl]
  simp [WideAt.sameKey_self hkl]
 ·rw [Go.Maps.atKey_put_other e',h3 kl' hkl']
  simp [Go.Maps.sameKey_ne (fun h => e' h.symm)]
theorem bytes_loop (s : ByteArray) : ∀ i r,ByteArray.toList.loop s i r = r.reverse ++ s.data.toList.drop i := by
 intro i r
 induction i,r using ByteArray.toList.loop.induct s with
 | case1 i r h ih =>
  unfold ByteArray.toList.loop;rw [if_pos h,ih]
  have hl : i < s.data.toList.length := by simpa using h
  rw [List.drop_eq_getElem_cons hl,List.reverse_cons,List.append_assoc]
  have hg : s.get! i = s.data.toList[i] := by
   obtain ⟨d⟩ := s
   show d[i]! = _
   simp at hl
   simp [getElem!_pos,hl]
  rw [hg];rfl
 | case2 i r h =>
  unfold ByteArray.toList.loop;rw [if_neg h]
  rw [List.drop_of_length_le (by simpa using h)];simp
theorem bytes_list (s : ByteArray) : s.toList = s.data.toList := by
 unfold ByteArray.toList;rw [bytes_loop];simp
theorem bytes_inj {a b : ByteArray} (h : a.toList = b.toList) : a = b := by
 rw [bytes_list,bytes_list] at h
 obtain ⟨⟨x⟩⟩ := a
 obtain ⟨⟨y⟩⟩ := b
 simp at h
 rw [h]
theorem bytes_ne {a b : ByteArray} (h : a ≠ b) : (a.toList == b.toList) = false := by
 rw [beq_eq_false_iff_ne]
 exact fun e => h (bytes_inj e)
end Go.Proofs.YtelgllgaofjgjaaGreat
end
section
open Go.RowKit
set_option linter.unusedVariables false
set_option linter.unusedSimpArgs false
namespace Go.Proofs.YtelgllgaofjgjaaGreat
theorem Rd.len_eq {α : Type} {V : α → Value} {w : World} {ao : Option Addr} {n cap : Nat} {l : List α} (h : Rd V w (.slice ao n cap) l) : n = l.length := by
 obtain ⟨ao',cap',e,-⟩ := h
 injection e
theorem Rd.drop {α : Type} {V : α → Value} {w : World} {ao : Option Addr} {cap k : Nat} {l : List α} (h : Rd V w (.slice ao l.length cap) l) (hk : k ≤ l.length) :
  Rd V w (sliced ao k l.length cap 1) (l.drop k) := by
 obtain ⟨ao',cap',e,h1,h2,h3⟩ := h
 injection e with e1 _ e3
 subst e1 e3
 have hl : (l.drop k).length = l.length - k := List.length_drop
 unfold sliced
 refine ⟨_,cap - k,by rw [hl],by omega,by omega,fun hp => ?_⟩
 obtain ⟨b,off,rfl,hb,hc⟩ := h3 (by omega)
 refine ⟨b,off + k,?_,hb,fun i x hx => ?_⟩
 ·rw [if_neg (by omega)]
  simp only [Option.map_some,Nat.mul_one,Addr.add]
  split
  ·next h0 => subst h0;rfl
  ·rfl
 ·rw [List.getElem?_drop] at hx
  have := hc (k + i) x hx
  rw [show off + k + i = off + (k + i) by omega];exact this
end Go.Proofs.YtelgllgaofjgjaaGreat
end
